/- Slices of ints: the laws' copies, comparisons and marks. -/
import Derived.Test.YtcllkocmnohnkaaToBool
import Derived.Test.YtcllkocmnohnkaaGrow
namespace Go.Proofs.Ytcllkocmnohnkaa
open Go.RowKit

theorem toIntS_any (A : Option Addr) (n cap : Nat) (xs : List Int) (w : World) (hn : xs.length = n) (hb : n ≤ 1048576) (hr : Rd w w.heap.size A (xs.map (Value.int .i64))) :
    Calls Try.prog 69 #[.slice A n cap] w fun e w' => e = .returned (.slice (some ⟨w.heap.size, 0, none⟩) n n) ∧ Row w' w.heap.size 3 (xs.map (Value.int .i64)) ∧ Below w.heap.size w w' := by
  have Hn := Lib.hid hn; clear hn
  have hmk := fun W => run_make1 (P := Try.prog) 25 3 (.int .i64 0) 8 Try.underlying25 (by kernel_rfl) rfl n (by omega) (by omega) W
  go_enter Try.func69, Try.ntmps69
  go_wp2_with fail
  go_loopw [4] (fun i wr => ∃ k : Nat, k ≤ n ∧ i = .int .i64 k ∧ Row wr w.heap.size 3 (part (.int .i64 0) (xs.map (Value.int .i64)) k) ∧ Below w.heap.size w wr) (fun i _ => n - (intOf i).toNat)
  case atStart =>
    refine ⟨0, by omega, rfl, ?_, (Below.refl _ _).alloc (Nat.le_refl _) _⟩
    have := Row.new w 3 (part (.int .i64 0) (xs.map (Value.int .i64)) 0)
    unfold part at this ⊢
    simpa [Hn.out] using this
  case round =>
    obtain ⟨k, hk, rfl, hrow, hbel⟩ := hrel
    have hr' := hr.below hbel
    clear hmk
    have Hbel := Lib.hid hbel; clear hbel
    by_cases hlt : k < n
    · obtain ⟨x, hx⟩ : ∃ x, xs[k]? = some x := ⟨_, List.getElem?_eq_getElem (by rw [Hn.out]; exact hlt)⟩
      have hu : (xs.map (Value.int .i64))[k]? = some (.int .i64 x) := by rw [List.getElem?_map, hx]; rfl
      obtain ⟨b, off, rfl, hb2, hc1⟩ := hr' k _ hu
      have hc2 : wr.cell? ⟨w.heap.size, k, none⟩ = some (.int .i64 0) := by rw [hrow.cell]; exact part_get _ _ _ (by rw [List.length_map, Hn.out]; exact hlt)
      have hf2 := hrow.frozen k
      have Hrow := Lib.hid hrow; clear hrow
      have Hu := Lib.hid hu; clear hu hx
      go_wp2_with fail
      go_roundw
      case measure => simp [intOf]; omega
      case rel =>
        refine ⟨k + 1, by omega, by go_num, ?_, Hbel.out.setCell (p := ⟨w.heap.size, k, none⟩) (Nat.le_refl _) _⟩
        rw [← part_succ _ _ _ _ Hu.out]
        exact Hrow.out.set_ k _
    · obtain rfl : k = n := by omega
      have Hrow := Lib.hid hrow; clear hrow
      go_wp2_with fail
      go_ret
      refine ⟨rfl, ?_, Hbel.out⟩
      have := Hrow.out
      rw [← Hn.out, show xs.length = (xs.map (Value.int .i64)).length from by simp, part_all] at this
      exact this

/-- Two lists of which the heads agree. -/
theorem eqIntS_any (A B : Option Addr) (n m capA capB : Nat) (xs ys : List Int) (w : World) (hn : xs.length = n) (hm : ys.length = m) (hb : n ≤ 1048576)
    (hr : Rd w w.heap.size A (xs.map (Value.int .i64))) (hr2 : Rd w w.heap.size B (ys.map (Value.int .i64))) :
    Calls Try.prog 41 #[.slice A n capA, .slice B m capB] w fun e w' => e = .returned (.bool (decide (xs = ys))) ∧ Below w.heap.size w w' := by
  by_cases hnm : n = m
  · subst hnm
    have Hn := Lib.hid hn; clear hn
    have Hm := Lib.hid hm; clear hm
    go_enter Try.func41, Try.ntmps41
    go_wp2_with fail
    go_loopw [5] (fun i wr => ∃ k : Nat, k ≤ n ∧ i = .int .i64 k ∧ xs.take k = ys.take k ∧ Below w.heap.size w wr) (fun i _ => n - (intOf i).toNat)
    case atStart => exact ⟨0, by omega, rfl, rfl, Below.refl _ _⟩
    case round =>
      obtain ⟨k, hk, rfl, heq, hbel⟩ := hrel
      have hr' := hr.below hbel
      have hr2' := hr2.below hbel
      have Hbel := Lib.hid hbel; clear hbel
      have Heq := Lib.hid heq; clear heq
      by_cases hlt : k < n
      · obtain ⟨x, hx⟩ : ∃ x, xs[k]? = some x := ⟨_, List.getElem?_eq_getElem (by rw [Hn.out]; exact hlt)⟩
        obtain ⟨y, hy⟩ : ∃ y, ys[k]? = some y := ⟨_, List.getElem?_eq_getElem (by rw [Hm.out]; exact hlt)⟩
        obtain ⟨b, off, rfl, hb2, hc1⟩ := hr' k (.int .i64 x) (by simp [hx])
        obtain ⟨b', off', rfl, hb2', hc2⟩ := hr2' k (.int .i64 y) (by simp [hy])
        have Hx := Lib.hid hx; clear hx
        have Hy := Lib.hid hy; clear hy
        by_cases hxy : x = y
        · subst hxy
          have hne : (x != x) = false := by simp
          go_wp2_with fail
          go_quiet (fail)
          go_wp2_with fail
          go_roundw
          case measure => simp [intOf]; omega
          case rel =>
            refine ⟨k + 1, by omega, by go_num, ?_, below_drewN Hbel.out _⟩
            rw [List.take_add_one, List.take_add_one, Heq.out, Hx.out, Hy.out]
        · have hne : (x != y) = true := by simpa using hxy
          have Hxy := Lib.hid hxy; clear hxy
          go_wp2_with fail
          go_quiet (fail)
          go_wp2_with fail
          go_ret
          refine ⟨ret_bool ?_, below_drewN Hbel.out _⟩
          symm
          rw [decide_eq_false_iff_not]
          rintro rfl
          exact Hxy.out (by simpa using Hx.out.symm.trans Hy.out)
      · obtain rfl : k = n := by omega
        go_wp2_with fail
        go_ret
        refine ⟨ret_bool ?_, Hbel.out⟩
        symm
        rw [decide_eq_true_iff]
        have := Heq.out
        rwa [List.take_of_length_le (by rw [Hn.out]; exact Nat.le_refl _), List.take_of_length_le (by rw [Hm.out]; exact Nat.le_refl _)] at this
  · have hb : ((n : Int) != (m : Int)) = true := by rw [bne_iff_ne]; omega
    go_enter Try.func41, Try.ntmps41
    go_wp2_with fail
    go_ret
    refine ⟨ret_bool ?_, Below.refl _ _⟩
    symm
    rw [decide_eq_false_iff_not]
    rintro rfl
    omega
/-- Two lists of which the heads agree. -/
theorem sameInts_any (A B : Option Addr) (n m capA capB : Nat) (xs ys : List Int) (w : World) (hn : xs.length = n) (hm : ys.length = m) (hb : n ≤ 1048576)
    (hr : Rd w w.heap.size A (xs.map (Value.int .i64))) (hr2 : Rd w w.heap.size B (ys.map (Value.int .i64))) :
    Calls Try.prog 32 #[.slice A n capA, .slice B m capB] w fun e w' => e = .returned (.bool (decide (xs = ys))) ∧ Below w.heap.size w w' := by
  by_cases hnm : n = m
  · subst hnm
    have Hn := Lib.hid hn; clear hn
    have Hm := Lib.hid hm; clear hm
    go_enter Try.func32, Try.ntmps32
    go_wp2_with fail
    go_loopw [5] (fun i wr => ∃ k : Nat, k ≤ n ∧ i = .int .i64 k ∧ xs.take k = ys.take k ∧ Below w.heap.size w wr) (fun i _ => n - (intOf i).toNat)
    case atStart => exact ⟨0, by omega, rfl, rfl, Below.refl _ _⟩
    case round =>
      obtain ⟨k, hk, rfl, heq, hbel⟩ := hrel
      have hr' := hr.below hbel
      have hr2' := hr2.below hbel
      have Hbel := Lib.hid hbel; clear hbel
      have Heq := Lib.hid heq; clear heq
      by_cases hlt : k < n
      · obtain ⟨x, hx⟩ : ∃ x, xs[k]? = some x := ⟨_, List.getElem?_eq_getElem (by rw [Hn.out]; exact hlt)⟩
        obtain ⟨y, hy⟩ : ∃ y, ys[k]? = some y := ⟨_, List.getElem?_eq_getElem (by rw [Hm.out]; exact hlt)⟩
        obtain ⟨b, off, rfl, hb2, hc1⟩ := hr' k (.int .i64 x) (by simp [hx])
        obtain ⟨b', off', rfl, hb2', hc2⟩ := hr2' k (.int .i64 y) (by simp [hy])
        have Hx := Lib.hid hx; clear hx
        have Hy := Lib.hid hy; clear hy
        by_cases hxy : x = y
        · subst hxy
          have hne : (x != x) = false := by simp
          go_wp2_with fail
          go_quiet (fail)
          go_wp2_with fail
          go_roundw
          case measure => simp [intOf]; omega
          case rel =>
            refine ⟨k + 1, by omega, by go_num, ?_, below_drewN Hbel.out _⟩
            rw [List.take_add_one, List.take_add_one, Heq.out, Hx.out, Hy.out]
        · have hne : (x != y) = true := by simpa using hxy
          have Hxy := Lib.hid hxy; clear hxy
          go_wp2_with fail
          go_quiet (fail)
          go_wp2_with fail
          go_ret
          refine ⟨ret_bool ?_, below_drewN Hbel.out _⟩
          symm
          rw [decide_eq_false_iff_not]
          rintro rfl
          exact Hxy.out (by simpa using Hx.out.symm.trans Hy.out)
      · obtain rfl : k = n := by omega
        go_wp2_with fail
        go_ret
        refine ⟨ret_bool ?_, Hbel.out⟩
        symm
        rw [decide_eq_true_iff]
        have := Heq.out
        rwa [List.take_of_length_le (by rw [Hn.out]; exact Nat.le_refl _), List.take_of_length_le (by rw [Hm.out]; exact Nat.le_refl _)] at this
  · have hb : ((n : Int) != (m : Int)) = true := by rw [bne_iff_ne]; omega
    go_enter Try.func32, Try.ntmps32
    go_wp2_with fail
    go_ret
    refine ⟨ret_bool ?_, Below.refl _ _⟩
    symm
    rw [decide_eq_false_iff_not]
    rintro rfl
    omega

/-- The marks k, k + 1, .. -/
def marksI (k : Int) (n : Nat) : List Value := (List.range n).map fun (i : Nat) => Value.int .i64 (k + (i : Int))
theorem marksI_len (k : Int) (n : Nat) : (marksI k n).length = n := by simp [marksI]
theorem marksI_succ (k : Int) (n : Nat) : marksI k (n + 1) = marksI k n ++ [.int .i64 (k + n)] := by simp [marksI, List.range_succ]
/-- Marked up to i. -/
def markedI (k : Int) (xs : List Value) (i : Nat) : List Value := marksI k i ++ xs.drop i
theorem markedI_set (k : Int) (xs : List Value) (i : Nat) (h : i < xs.length) : (markedI k xs i).set i (.int .i64 (k + i)) = markedI k xs (i + 1) := by
  unfold markedI
  rw [List.set_append_right _ _ (by rw [marksI_len]; exact Nat.le_refl _), marksI_len, Nat.sub_self, List.drop_eq_getElem_cons h, List.set_cons_zero, marksI_succ, List.append_assoc]; rfl
theorem markedI_zero (k : Int) (xs : List Value) : markedI k xs 0 = xs := by simp [markedI, marksI]
theorem markedI_all (k : Int) (xs : List Value) : markedI k xs xs.length = marksI k xs.length := by simp [markedI]
theorem markedI_get (k : Int) (xs : List Value) (i : Nat) : (markedI k xs i)[i]? = xs[i]? := by
  unfold markedI
  rw [List.getElem?_append_right (by rw [marksI_len]; exact Nat.le_refl _), marksI_len, Nat.sub_self]; simp
theorem marksI_get (k : Int) (n i : Nat) (h : i < n) : (marksI k n)[i]? = some (.int .i64 (k + i)) := by simp [marksI, h]

theorem grown_set (W : World) (b i : Nat) (v : Value) : W.grownBy (W.setCell ⟨b, i, none⟩ v) (some b) :=
  ⟨rfl, rfl, rfl, (KeepsWalks.setCell W _ v).size, fun k _ hk => Below.heap_setCell _ _ _ k (fun e => hk (by rw [e]))⟩
theorem grown_refl (W : World) (r : Option Nat) : W.grownBy W r := ⟨rfl, rfl, rfl, Nat.le_refl _, fun _ _ _ => rfl⟩
theorem grown_trans {A B C : World} {r : Option Nat} (h : A.grownBy B r) (k : B.grownBy C r) : A.grownBy C r :=
  ⟨k.os.trans h.os, k.tape.trans h.tape, k.output.trans h.output, Nat.le_trans h.size k.size, fun i hi hr => (k.block i (Nat.lt_of_lt_of_le hi h.size) hr).trans (h.block i hi hr)⟩

/-- A cell of an own row: read, and stored. -/
theorem own_set {w : World} {base : Nat} {T : TypeId} {size n cap : Nat} {A : Option Addr} {xs : List Value} (h : w.ownsRow base T size (.slice A n cap) n xs) {i : Nat} {u : Value} (hi : xs[i]? = some u) :
    ∃ g, A = some ⟨g, 0, none⟩ ∧ base ≤ g ∧ (Value.slice A n cap).ownBlock = some g ∧ w.cell? ⟨g, i, none⟩ = some u ∧ w.frozen? ⟨g, i, none⟩ = false ∧ ∀ x, (w.setCell ⟨g, i, none⟩ x).ownsRow base T size (.slice A n cap) n (xs.set i x) := by
  rcases h with ⟨hl, ⟨h1, h2⟩ | ⟨g, cap', cur, hv, hB, hg, h1, h2, h3, h4⟩⟩
  · subst h2
    rw [Nat.zero_mul] at hl
    rw [List.length_eq_zero_iff.1 hl] at hi
    simp at hi
  · injection hv with e1 e2 e3
    subst e1; subst e3
    have hc : cur[i]? = some u := by
      rw [← h4, List.getElem?_take] at hi
      split at hi
      · simpa using hi
      · cases hi
    refine ⟨g, rfl, hB, rfl, ?_, by simp [World.frozen?, hg], fun x => ⟨by simpa using hl, .inr ⟨g, cap, cur.set! i x, rfl, hB, ?_, h1, h2, by simpa using h3, ?_⟩⟩⟩
    · rw [cell_of_row w g i cur T (0, 0) hg]; exact hc
    · simp [World.setCell, Array.getElem?_modify, hg]
    · rw [← h4]; simp [List.take_set]

theorem markIntS_any (base : Nat) (A : Option Addr) (n cap : Nat) (k : Int) (xs : List Value) (w : World) (hb : n ≤ 4000000) (hk : -1000000000000 ≤ k ∧ k ≤ 1000000000000) (hi : ∀ u ∈ xs, ∃ z, u = .int .i64 z) (h : w.ownsRow base 3 1 (.slice A n cap) n xs) :
    Calls Try.prog 44 #[.slice A n cap, .int .i64 k] w fun e w' => e = .returned (.int .i64 (k + n)) ∧ w'.ownsRow base 3 1 (.slice A n cap) n (marksI k n) ∧ w.grownBy w' (Value.slice A n cap).ownBlock := by
  have hl : xs.length = n := by rw [h.1, Nat.mul_one]
  have Hl := Lib.hid hl; clear hl
  have H := Lib.hid h; clear h
  go_enter Try.func44, Try.ntmps44
  go_wp2_with fail
  go_loopw [1, 5] (fun kk i wr => ∃ j : Nat, j ≤ n ∧ i = .int .i64 j ∧ kk = .int .i64 (k + j) ∧ wr.ownsRow base 3 1 (.slice A n cap) n (markedI k xs j) ∧ w.grownBy wr (Value.slice A n cap).ownBlock) (fun _ i _ => n - (intOf i).toNat)
  case atStart => exact ⟨0, by omega, rfl, by simp, by rw [markedI_zero]; exact H.out, grown_refl _ _⟩
  case round =>
    obtain ⟨j, hj, rfl, rfl, hrow, hgr⟩ := hrel
    by_cases hlt : j < n
    · obtain ⟨u, hu⟩ : ∃ u, xs[j]? = some u := ⟨_, List.getElem?_eq_getElem (by rw [Hl.out]; exact hlt)⟩
      obtain ⟨z, rfl⟩ := hi u (List.mem_of_getElem? hu)
      obtain ⟨g, rfl, hBg, hob, hc, hf, hset⟩ := own_set hrow ((markedI_get k xs j).trans hu)
      have Hset := Lib.hid hset; clear hset hrow
      have Hgr := Lib.hid hgr; clear hgr
      have Hu := Lib.hid hu; clear hu
      go_wp2_with fail
      go_roundw
      case measure => simp [intOf]; omega
      case rel =>
        refine ⟨j + 1, by omega, by go_num, by go_num, ?_, grown_trans Hgr.out (by rw [hob]; exact grown_set _ _ _ _)⟩
        rw [← markedI_set k xs j (by rw [Hl.out]; exact hlt)]
        exact Hset.out _
    · obtain rfl : j = n := by omega
      have Hrow := Lib.hid hrow; clear hrow
      go_wp2_with fail
      go_ret
      refine ⟨rfl, ?_, hgr⟩
      have e := markedI_all k xs
      rw [Hl.out] at e
      rw [← e]
      exact Hrow.out
end Go.Proofs.Ytcllkocmnohnkaa
