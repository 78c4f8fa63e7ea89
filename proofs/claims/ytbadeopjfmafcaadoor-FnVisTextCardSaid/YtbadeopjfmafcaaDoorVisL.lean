/- Slices of visibilities: the laws' copies, comparisons and marks. -/
import Derived.Test.YtbadeopjfmafcaaDoorA3
namespace Go.Proofs.YtbadeopjfmafcaaDoor
open Go.RowKit

theorem visInfo2 : (Tryd.prog.info? 70).map (fun i => (i.zero, i.size, i.bytes)) = some (some (.agg #[.int .i64 0, .int .i64 0]), 2, 16) := by kernel_rfl
theorem eqVis_any (a b c d : Int) (w : World) :
    Calls Tryd.prog 55 #[.agg #[.int .i64 a, .int .i64 b], .agg #[.int .i64 c, .int .i64 d]] w fun e w' => e = .returned (.bool (decide ((a, b) = (c, d)))) ∧ Below w.heap.size w w' := by
  by_cases h1 : a = c
  · subst h1
    by_cases h2 : b = d
    · subst h2
      go_enter Tryd.func55, Tryd.ntmps55
      go_wp2_with fail
      go_ret
      exact ⟨ret_bool (by simp), bA2⟩
    · have hb : (b != d) = true := by rw [bne_iff_ne]; exact h2
      have H2 := Lib.hid h2
      clear h2
      go_enter Tryd.func55, Tryd.ntmps55
      go_wp2_with fail
      go_ret
      exact ⟨ret_bool (by simp [H2.out]), bA2⟩
  · have hb : (a != c) = true := by rw [bne_iff_ne]; exact h1
    have H1 := Lib.hid h1
    clear h1
    go_enter Tryd.func55, Tryd.ntmps55
    go_wp2_with fail
    go_ret
    exact ⟨ret_bool (by simp [H1.out]), bA2⟩

theorem toVis_any (a b : Int) (w : World) :
    Calls Tryd.prog 52 #[.agg #[.int .i64 a, .int .i64 b]] w fun e w' => e = .returned (.agg #[.int .i64 a, .int .i64 b]) ∧ Below w.heap.size w w' := by
  go_enter Tryd.func52, Tryd.ntmps52
  go_wp2_with fail
  refine bodyPost_ret (v := .agg #[.int .i64 a, .int .i64 b]) (by simp [results, Tryd.results52, go_sem]) rfl ⟨rfl, ?_⟩
  exact bA3

set_option maxRecDepth 100000 in
set_option maxHeartbeats 1000000 in
theorem eqVisS_any (A B : Option Addr) (n m capA capB : Nat) (xs ys : List (Int × Int)) (w : World) (hn : xs.length = n) (hm : ys.length = m) (hb : n ≤ 1048576)
    (hr : Rd w w.heap.size A (xs.flatMap pairCells)) (hr2 : Rd w w.heap.size B (ys.flatMap pairCells)) :
    Calls Tryd.prog 23 #[.slice A n capA, .slice B m capB] w fun e w' => e = .returned (.bool (decide (xs = ys))) ∧ Below w.heap.size w w' := by
  by_cases hnm : n = m
  · subst hnm
    have Hn := Lib.hid hn; clear hn
    have Hm := Lib.hid hm; clear hm
    go_enter Tryd.func23, Tryd.ntmps23
    go_wp2_with fail
    go_loopw [5] (fun i wr => ∃ k : Nat, k ≤ n ∧ i = .int .i64 k ∧ xs.take k = ys.take k ∧ Below w.heap.size w wr) (fun i _ => n - (intOf i).toNat)
    case atStart => exact ⟨0, by omega, rfl, rfl, Below.refl _ _⟩
    case round =>
      obtain ⟨k, hk, rfl, heq, hbel⟩ := hrel
      have hr' := hr.below hbel
      have hr2' := hr2.below hbel
      have Hbel := Lib.hid hbel; clear hbel
      have Heq := Lib.hid heq; clear heq
      by_cases hlt : k < n
      · obtain ⟨x, hx⟩ : ∃ x, xs[k]? = some x := ⟨_, List.getElem?_eq_getElem (by rw [Hn.out]; exact hlt)⟩
        obtain ⟨y, hy⟩ : ∃ y, ys[k]? = some y := ⟨_, List.getElem?_eq_getElem (by rw [Hm.out]; exact hlt)⟩
        obtain ⟨b, off, rfl, hb2, hc1, hc1'⟩ := rd_pair hr' hx
        obtain ⟨b', off', rfl, hb2', hc2, hc2'⟩ := rd_pair hr2' hy
        obtain ⟨x1, x2⟩ := x
        obtain ⟨y1, y2⟩ := y
        dsimp only at hc1 hc1' hc2 hc2'
        have Hx := Lib.hid hx; clear hx
        have Hy := Lib.hid hy; clear hy
        have hlt' : k < n := hlt
        go_wp2_with fail
        have f1 : ∀ w', Below wr.heap.size wr w' → (Instr.loadAt 70 (.pointer (some ⟨b, off + k * 2, none⟩))).run Tryd.prog w' = .ok (.agg #[.int .i64 x1, .int .i64 x2]) w' := fun w' h =>
          ld_two (by kernel_rfl) (by kernel_rfl) ((h.cell (p := ⟨b, off + k * 2, none⟩) (Nat.lt_of_lt_of_le hb2 Hbel.out.size)).trans hc1) ((h.cell (p := ⟨b, off + k * 2 + 1, none⟩) (Nat.lt_of_lt_of_le hb2 Hbel.out.size)).trans hc1')
        have f2 : ∀ w', Below wr.heap.size wr w' → (Instr.loadAt 70 (.pointer (some ⟨b', off' + k * 2, none⟩))).run Tryd.prog w' = .ok (.agg #[.int .i64 y1, .int .i64 y2]) w' := fun w' h =>
          ld_two (by kernel_rfl) (by kernel_rfl) ((h.cell (p := ⟨b', off' + k * 2, none⟩) (Nat.lt_of_lt_of_le hb2' Hbel.out.size)).trans hc2) ((h.cell (p := ⟨b', off' + k * 2 + 1, none⟩) (Nat.lt_of_lt_of_le hb2' Hbel.out.size)).trans hc2')
        refine wp_region_N [] [] (by kernel_rfl) (by kernel_rfl) ?_
        refine wpStill_go (v := .slice (some ⟨b, off, none⟩) n capA) rfl rfl (stays_run fun w' h => ex_move rfl rfl) ?_
        simp only [Act.put, List.setIfInBounds_toArray, List.set_cons_succ, List.set_cons_zero]
        refine wpStill_go (v := .int .i64 k) rfl rfl (stays_run fun w' h => ex_move rfl rfl) ?_
        simp only [Act.put, List.setIfInBounds_toArray, List.set_cons_succ, List.set_cons_zero]
        refine wpStill_go (v := .pointer (some ⟨b, off + k * 2, none⟩)) rfl rfl (stays_run fun w' h => ex_index rfl (by kernel_rfl) (by kernel_rfl) rfl rfl hlt') ?_
        simp only [Act.put, List.setIfInBounds_toArray, List.set_cons_succ, List.set_cons_zero]
        refine wpStill_go (v := .agg #[.int .i64 x1, .int .i64 x2]) rfl rfl (stays_run fun w' h => ex_load rfl rfl (f1 w' h)) ?_
        simp only [Act.put, List.setIfInBounds_toArray, List.set_cons_succ, List.set_cons_zero]
        refine wpStill_go (v := .slice (some ⟨b', off', none⟩) n capB) rfl rfl (stays_run fun w' h => ex_move rfl rfl) ?_
        simp only [Act.put, List.setIfInBounds_toArray, List.set_cons_succ, List.set_cons_zero]
        refine wpStill_go (v := .int .i64 k) rfl rfl (stays_run fun w' h => ex_move rfl rfl) ?_
        simp only [Act.put, List.setIfInBounds_toArray, List.set_cons_succ, List.set_cons_zero]
        refine wpStill_go (v := .pointer (some ⟨b', off' + k * 2, none⟩)) rfl rfl (stays_run fun w' h => ex_index rfl (by kernel_rfl) (by kernel_rfl) rfl rfl hlt') ?_
        simp only [Act.put, List.setIfInBounds_toArray, List.set_cons_succ, List.set_cons_zero]
        refine wpStill_go (v := .agg #[.int .i64 y1, .int .i64 y2]) rfl rfl (stays_run fun w' h => ex_load rfl rfl (f2 w' h)) ?_
        simp only [Act.put, List.setIfInBounds_toArray, List.set_cons_succ, List.set_cons_zero]
        refine wpStill_go (v := .bool (decide ((x1, x2) = (y1, y2)))) rfl rfl (stays_call (f := 55) (args := #[.agg #[.int .i64 x1, .int .i64 x2], .agg #[.int .i64 y1, .int .i64 y2]]) (fun w' h => by simp [go_sem]) (fun w' _ => eqVis_any _ _ _ _ w')) ?_
        simp only [Act.put, List.setIfInBounds_toArray, List.set_cons_succ, List.set_cons_zero]
        refine wpStill_go (v := .bool (!decide ((x1, x2) = (y1, y2)))) rfl rfl (stays_run fun w' h => by simp [go_sem]) ?_
        simp only [Act.put, List.setIfInBounds_toArray, List.set_cons_succ, List.set_cons_zero]
        refine wpStill_nil ?_
        repeat (refine wpMark_skip rfl ?_)
        refine wpMark_nil fun w6 h6 => ?_
        have hbel6 : Below w.heap.size w w6 := Hbel.out.trans ((Below.refl _ wr).drew.trans (Below.mono h6 Hbel.out.size))
        simp only [onlyN, Exit.then]
        by_cases hxy : (x1, x2) = (y1, y2)
        · rw [decide_eq_true hxy]
          go_wp2_with fail
          go_roundw
          case measure => simp [intOf]; omega
          case rel =>
            refine ⟨k + 1, by omega, by go_num, ?_, hbel6⟩
            rw [List.take_add_one, List.take_add_one, Heq.out, Hx.out, Hy.out, hxy]
        · rw [decide_eq_false hxy]
          have Hxy := Lib.hid hxy; clear hxy
          go_wp2_with fail
          go_ret
          refine ⟨ret_bool ?_, hbel6⟩
          symm
          rw [decide_eq_false_iff_not]
          rintro rfl
          exact Hxy.out (by simpa using Hx.out.symm.trans Hy.out)
      · obtain rfl : k = n := by omega
        go_wp2_with fail
        go_ret
        refine ⟨ret_bool ?_, Hbel.out⟩
        symm
        rw [decide_eq_true_iff]
        have := Heq.out
        rwa [List.take_of_length_le (by rw [Hn.out]; exact Nat.le_refl _), List.take_of_length_le (by rw [Hm.out]; exact Nat.le_refl _)] at this
  · have hb : ((n : Int) != (m : Int)) = true := by rw [bne_iff_ne]; omega
    go_enter Tryd.func23, Tryd.ntmps23
    go_wp2_with fail
    go_ret
    refine ⟨ret_bool ?_, Below.refl _ _⟩
    symm
    rw [decide_eq_false_iff_not]
    rintro rfl
    omega

theorem szVisS_any (A : Option Addr) (n cap : Nat) (l : Int) (w : World) (hn : n ≤ 9223372036854775807) (hl : 0 ≤ l ∧ l ≤ 1048576) :
    Calls Tryd.prog 19 #[.slice A n cap, .int .i64 l] w fun e w' => e = .returned (.int .i64 (if l < n then -1 else l - n)) ∧ w = w' := by
  by_cases h : l < n
  · rw [if_pos h]
    go_enter Tryd.func19, Tryd.ntmps19
    go_wp2_with fail
    go_ret
    exact ⟨rfl, rfl⟩
  · rw [if_neg h]
    go_enter Tryd.func19, Tryd.ntmps19
    go_wp2_with fail
    go_ret
    exact ⟨rfl, rfl⟩

set_option maxRecDepth 100000 in
set_option maxRecDepth 100000 in
set_option maxHeartbeats 1000000 in
theorem toVisS_any (A : Option Addr) (n cap : Nat) (xs : List (Int × Int)) (w : World) (hn : xs.length = n) (hb : n ≤ 1048576) (hr : Rd w w.heap.size A (xs.flatMap pairCells)) :
    Calls Tryd.prog 21 #[.slice A n cap] w fun e w' => e = .returned (.slice (some ⟨w.heap.size, 0, none⟩) n n) ∧ Row w' w.heap.size 70 (xs.flatMap pairCells) ∧ Below w.heap.size w w' := by
  have Hn := Lib.hid hn; clear hn
  have hmk := fun W => run_make2 (P := Tryd.prog) 36 70 (.int .i64 0) (.agg #[.int .i64 0, .int .i64 0]) 16 Tryd.underlying36 visInfo2 rfl n (by omega) (by omega) W
  go_enter Tryd.func21, Tryd.ntmps21
  go_wp2_with fail
  go_loopw [4] (fun i wr => ∃ k : Nat, k ≤ n ∧ i = .int .i64 k ∧ Row wr w.heap.size 70 (partG xs k) ∧ Below w.heap.size w wr) (fun i _ => n - (intOf i).toNat)
  case atStart =>
    refine ⟨0, by omega, rfl, ?_, (Below.refl _ _).alloc (Nat.le_refl _) _⟩
    have := Row.new w 70 (partG xs 0)
    unfold partG at this ⊢
    simpa [Hn.out] using this
  case round =>
    obtain ⟨k, hk, rfl, hrow, hbel⟩ := hrel
    have hr' := hr.below hbel
    clear hmk
    have Hbel := Lib.hid hbel; clear hbel
    by_cases hlt : k < n
    · obtain ⟨x, hx⟩ : ∃ x, xs[k]? = some x := ⟨_, List.getElem?_eq_getElem (by rw [Hn.out]; exact hlt)⟩
      obtain ⟨b, off, rfl, hb2, hc1, hc2⟩ := rd_pair hr' hx
      have Hrow := Lib.hid hrow; clear hrow
      obtain ⟨x1, x2⟩ := x
      dsimp only at hc1 hc2
      have Hx := Lib.hid hx; clear hx
      go_wp2_with fail
      refine (toVis_any _ _ _).mono ?_
      rintro e w1 ⟨rfl, hb1⟩
      have r1 := Hrow.out.kept hb1
      have c1 : w1.cell? ⟨w.heap.size, k * 2, none⟩ = some (.int .i64 0) := by rw [r1.cell]; exact (partG_get xs k (by rw [Hn.out]; exact hlt)).1
      have c2 : w1.cell? ⟨w.heap.size, k * 2 + 1, none⟩ = some (.int .i64 0) := by rw [r1.cell]; exact (partG_get xs k (by rw [Hn.out]; exact hlt)).2
      have z1 := r1.frozen (k * 2)
      have z2 := r1.frozen (k * 2 + 1)
      have hbel1 : Below w.heap.size w w1 := Hbel.out.trans (hb1.mono Hbel.out.size)
      have R1 := Lib.hid r1; clear r1 hb1
      have Hbel1 := Lib.hid hbel1; clear hbel1
      go_wp2_with fail
      go_roundw
      case measure => simp [intOf]; omega
      case rel =>
        refine ⟨k + 1, by omega, by go_num, ?_, (Hbel1.out.setCell (p := ⟨w.heap.size, k * 2, none⟩) (Nat.le_refl _) _).setCell (p := ⟨w.heap.size, k * 2 + 1, none⟩) (Nat.le_refl _) _⟩
        rw [← partG_succ _ _ _ Hx.out]
        exact (R1.out.set_ _ _).set_ _ _
    · obtain rfl : k = n := by omega
      have Hrow := Lib.hid hrow; clear hrow
      go_wp2_with fail
      go_ret
      refine ⟨rfl, ?_, Hbel.out⟩
      have := Hrow.out
      rw [← Hn.out, partG_all] at this
      exact this

set_option maxRecDepth 100000 in
set_option maxRecDepth 100000 in
set_option maxHeartbeats 1000000 in
theorem markVisS_any (base : Nat) (A : Option Addr) (n cap : Nat) (k : Int) (xs : List Value) (w : World) (hb : n ≤ 4000000) (hk : -1000000000000 ≤ k ∧ k ≤ 1000000000000) (hi : ∀ u ∈ xs, ∃ z, u = .int .i64 z) (h : w.ownsRow base 70 2 (.slice A n cap) n xs) :
    Calls Tryd.prog 36 #[.slice A n cap, .int .i64 k] w fun e w' => e = .returned (.int .i64 (k + 2 * n)) ∧ w'.ownsRow base 70 2 (.slice A n cap) n (marksI k (n * 2)) ∧ w.grownBy w' (Value.slice A n cap).ownBlock := by
  have Hl := Lib.hid h.1
  have H := Lib.hid h; clear h
  go_enter Tryd.func36, Tryd.ntmps36
  go_wp2_with fail
  go_loopw [1, 5] (fun kk i wr => ∃ j : Nat, j ≤ n ∧ i = .int .i64 j ∧ kk = .int .i64 (k + 2 * j) ∧ wr.ownsRow base 70 2 (.slice A n cap) n (markedI k xs (j * 2)) ∧ w.grownBy wr (Value.slice A n cap).ownBlock) (fun _ i _ => n - (intOf i).toNat)
  case atStart => exact ⟨0, by omega, rfl, by simp, by rw [Nat.zero_mul, markedI_zero]; exact H.out, grown_refl _ _⟩
  case round =>
    obtain ⟨j, hj, rfl, rfl, hrow, hgr⟩ := hrel
    by_cases hlt : j < n
    · obtain ⟨u, hu⟩ : ∃ u, xs[j * 2]? = some u := ⟨_, List.getElem?_eq_getElem (by rw [Hl.out]; omega)⟩
      obtain ⟨v, hv⟩ : ∃ v, xs[j * 2 + 1]? = some v := ⟨_, List.getElem?_eq_getElem (by rw [Hl.out]; omega)⟩
      obtain ⟨z, rfl⟩ := hi u (List.mem_of_getElem? hu)
      obtain ⟨z', rfl⟩ := hi v (List.mem_of_getElem? hv)
      obtain ⟨g, rfl, hBg, hob, hc, hf, hset⟩ := own_set hrow ((markedI_get k xs (j * 2)).trans hu)
      have hset1 := hset (.int .i64 (k + 2 * j))
      rw [show (.int .i64 (k + 2 * j) : Value) = .int .i64 (k + ((j * 2 : Nat) : Int)) from by congr 2; omega, markedI_set k xs (j * 2) (by rw [Hl.out]; omega), ← show (.int .i64 (k + 2 * j) : Value) = .int .i64 (k + ((j * 2 : Nat) : Int)) from by congr 2; omega] at hset1
      obtain ⟨g', eg, _, _, hc', hf', hset'⟩ := own_set hset1 ((markedI_get k xs (j * 2 + 1)).trans hv)
      cases eg
      have hset2 := hset' (.int .i64 (k + 2 * j + 1))
      have hob' : ∀ (W : World) (i : Nat) (v : Value), W.grownBy (W.setCell ⟨g, i, none⟩ v) (Value.slice (some ⟨g, 0, none⟩) n cap).ownBlock := fun W i v => by rw [hob]; exact grown_set W g i v
      have Hset := Lib.hid hset2; clear hset hset' hset1 hset2 hrow
      have Hgr := Lib.hid hgr; clear hgr
      have Hu := Lib.hid hu; clear hu hv
      go_wp2_with fail
      go_roundw
      case measure => simp [intOf]; omega
      case rel =>
        refine ⟨j + 1, by omega, by go_num, by go_num, ?_, grown_trans (grown_trans Hgr.out (hob' wr (j * 2) (.int .i64 (k + 2 * j)))) (hob' _ (j * 2 + 1) _)⟩
        rw [show (j + 1) * 2 = j * 2 + 1 + 1 from by omega, ← markedI_set k xs (j * 2 + 1) (by rw [Hl.out]; omega), show (.int .i64 (k + ((j * 2 + 1 : Nat) : Int)) : Value) = .int .i64 (k + 2 * j + 1) from by congr 1; omega]
        exact Hset.out
    · obtain rfl : j = n := by omega
      have Hrow := Lib.hid hrow; clear hrow
      go_wp2_with fail
      go_ret
      refine ⟨rfl, ?_, hgr⟩
      have e := markedI_all k xs
      rw [Hl.out] at e
      rw [← e]
      exact Hrow.out
theorem heldVisS_any (A : Option Addr) (n cap : Nat) (k : Int) (w : World) (hb : n ≤ 4000000) (hk : -1000000000000 ≤ k ∧ k ≤ 1000000000000) (hr : Rd w w.heap.size A (marksI k (n * 2))) :
    Calls Tryd.prog 37 #[.slice A n cap, .int .i64 k] w fun e w' => e = .returned (.int .i64 (k + 2 * n)) ∧ w = w' := by
  go_enter Tryd.func37, Tryd.ntmps37
  go_wp2_with fail
  go_loop [1, 5] (fun kk i => ∃ j : Nat, j ≤ n ∧ i = .int .i64 j ∧ kk = .int .i64 (k + 2 * j)) (fun _ i => n - (intOf i).toNat)
  case atStart => exact ⟨0, by omega, rfl, by simp⟩
  case round =>
    obtain ⟨j, hj, rfl, rfl⟩ := hrel
    by_cases hlt : j < n
    · obtain ⟨b, off, rfl, hb2, hc1⟩ := hr (j * 2) _ (marksI_get k (n * 2) (j * 2) (by omega))
      obtain ⟨_, _, e2, _, hc2⟩ := hr (j * 2 + 1) _ (marksI_get k (n * 2) (j * 2 + 1) (by omega))
      cases e2
      rw [show k + ((j * 2 : Nat) : Int) = k + 2 * j from by omega] at hc1
      rw [show k + ((j * 2 + 1 : Nat) : Int) = k + 2 * j + 1 from by omega, ← Nat.add_assoc] at hc2
      go_wp2_with fail
      go_round
      case measure => simp [intOf]; omega
      case rel => exact ⟨j + 1, by omega, by go_num, by go_num⟩
    · obtain rfl : j = n := by omega
      go_wp2_with fail
      go_ret
      exact ⟨rfl, rfl⟩

/-- Two lists of which the heads agree. -/
theorem sameVis_any (A B : Option Addr) (n m capA capB : Nat) (xs ys : List (Int × Int)) (w : World) (hn : xs.length = n) (hm : ys.length = m) (hb : n ≤ 1048576)
    (hr : Rd w w.heap.size A (xs.flatMap pairCells)) (hr2 : Rd w w.heap.size B (ys.flatMap pairCells)) :
    Calls Tryd.prog 33 #[.slice A n capA, .slice B m capB] w fun e w' => e = .returned (.bool (decide (xs = ys))) ∧ Below w.heap.size w w' := by
  by_cases hnm : n = m
  · subst hnm
    have Hn := Lib.hid hn; clear hn
    have Hm := Lib.hid hm; clear hm
    go_enter Tryd.func33, Tryd.ntmps33
    go_wp2_with fail
    go_loopw [5] (fun i wr => ∃ k : Nat, k ≤ n ∧ i = .int .i64 k ∧ xs.take k = ys.take k ∧ Below w.heap.size w wr) (fun i _ => n - (intOf i).toNat)
    case atStart => exact ⟨0, by omega, rfl, rfl, Below.refl _ _⟩
    case round =>
      obtain ⟨k, hk, rfl, heq, hbel⟩ := hrel
      have hr' := hr.below hbel
      have hr2' := hr2.below hbel
      have Hbel := Lib.hid hbel; clear hbel
      have Heq := Lib.hid heq; clear heq
      by_cases hlt : k < n
      · obtain ⟨x, hx⟩ : ∃ x, xs[k]? = some x := ⟨_, List.getElem?_eq_getElem (by rw [Hn.out]; exact hlt)⟩
        obtain ⟨y, hy⟩ : ∃ y, ys[k]? = some y := ⟨_, List.getElem?_eq_getElem (by rw [Hm.out]; exact hlt)⟩
        obtain ⟨b, off, rfl, hb2, hc1, hc1'⟩ := rd_pair hr' hx
        obtain ⟨b', off', rfl, hb2', hc2, hc2'⟩ := rd_pair hr2' hy
        obtain ⟨x1, x2⟩ := x
        obtain ⟨y1, y2⟩ := y
        dsimp only at hc1 hc1' hc2 hc2'
        have Hx := Lib.hid hx; clear hx
        have Hy := Lib.hid hy; clear hy
        by_cases hxy : (x1, x2) = (y1, y2)
        · obtain ⟨rfl, rfl⟩ := Prod.mk.inj hxy
          go_wp2_with fail
          go_quiet (fail)
          go_wp2_with fail
          go_roundw
          case measure => simp [intOf]; omega
          case rel =>
            refine ⟨k + 1, by omega, by go_num, ?_, below_drewN Hbel.out _⟩
            rw [List.take_add_one, List.take_add_one, Heq.out, Hx.out, Hy.out]
        · have Hxy := Lib.hid hxy
          by_cases h1 : x1 = y1
          · subst h1
            have hne : (x2 == y2) = false := by
              rw [beq_eq_false_iff_ne]; rintro rfl; exact hxy rfl
            clear hxy
            go_wp2_with fail
            go_quiet (fail)
            go_wp2_with fail
            go_ret
            refine ⟨ret_bool ?_, below_drewN Hbel.out _⟩
            symm
            rw [decide_eq_false_iff_not]
            rintro rfl
            exact Hxy.out (by simpa using Hx.out.symm.trans Hy.out)
          · have hne : (x1 == y1) = false := beq_eq_false_iff_ne.2 h1
            clear hxy h1
            go_wp2_with fail
            go_quiet (fail)
            go_wp2_with fail
            go_ret
            refine ⟨ret_bool ?_, below_drewN Hbel.out _⟩
            symm
            rw [decide_eq_false_iff_not]
            rintro rfl
            exact Hxy.out (by simpa using Hx.out.symm.trans Hy.out)
      · obtain rfl : k = n := by omega
        go_wp2_with fail
        go_ret
        refine ⟨ret_bool ?_, Hbel.out⟩
        symm
        rw [decide_eq_true_iff]
        have := Heq.out
        rwa [List.take_of_length_le (by rw [Hn.out]; exact Nat.le_refl _), List.take_of_length_le (by rw [Hm.out]; exact Nat.le_refl _)] at this
  · have hb : ((n : Int) != (m : Int)) = true := by rw [bne_iff_ne]; omega
    go_enter Tryd.func33, Tryd.ntmps33
    go_wp2_with fail
    go_ret
    refine ⟨ret_bool ?_, Below.refl _ _⟩
    symm
    rw [decide_eq_false_iff_not]
    rintro rfl
    omega
end Go.Proofs.YtbadeopjfmafcaaDoor
