/- Coverages: what the program's and the reference's functions on them return. -/
import Derived.Test.YtklhjofhmcaflaaCell
import Derived.BigQuiet
namespace Go.Proofs.Ytklhjofhmcaflaa
open Go.RowKit

theorem quiet_left {P : Program} {f : FuncId} {args : Array Value} {w : World} {n : Nat} {v : Value}
    (h : Calls P f args (w.drewN n) fun e w' => e = .returned v ∧ w.drewN n = w') : Calls P f args (w.drewN n) fun e w'' => e = .returned v ∧ ∃ m, w'' = w.drewN m :=
  h.mono fun _ _ ⟨he, hm⟩ => ⟨he, n, hm.symm⟩
theorem below_drewN {B : Nat} {a w : World} (h : Below B a w) (n : Nat) : Below B a (w.drewN n) := ⟨h.os, h.tape, h.output, h.size, h.block⟩

theorem l21Cells_any (w : World) : Calls Try.prog 78 #[] w fun e w' => e = .returned (.int .i64 16) ∧ w = w' := by
  go_enter Try.func78, Try.ntmps78
  go_wp2
  go_ret
  exact ⟨rfl, rfl⟩

theorem tmod_cases (n m : Int) (hm : 0 < m) : (0 ≤ n.tmod m ∧ n.tmod m = n % m) ∨ (n.tmod m < 0 ∧ n.tmod m + m = n % m) := by
  rcases Int.le_total 0 n with h' | h'
  · rw [Int.tmod_eq_emod_of_nonneg h']
    exact .inl ⟨Int.emod_nonneg n (by omega), rfl⟩
  · obtain ⟨k, rfl⟩ : ∃ k : Int, n = -k := ⟨-n, by omega⟩
    rw [Int.neg_tmod, Int.tmod_eq_emod_of_nonneg (by omega), Int.neg_emod]
    have h1 := Int.emod_nonneg k (b := m) (by omega)
    split
    · rename_i hd
      have := Int.emod_eq_zero_of_dvd hd
      omega
    · rename_i hd
      have : k % m ≠ 0 := fun h => hd (Int.dvd_of_emod_eq_zero h)
      have h2 := Int.emod_lt_of_pos k hm
      omega

/-- spec.l1Mod: the remainder that is not negative. -/
theorem l1Mod_any (n m : Int) (w : World) (hm : 0 < m) (hm2 : m ≤ 1000000) :
    Calls Try.prog 97 #[.int .i64 n, .int .i64 m] w fun e w' => e = .returned (.int .i64 (n % m)) ∧ w = w' := by
  have hz : (m == 0) = false := beq_eq_false_iff_ne.2 (by omega)
  go_enter Try.func97, Try.ntmps97
  go_wp2
  · have h : n.tmod m < 0 := by assumption
    go_ret
    refine ⟨ret_int ?_, rfl⟩
    have hc := tmod_cases n m hm
    have hE := Int.emod_lt_of_pos n hm
    have hE0 := Int.emod_nonneg n (b := m) (by omega)
    show wrap64 (n.tmod m + m) = n % m
    rw [IntWalk.wrap64_in _ (by omega)]
    omega
  · have h : 0 ≤ n.tmod m := by assumption
    go_ret
    refine ⟨ret_int ?_, rfl⟩
    have hc := tmod_cases n m hm
    show n.tmod m = n % m
    omega

theorem l21At_any (x y : Int) (w : World) :
    Calls Try.prog 80 #[.int .i64 x, .int .i64 y] w fun e w' => e = .returned (.int .i64 (cellI x y)) ∧ w = w' := by
  go_enter Try.func80, Try.ntmps80
  go_wp2_with (go_at_call 97; refine (l1Mod_any _ 4 _ (by omega) (by omega)).mono ?_; rintro e w' ⟨rfl, rfl⟩)
  go_ret
  exact ⟨rfl, rfl⟩

/-- The reference's CoverValid (its comparison draws its order). -/
theorem sCoverValid_any (A : Option Addr) (n cap : Nat) (c : List Bool) (w : World) (hn : c.length = n) (hr : Rd w w.heap.size A (c.map Value.bool)) :
    Calls Try.prog 48 #[.slice A n cap] w fun e w' => e = .returned (.bool (covV c)) ∧ Below w.heap.size w w' := by
  by_cases hl : n = 16
  · subst hl
    have Hn := Lib.hid hn; clear hn
    go_enter Try.func48, Try.ntmps48
    go_wp2_with (go_at_call 78; refine (l21Cells_any _).mono ?_; rintro e w' ⟨rfl, rfl⟩)
    go_loopw [3] (fun i wr => ∃ k : Nat, k ≤ 16 ∧ i = .int .i64 k ∧ (List.range k).all (fun k => c.getD (oppN k) false == c.getD k false) = true ∧ Below w.heap.size w wr) (fun i _ => 16 - (intOf i).toNat)
    case atStart => exact ⟨0, by omega, rfl, rfl, Below.refl _ _⟩
    case round =>
      obtain ⟨k, hk, rfl, hall, hbel⟩ := hrel
      have Ha := Lib.hid hall; clear hall
      have hr' := hr.below hbel
      have Hbel := Lib.hid hbel; clear hbel
      by_cases hlt : k < 16
      · have e1 : (c.map Value.bool)[k]? = some (.bool (c.getD k false)) := by
          have : k < c.length := by rw [Hn.out]; exact hlt
          simp [List.getD, this]
        have e2 : (c.map Value.bool)[oppN k]? = some (.bool (c.getD (oppN k) false)) := by
          have : oppN k < c.length := by rw [Hn.out]; exact oppN_lt k
          simp [List.getD, this]
        obtain ⟨b, off, rfl, hb, hc1⟩ := hr' k _ e1
        obtain ⟨b', off', hA, _, hc2⟩ := hr' (oppN k) _ e2
        injection hA with hA; injection hA with h1 h2; subst h1; subst h2
        have ho := oppN_lt k
        have hcall : ∀ W : World, Calls Try.prog 80 #[.int .i64 (-((k : Int) % 4)), .int .i64 (-((k : Int) / 4))] W fun e w' => e = .returned (.int .i64 (oppN k : Int)) ∧ W = w' := fun W => by
          rw [← oppI_nat k hlt]; exact l21At_any _ _ _
        generalize hoN : oppN k = o at *
        generalize hx : c.getD k false = x at *
        generalize hy : c.getD o false = y at *
        clear e1 e2
        have HoN := Lib.hid hoN; clear hoN
        have Hx := Lib.hid hx; clear hx
        have Hy := Lib.hid hy; clear hy
        have Hcall := Lib.hid hcall; clear hcall
        go_wp2_with (go_at_call 78; refine (l21Cells_any _).mono ?_; rintro e w' ⟨rfl, rfl⟩)
        go_quiet ((go_at_call 80; exact quiet_left (Hcall.out _)))
        go_wp2
        · have hxy : (!x == y) = true := by assumption
          go_ret
          refine ⟨ret_bool ?_, below_drewN Hbel.out _⟩
          symm
          refine covV_no k (by omega) ?_
          rw [Hx.out, HoN.out, Hy.out]
          rw [Bool.beq_comm]
          simpa using hxy
        · have hxy : (!x == y) = false := by assumption
          go_roundw
          case rel =>
            refine ⟨k + 1, by omega, by go_num, ?_, below_drewN Hbel.out _⟩
            rw [all_range_succ, Ha.out, Hx.out, HoN.out, Hy.out, Bool.beq_comm]
            simpa using hxy
          case measure => simp [intOf]; omega
      · go_wp2_with (go_at_call 78; refine (l21Cells_any _).mono ?_; rintro e w' ⟨rfl, rfl⟩)
        go_ret
        refine ⟨ret_bool ?_, Hbel.out⟩
        obtain rfl : k = 16 := by omega
        unfold covV
        rw [Hn.out, Ha.out]; rfl
  · have hb : ((n : Int) != 16) = true := by rw [bne_iff_ne]; omega
    go_enter Try.func48, Try.ntmps48
    go_wp2_with (go_at_call 78; refine (l21Cells_any _).mono ?_; rintro e w' ⟨rfl, rfl⟩)
    go_ret
    refine ⟨ret_bool ?_, Below.refl _ _⟩
    unfold covV
    rw [beq_eq_false_iff_ne.2 (by omega)]; rfl

/-! ### The text of a coverage -/
def covLine (c : List Bool) (k : Nat) : List UInt8 := (if c.getD k false then 35 else 46) :: (if k % 4 = 3 then [10] else [])
def covBytes (c : List Bool) (n : Nat) : List UInt8 := (List.range n).flatMap (covLine c)
theorem covBytes_succ (c : List Bool) (k : Nat) : covBytes c (k + 1) = covBytes c k ++ covLine c k := by
  unfold covBytes; rw [List.range_succ, List.flatMap_append]; simp
theorem covBytes_len (c : List Bool) (k : Nat) : (covBytes c k).length ≤ 2 * k := by
  induction k with
  | zero => simp [covBytes]
  | succ k ih => rw [covBytes_succ, List.length_append]; unfold covLine; by_cases h : k % 4 = 3 <;> simp [h] <;> omega
/-- The text of a list: empty if it is no coverage. -/
def covText (c : List Bool) : List UInt8 := if covV c then covBytes c 16 else []

theorem covV_len {c : List Bool} (h : covV c = true) : c.length = 16 := by
  unfold covV at h; simp at h; exact h.1

theorem str_app (l m : List UInt8) : (ByteArray.mk l.toArray ++ ByteArray.mk m.toArray : ByteArray) = ⟨(l ++ m).toArray⟩ := by
  apply ByteArray.ext; simp

theorem sCoverText_yes (A : Option Addr) (cap : Nat) (c : List Bool) (w : World) (hv : covV c = true) (hr : Rd w w.heap.size A (c.map Value.bool)) :
    Calls Try.prog 15 #[.slice A 16 cap] w fun e w' => e = .returned (.string ⟨(covBytes c 16).toArray⟩) ∧ Below w.heap.size w w' := by
  have Hn := Lib.hid (covV_len hv)
  have Hv := Lib.hid hv; clear hv
  go_enter Try.func15, Try.ntmps15
  go_wp2_with fail
  go_loopw [3, 4] (fun s i wr => ∃ k : Nat, k ≤ 16 ∧ i = .int .i64 k ∧ s = .string ⟨(covBytes c k).toArray⟩ ∧ Below w.heap.size w wr) (fun _ i _ => 16 - (intOf i).toNat)
  case atStart => exact ⟨0, by omega, rfl, rfl, Below.refl _ _⟩
  case round =>
    obtain ⟨k, hk, rfl, rfl, hbel⟩ := hrel
    have hr' := hr.below hbel
    have Hbel := Lib.hid hbel; clear hbel
    by_cases hlt : k < 16
    · go_wp2_with fail
      refine (sCoverValid_any _ _ _ c _ Hn.out (hr'.more Hbel.out.size)).mono ?_
      rintro e w1 ⟨rfl, hb1⟩
      rw [Hv.out]
      have hbel1 := Hbel.out.trans (hb1.mono Hbel.out.size)
      have hr1 := hr.below hbel1
      have Hbel1 := Lib.hid hbel1; clear hbel1 hb1
      have e1 : (c.map Value.bool)[k]? = some (.bool (c.getD k false)) := by
        have : k < c.length := by rw [Hn.out]; exact hlt
        simp [List.getD, this]
      obtain ⟨b, off, rfl, hb, hc1⟩ := hr1 k _ e1
      generalize hx : c.getD k false = x at *
      clear e1
      have Hx := Lib.hid hx; clear hx
      have hlen := covBytes_len c k
      go_wp2_with fail
      all_goals
        go_roundw
        case measure => simp [intOf]; omega
        case rel =>
          refine ⟨k + 1, by omega, by go_num, ?_, Hbel1.out⟩
          rw [covBytes_succ]
          unfold covLine
          rw [Hx.out]
          first
            | (have h1 : x = true := by assumption
               subst h1
               first
                 | (have h2 : ((k : Int) % 4 == 3) = true := by assumption
                    rw [if_pos (by simp at h2; omega : k % 4 = 3), str_app, str_app, List.append_assoc]; rfl)
                 | (have h2 : ((k : Int) % 4 == 3) = false := by assumption
                    rw [if_neg (by simp at h2; omega : ¬ k % 4 = 3), str_app]; rfl))
            | (have h1 : x = false := by assumption
               subst h1
               first
                 | (have h2 : ((k : Int) % 4 == 3) = true := by assumption
                    rw [if_pos (by simp at h2; omega : k % 4 = 3), str_app, str_app, List.append_assoc]; rfl)
                 | (have h2 : ((k : Int) % 4 == 3) = false := by assumption
                    rw [if_neg (by simp at h2; omega : ¬ k % 4 = 3), str_app]; rfl))
    · obtain rfl : k = 16 := by omega
      go_wp2_with fail
      go_ret
      exact ⟨rfl, Hbel.out⟩

theorem sCoverText_no (A : Option Addr) (n cap : Nat) (c : List Bool) (w : World) (hn : c.length = n) (hv : covV c = false) (hr : Rd w w.heap.size A (c.map Value.bool)) :
    Calls Try.prog 15 #[.slice A n cap] w fun e w' => e = .returned (.string ⟨#[]⟩) ∧ Below w.heap.size w w' := by
  have Hn := Lib.hid hn; clear hn
  have Hv := Lib.hid hv; clear hv
  by_cases h0 : n = 0
  · subst h0
    go_enter Try.func15, Try.ntmps15
    go_wp2_with fail
    refine wp_loop_rounds 1 ?_
    rw [rounds_succ]
    go_wp2_with fail
    go_ret
    exact ⟨rfl, Below.refl _ _⟩
  · have hp : (0 : Int) < (n : Int) := by omega
    go_enter Try.func15, Try.ntmps15
    go_wp2_with fail
    refine wp_loop_rounds 1 ?_
    rw [rounds_succ]
    go_wp2_with fail
    refine (sCoverValid_any _ _ _ c _ Hn.out hr).mono ?_
    rintro e w1 ⟨rfl, hb1⟩
    rw [Hv.out]
    go_wp2_with fail
    go_ret
    exact ⟨rfl, hb1⟩

theorem sCoverText_any (A : Option Addr) (n cap : Nat) (c : List Bool) (w : World) (hn : c.length = n) (hr : Rd w w.heap.size A (c.map Value.bool)) :
    Calls Try.prog 15 #[.slice A n cap] w fun e w' => e = .returned (.string ⟨(covText c).toArray⟩) ∧ Below w.heap.size w w' := by
  unfold covText
  by_cases hv : covV c = true
  · obtain rfl : n = 16 := by rw [← hn]; exact covV_len hv
    rw [if_pos hv]
    exact sCoverText_yes A cap c w hv hr
  · rw [if_neg hv]
    exact sCoverText_no A n cap c w hn (by simpa using hv) hr
end Go.Proofs.Ytklhjofhmcaflaa
