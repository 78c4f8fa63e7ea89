/- Coverages: what the program's and the reference's functions on them return. -/
import Derived.Test.YtcllkocmnohnkaaCell
import Derived.BigQuiet
namespace Go.Proofs.Ytcllkocmnohnkaa
open Go.RowKit

theorem quiet_left {P : Program} {f : FuncId} {args : Array Value} {w : World} {n : Nat} {v : Value}
    (h : Calls P f args (w.drewN n) fun e w' => e = .returned v ∧ w.drewN n = w') : Calls P f args (w.drewN n) fun e w'' => e = .returned v ∧ ∃ m, w'' = w.drewN m :=
  h.mono fun _ _ ⟨he, hm⟩ => ⟨he, n, hm.symm⟩
theorem below_drewN {B : Nat} {a w : World} (h : Below B a w) (n : Nat) : Below B a (w.drewN n) := ⟨h.os, h.tape, h.output, h.size, h.block⟩

theorem l21Cells_any (w : World) : Calls Try.prog 99 #[] w fun e w' => e = .returned (.int .i64 16) ∧ w = w' := by
  go_enter Try.func99, Try.ntmps99
  go_wp2
  go_ret
  exact ⟨rfl, rfl⟩

theorem tmod_cases (n m : Int) (hm : 0 < m) : (0 ≤ n.tmod m ∧ n.tmod m = n % m) ∨ (n.tmod m < 0 ∧ n.tmod m + m = n % m) := by
  rcases Int.le_total 0 n with h' | h'
  · rw [Int.tmod_eq_emod_of_nonneg h']
    exact .inl ⟨Int.emod_nonneg n (by omega), rfl⟩
  · obtain ⟨k, rfl⟩ : ∃ k : Int, n = -k := ⟨-n, by omega⟩
    rw [Int.neg_tmod, Int.tmod_eq_emod_of_nonneg (by omega), Int.neg_emod]
    have h1 := Int.emod_nonneg k (b := m) (by omega)
    split
    · rename_i hd
      have := Int.emod_eq_zero_of_dvd hd
      omega
    · rename_i hd
      have : k % m ≠ 0 := fun h => hd (Int.dvd_of_emod_eq_zero h)
      have h2 := Int.emod_lt_of_pos k hm
      omega

/-- spec.l1Mod: the remainder that is not negative. -/
theorem l1Mod_any (n m : Int) (w : World) (hm : 0 < m) (hm2 : m ≤ 1000000) :
    Calls Try.prog 167 #[.int .i64 n, .int .i64 m] w fun e w' => e = .returned (.int .i64 (n % m)) ∧ w = w' := by
  have hz : (m == 0) = false := beq_eq_false_iff_ne.2 (by omega)
  go_enter Try.func167, Try.ntmps167
  go_wp2
  · have h : n.tmod m < 0 := by assumption
    go_ret
    refine ⟨ret_int ?_, rfl⟩
    have hc := tmod_cases n m hm
    have hE := Int.emod_lt_of_pos n hm
    have hE0 := Int.emod_nonneg n (b := m) (by omega)
    show wrap64 (n.tmod m + m) = n % m
    rw [IntWalk.wrap64_in _ (by omega)]
    omega
  · have h : 0 ≤ n.tmod m := by assumption
    go_ret
    refine ⟨ret_int ?_, rfl⟩
    have hc := tmod_cases n m hm
    show n.tmod m = n % m
    omega

theorem l21At_any (x y : Int) (w : World) :
    Calls Try.prog 123 #[.int .i64 x, .int .i64 y] w fun e w' => e = .returned (.int .i64 (cellI x y)) ∧ w = w' := by
  go_enter Try.func123, Try.ntmps123
  go_wp2_with (go_at_call 167; refine (l1Mod_any _ 4 _ (by omega) (by omega)).mono ?_; rintro e w' ⟨rfl, rfl⟩)
  go_ret
  exact ⟨rfl, rfl⟩

/-- The reference's CoverValid (its comparison draws its order). -/
theorem sCoverValid_any (A : Option Addr) (n cap : Nat) (c : List Bool) (w : World) (hn : c.length = n) (hr : Rd w w.heap.size A (c.map Value.bool)) :
    Calls Try.prog 98 #[.slice A n cap] w fun e w' => e = .returned (.bool (covV c)) ∧ Below w.heap.size w w' := by
  by_cases hl : n = 16
  · subst hl
    have Hn := Lib.hid hn; clear hn
    go_enter Try.func98, Try.ntmps98
    go_wp2_with (go_at_call 99; refine (l21Cells_any _).mono ?_; rintro e w' ⟨rfl, rfl⟩)
    go_loopw [3] (fun i wr => ∃ k : Nat, k ≤ 16 ∧ i = .int .i64 k ∧ (List.range k).all (fun k => c.getD (oppN k) false == c.getD k false) = true ∧ Below w.heap.size w wr) (fun i _ => 16 - (intOf i).toNat)
    case atStart => exact ⟨0, by omega, rfl, rfl, Below.refl _ _⟩
    case round =>
      obtain ⟨k, hk, rfl, hall, hbel⟩ := hrel
      have Ha := Lib.hid hall; clear hall
      have hr' := hr.below hbel
      have Hbel := Lib.hid hbel; clear hbel
      by_cases hlt : k < 16
      · have e1 : (c.map Value.bool)[k]? = some (.bool (c.getD k false)) := by
          have : k < c.length := by rw [Hn.out]; exact hlt
          simp [List.getD, this]
        have e2 : (c.map Value.bool)[oppN k]? = some (.bool (c.getD (oppN k) false)) := by
          have : oppN k < c.length := by rw [Hn.out]; exact oppN_lt k
          simp [List.getD, this]
        obtain ⟨b, off, rfl, hb, hc1⟩ := hr' k _ e1
        obtain ⟨b', off', hA, _, hc2⟩ := hr' (oppN k) _ e2
        injection hA with hA; injection hA with h1 h2; subst h1; subst h2
        have ho := oppN_lt k
        have hcall : ∀ W : World, Calls Try.prog 123 #[.int .i64 (-((k : Int) % 4)), .int .i64 (-((k : Int) / 4))] W fun e w' => e = .returned (.int .i64 (oppN k : Int)) ∧ W = w' := fun W => by
          rw [← oppI_nat k hlt]; exact l21At_any _ _ _
        generalize hoN : oppN k = o at *
        generalize hx : c.getD k false = x at *
        generalize hy : c.getD o false = y at *
        clear e1 e2
        have HoN := Lib.hid hoN; clear hoN
        have Hx := Lib.hid hx; clear hx
        have Hy := Lib.hid hy; clear hy
        have Hcall := Lib.hid hcall; clear hcall
        go_wp2_with (go_at_call 99; refine (l21Cells_any _).mono ?_; rintro e w' ⟨rfl, rfl⟩)
        go_quiet ((go_at_call 123; exact quiet_left (Hcall.out _)))
        go_wp2
        · have hxy : (!x == y) = true := by assumption
          go_ret
          refine ⟨ret_bool ?_, below_drewN Hbel.out _⟩
          symm
          refine covV_no k (by omega) ?_
          rw [Hx.out, HoN.out, Hy.out]
          rw [Bool.beq_comm]
          simpa using hxy
        · have hxy : (!x == y) = false := by assumption
          go_roundw
          case rel =>
            refine ⟨k + 1, by omega, by go_num, ?_, below_drewN Hbel.out _⟩
            rw [all_range_succ, Ha.out, Hx.out, HoN.out, Hy.out, Bool.beq_comm]
            simpa using hxy
          case measure => simp [intOf]; omega
      · go_wp2_with (go_at_call 99; refine (l21Cells_any _).mono ?_; rintro e w' ⟨rfl, rfl⟩)
        go_ret
        refine ⟨ret_bool ?_, Hbel.out⟩
        obtain rfl : k = 16 := by omega
        unfold covV
        rw [Hn.out, Ha.out]; rfl
  · have hb : ((n : Int) != 16) = true := by rw [bne_iff_ne]; omega
    go_enter Try.func98, Try.ntmps98
    go_wp2_with (go_at_call 99; refine (l21Cells_any _).mono ?_; rintro e w' ⟨rfl, rfl⟩)
    go_ret
    refine ⟨ret_bool ?_, Below.refl _ _⟩
    unfold covV
    rw [beq_eq_false_iff_ne.2 (by omega)]; rfl

/-! ### The text of a coverage -/
def covLine (c : List Bool) (k : Nat) : List UInt8 := (if c.getD k false then 35 else 46) :: (if k % 4 = 3 then [10] else [])
def covBytes (c : List Bool) (n : Nat) : List UInt8 := (List.range n).flatMap (covLine c)
theorem covBytes_succ (c : List Bool) (k : Nat) : covBytes c (k + 1) = covBytes c k ++ covLine c k := by
  unfold covBytes; rw [List.range_succ, List.flatMap_append]; simp
theorem covBytes_len (c : List Bool) (k : Nat) : (covBytes c k).length ≤ 2 * k := by
  induction k with
  | zero => simp [covBytes]
  | succ k ih => rw [covBytes_succ, List.length_append]; unfold covLine; by_cases h : k % 4 = 3 <;> simp [h] <;> omega
/-- The text of a list: empty if it is no coverage. -/
def covText (c : List Bool) : List UInt8 := if covV c then covBytes c 16 else []

theorem covV_len {c : List Bool} (h : covV c = true) : c.length = 16 := by
  unfold covV at h; simp at h; exact h.1

theorem str_app (l m : List UInt8) : (ByteArray.mk l.toArray ++ ByteArray.mk m.toArray : ByteArray) = ⟨(l ++ m).toArray⟩ := by
  apply ByteArray.ext; simp

end Go.Proofs.Ytcllkocmnohnkaa
