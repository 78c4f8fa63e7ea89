/- Cells of a sky: the index of a cell modulo Side, and what the program's small functions on it return. -/
import Derived.Test.YtcllkocmnohnkaaProg
import Derived.Test.YtcllkocmnohnkaaMem
import Derived.Outline
namespace Go.Proofs.Ytcllkocmnohnkaa
open Go.RowKit

theorem ret_int {k : IntKind} {a b : Int} (h : a = b) : Ending.returned (.int k a) = .returned (.int k b) := by rw [h]
theorem ret_bool {a b : Bool} (h : a = b) : Ending.returned (.bool a) = .returned (.bool b) := by rw [h]

theorem tmod_nonneg4 (k : Int) : 0 ≤ k.tmod 4 + 4 ∧ k.tmod 4 + 4 < 8 ∧ (k.tmod 4 + 4) % 4 = k % 4 := by
  rcases Int.le_total 0 k with h | h
  · rw [Int.tmod_eq_emod_of_nonneg h]; omega
  · obtain ⟨m, rfl⟩ : ∃ m : Int, k = -m := ⟨-k, by omega⟩
    rw [Int.neg_tmod, Int.tmod_eq_emod_of_nonneg (by omega)]; omega

theorem circle4_eq (k : Int) : (wrap64 (k.tmod 4 + 4)).tmod 4 = k % 4 := by
  have h := tmod_nonneg4 k
  rw [IntWalk.wrap64_in _ (by omega), Int.tmod_eq_emod_of_nonneg h.1]
  exact h.2.2

/-- impl.circle at 4. -/
theorem circle4 (k : Int) (w : World) :
    Calls Try.prog 176 #[.int .i64 k, .int .i64 4] w fun e w' => e = .returned (.int .i64 (k % 4)) ∧ w = w' := by
  go_enter Try.func176, Try.ntmps176
  go_wp2
  go_ret
  exact ⟨ret_int (circle4_eq k), rfl⟩

/-- The index of the cell (x, y), modulo 4. -/
def cellI (x y : Int) : Int := 4 * (y % 4) + x % 4
theorem cellI_bd (x y : Int) : 0 ≤ cellI x y ∧ cellI x y < 16 := by unfold cellI; omega

theorem cellAt_any (x y : Int) (w : World) :
    Calls Try.prog 121 #[.int .i64 x, .int .i64 y] w fun e w' => e = .returned (.int .i64 (cellI x y)) ∧ w = w' := by
  go_enter Try.func121, Try.ntmps121
  go_wp2_with (go_at_call 176; refine (circle4 _ _).mono ?_; rintro e w' ⟨rfl, rfl⟩)
  go_ret
  exact ⟨rfl, rfl⟩

/-- The index of the opposite cell. -/
def oppI (k : Int) : Int := cellI (-(k % 4)) (-(k / 4))
theorem opposite_any (k : Int) (w : World) (h0 : 0 ≤ k) (h1 : k < 16) :
    Calls Try.prog 169 #[.int .i64 k] w fun e w' => e = .returned (.int .i64 (oppI k)) ∧ w = w' := by
  go_enter Try.func169, Try.ntmps169
  go_wp2_with (go_at_call 121; refine (cellAt_any _ _ _).mono ?_; rintro e w' ⟨rfl, rfl⟩)
  go_ret
  exact ⟨rfl, rfl⟩

/-! ### CoverValid -/
theorem oppI_bd (k : Int) : 0 ≤ oppI k ∧ oppI k < 16 := cellI_bd _ _
def oppN (k : Nat) : Nat := 4 * ((4 - k / 4) % 4) + (4 - k % 4) % 4
theorem oppI_nat (k : Nat) (h : k < 16) : oppI (k : Int) = (oppN k : Int) := by unfold oppI cellI oppN; omega
theorem oppN_lt (k : Nat) : oppN k < 16 := by unfold oppN; omega

/-- A coverage: each cell is set as its opposite is. -/
def covV (c : List Bool) : Bool := c.length == 16 && (List.range 16).all fun k => c.getD (oppN k) false == c.getD k false

theorem all_range_succ (p : Nat → Bool) (k : Nat) : (List.range (k + 1)).all p = ((List.range k).all p && p k) := by
  rw [List.range_succ, List.all_append]; simp

theorem covV_no {c : List Bool} (k : Nat) (hk : k < 16) (h : (c.getD (oppN k) false == c.getD k false) = false) : covV c = false := by
  unfold covV
  rw [Bool.and_eq_false_iff]
  right
  rw [List.all_eq_false]
  exact ⟨k, List.mem_range.2 hk, by simpa using h⟩

theorem coverValid_any (A : Option Addr) (n cap : Nat) (c : List Bool) (w : World) (B : Nat) (hn : c.length = n) (hr : Rd w B A (c.map Value.bool)) :
    Calls Try.prog 104 #[.slice A n cap] w fun e w' => e = .returned (.bool (covV c)) ∧ w = w' := by
  by_cases hl : n = 16
  · subst hl
    have Hn := Lib.hid hn; clear hn
    go_enter Try.func104, Try.ntmps104
    go_wp2_with fail
    go_loop [10] (fun i => ∃ k : Nat, k ≤ 16 ∧ i = .int .i64 k ∧ (List.range k).all (fun k => c.getD (oppN k) false == c.getD k false) = true) (fun i => 16 - (intOf i).toNat)
    case atStart => exact ⟨0, by omega, rfl, rfl⟩
    case round =>
      obtain ⟨k, hk, rfl, hall⟩ := hrel
      have Ha := Lib.hid hall; clear hall
      by_cases hlt : k < 16
      · have e1 : (c.map Value.bool)[k]? = some (.bool (c.getD k false)) := by
          have : k < c.length := by rw [Hn.out]; exact hlt
          simp [List.getD, this]
        have e2 : (c.map Value.bool)[oppN k]? = some (.bool (c.getD (oppN k) false)) := by
          have : oppN k < c.length := by rw [Hn.out]; exact oppN_lt k
          simp [List.getD, this]
        obtain ⟨b, off, rfl, hb, hc1⟩ := hr k _ e1
        obtain ⟨b', off', hA, _, hc2⟩ := hr (oppN k) _ e2
        injection hA with hA; injection hA with h1 h2; subst h1; subst h2
        have ho := oppN_lt k
        have hoi := oppI_nat k hlt
        generalize hoN : oppN k = o at *
        generalize hx : c.getD k false = x at *
        generalize hy : c.getD o false = y at *
        clear e1 e2
        have HoN := Lib.hid hoN; clear hoN
        have Hx := Lib.hid hx; clear hx
        have Hy := Lib.hid hy; clear hy
        have Hoi := Lib.hid hoi; clear hoi
        go_wp2_with fail
        refine (opposite_any _ _ (by omega) (by omega)).mono ?_
        rintro e w' ⟨rfl, rfl⟩
        rw [Hoi.out]
        go_wp2_with fail
        · have hxy : (!y == x) = true := by assumption
          go_ret
          refine ⟨ret_bool ?_, rfl⟩
          symm
          refine covV_no k (by omega) ?_
          rw [Hx.out, HoN.out, Hy.out]
          simpa using hxy
        · have hxy : (!y == x) = false := by assumption
          go_round
          case rel =>
            refine ⟨k + 1, by omega, by go_num, ?_⟩
            rw [all_range_succ, Ha.out, Hx.out, HoN.out, Hy.out]
            simpa using hxy
          case measure => simp [intOf]; omega
      · go_wp2_with fail
        go_ret
        refine ⟨ret_bool ?_, rfl⟩
        obtain rfl : k = 16 := by omega
        unfold covV
        rw [Hn.out, Ha.out]; rfl
  · have hb : ((n : Int) != 16) = true := by rw [bne_iff_ne]; omega
    go_enter Try.func104, Try.ntmps104
    go_wp2_with fail
    go_ret
    refine ⟨ret_bool ?_, rfl⟩
    unfold covV
    rw [beq_eq_false_iff_ne.2 (by omega)]; rfl
end Go.Proofs.Ytcllkocmnohnkaa
