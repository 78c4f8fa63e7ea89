/- 'spec.DirtyOf' and what it calls. -/
import Derived.Test.YtbadeopjfmafcaaDoorDirty
namespace Go.Proofs.YtbadeopjfmafcaaDoor
open Go.RowKit

theorem sSkyValid_any (A : Option Addr) (n cap : Nat) (s : List Int) (w : World) (hn : s.length = n) (hm : n ≤ 1000000000) (hr : Rd w w.heap.size A (s.map (Value.int .i64))) :
    Calls Tryd.prog 40 #[.slice A n cap] w fun e w' => e = .returned (.bool (skyV s)) ∧ w = w' := by
  have Hn := Lib.hid hn; clear hn
  go_enter Tryd.func40, Tryd.ntmps40
  go_wp2_with fail
  go_loop [3] (fun i => ∃ k : Nat, k ≤ n ∧ i = .int .i64 k ∧ allR 100000 (s.take k) = true) (fun i => n - (intOf i).toNat)
  case atStart => exact ⟨0, by omega, rfl, rfl⟩
  case round =>
    obtain ⟨k, hk, rfl, hall⟩ := hrel
    have Hall := Lib.hid hall; clear hall
    by_cases hlt : k < n
    · obtain ⟨b, off, rfl, hb, hc⟩ := hr k _ (ints_get (by rw [Hn.out]; exact hlt))
      have hmem : s.getD k 0 ∈ s := getD_mem (by rw [Hn.out]; exact hlt)
      have hts := take_succ_getD (l := s) (d := 0) (k := k) (by rw [Hn.out]; exact hlt)
      generalize s.getD k 0 = x at *
      have Hts := Lib.hid hts; clear hts
      go_wp2_with fail
      refine (l6In_any x (-100000) 100000 _).mono ?_
      rintro e w' ⟨rfl, rfl⟩
      cases hx : inR x (-100000) 100000
      · have Hx := Lib.hid hx; clear hx
        go_wp2_with fail
        go_ret
        refine ⟨ret_bool ?_, rfl⟩
        symm
        unfold skyV allR
        rw [Bool.and_eq_false_iff]
        right
        rw [List.all_eq_false]
        exact ⟨x, hmem, by rw [Hx.out]; simp⟩
      · have Hx := Lib.hid hx; clear hx
        go_wp2_with fail
        go_round
        case measure => simp [intOf]; omega
        case rel =>
          refine ⟨k + 1, by omega, by go_num, ?_⟩
          rw [Hts.out]
          unfold allR
          rw [List.all_append]
          have := Hall.out
          unfold allR at this
          rw [this]
          simpa using Hx.out
    · obtain rfl : k = n := by omega
      have h16 : ((k : Int) == 16) = (k == 16) := by
        rw [Bool.eq_iff_iff, beq_iff_eq, beq_iff_eq]; omega
      have H16 := Lib.hid h16; clear h16
      go_wp2_with fail
      refine (l21Cells_any _).mono ?_
      rintro e w' ⟨rfl, rfl⟩
      go_wp2_with fail
      go_ret
      refine ⟨ret_bool ?_, rfl⟩
      unfold skyV
      have := Hall.out
      rw [List.take_of_length_le (by rw [Hn.out]; exact Nat.le_refl _)] at this
      rw [this, Hn.out, Bool.and_true]
      exact H16.out

/-- The number of wave t of which n terms are added. -/
def skyP (s : List Int) (t n : Nat) : Int × Int := (sumN n fun a => s.getD a 0 * wr t a, sumN n fun a => s.getD a 0 * wi t a)
theorem skyP_succ (s : List Int) (t n : Nat) : skyP s t (n + 1) = ((skyP s t n).1 + s.getD n 0 * wr t n, (skyP s t n).2 + s.getD n 0 * wi t n) := by
  unfold skyP; rw [sumN_succ, sumN_succ]
theorem skyP_zero (s : List Int) (t : Nat) : skyP s t 0 = (0, 0) := rfl
theorem skyP_all (s : List Int) (t : Nat) (h : t < 16) : skyP s t 16 = (skyT s).getD t (0, 0) := by rw [skyT_get _ _ h]; rfl
theorem unit_1 (k : Int) : (-1 ≤ (unit k).1 ∧ (unit k).1 ≤ 1) ∧ -1 ≤ (unit k).2 ∧ (unit k).2 ≤ 1 := by
  rcases unit_cases k with ⟨_, e⟩ | ⟨_, e⟩ | ⟨_, e⟩ | ⟨_, e⟩ <;> rw [e] <;> simp
theorem skyP_bd {s : List Int} (h : iLe 100000 s) (t n : Nat) : (-((n : Int) * 100000) ≤ (skyP s t n).1 ∧ (skyP s t n).1 ≤ (n : Int) * 100000) ∧ -((n : Int) * 100000) ≤ (skyP s t n).2 ∧ (skyP s t n).2 ≤ (n : Int) * 100000 := by
  induction n with
  | zero => rw [skyP_zero]; simp
  | succ n ih =>
    rw [skyP_succ]
    dsimp only
    have m1 := mul_bd (s.getD n 0) (wr t n) 100000 1 (h n) (unit_1 _).1
    have m2 := mul_bd (s.getD n 0) (wi t n) 100000 1 (h n) (unit_1 _).2
    simp only [Int.reduceNeg, Int.mul_one] at m1 m2
    omega
end Go.Proofs.YtbadeopjfmafcaaDoor
