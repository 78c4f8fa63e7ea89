/- What the laws' marks on numbers hold. -/
import Derived.Test.YtbadeopjfmafcaaDoorA3
namespace Go.Proofs.YtbadeopjfmafcaaDoor
open Go.RowKit

theorem heldIntS_any (A : Option Addr) (n cap : Nat) (k : Int) (w : World) (hb : n ≤ 4000000) (hk : -1000000000000 ≤ k ∧ k ≤ 1000000000000) (hr : Rd w w.heap.size A (marksI k n)) :
    Calls Tryd.prog 28 #[.slice A n cap, .int .i64 k] w fun e w' => e = .returned (.int .i64 (k + n)) ∧ w = w' := by
  go_enter Tryd.func28, Tryd.ntmps28
  go_wp2_with fail
  go_loop [1, 5] (fun kk i => ∃ j : Nat, j ≤ n ∧ i = .int .i64 j ∧ kk = .int .i64 (k + j)) (fun _ i => n - (intOf i).toNat)
  case atStart => exact ⟨0, by omega, rfl, by simp⟩
  case round =>
    obtain ⟨j, hj, rfl, rfl⟩ := hrel
    by_cases hlt : j < n
    · obtain ⟨b, off, rfl, hb2, hc1⟩ := hr j _ (marksI_get k n j hlt)
      go_wp2_with fail
      go_round
      case measure => simp [intOf]; omega
      case rel => exact ⟨j + 1, by omega, by go_num, by go_num⟩
    · obtain rfl : j = n := by omega
      go_wp2_with fail
      go_ret
      exact ⟨rfl, rfl⟩
end Go.Proofs.YtbadeopjfmafcaaDoor
