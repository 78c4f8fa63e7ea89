/- '(impl.Ant).opposite' and '(impl.Gauss).conj'. -/
import Derived.Test.YtfandpgjlahnpaaA3
namespace Go.Proofs.Ytfandpgjlahnpaa
open Go.RowKit
set_option maxHeartbeats 400000 in
theorem antOpp_any (X Y : Int) (w : World) (hX : -1000000 ≤ X ∧ X ≤ 1000000) (hY : -1000000 ≤ Y ∧ Y ≤ 1000000) :
    Calls Try.prog 102 #[.agg #[.int .i64 X, .int .i64 Y]] w fun e w' => e = .returned (.agg #[.int .i64 (-X), .int .i64 (-Y)]) ∧ Below w.heap.size w w' := by
  go_enter Try.func102, Try.ntmps102
  go_wp2
  exact bodyPost_ret (v := .agg #[.int .i64 (-X), .int .i64 (-Y)]) (by simp [results, Try.results102, go_sem]) rfl ⟨rfl, bA2⟩
set_option maxHeartbeats 400000 in
theorem gaussConj_any (X Y : Int) (w : World) (hY : -1000000000 ≤ Y ∧ Y ≤ 1000000000) :
    Calls Try.prog 103 #[.agg #[.int .i64 X, .int .i64 Y]] w fun e w' => e = .returned (.agg #[.int .i64 X, .int .i64 (-Y)]) ∧ Below w.heap.size w w' := by
  go_enter Try.func103, Try.ntmps103
  go_wp2
  exact bodyPost_ret (v := .agg #[.int .i64 X, .int .i64 (-Y)]) (by simp [results, Try.results103, go_sem]) rfl ⟨rfl, bA2⟩
end Go.Proofs.Ytfandpgjlahnpaa
