/- 'impl.CleanRun', 'CleanNew' on both sides, and the full coverage. -/
import Derived.Test.YtipgpafgampfbaaGreatDoorCleanS
import Derived.Test.YtipgpafgampfbaaGreatDoorB2
namespace Go.Proofs.YtipgpafgampfbaaGreatDoor
open Go.RowKit

theorem cleanNew_no (A : Option Addr) (n ca : Nat) (s : List Int) (w : World) (hn : s.length = n) (hm : n ≤ 1000) (hv : skyV s = false) (hr : Rd w w.heap.size A (s.map (Value.int .i64))) :
    Calls Tryz.prog 35 #[.slice A n ca] w fun e w' => e = .returned (.tuple #[.agg #[.slice none 0 0, .slice none 0 0], .bool false]) ∧ Below w.heap.size w w' := by
  have rR := Row.new w 43 [.slice none 0 0, .slice none 0 0]
  have b0 := bA1 (w := w) (o := .cells #[.slice none 0 0, .slice none 0 0] 43)
  have hr1 := hr.ext b0
  have Hn := Lib.hid hn; clear hn
  have Hv := Lib.hid hv; clear hv
  go_enter Tryz.func35, Tryz.ntmps35
  go_wp2_with fail
  refine (skyValid_any A n ca s _ Hn.out (by omega) hr1).mono ?_
  rintro e w1 ⟨rfl, rfl⟩
  rw [Hv.out]
  obtain ⟨q0, q1, q2, q3⟩ := rR.two
  go_wp2_with fail
  exact bodyPost_ret (v := .tuple #[.agg #[.slice none 0 0, .slice none 0 0], .bool false]) (by simp [results, Tryz.results35, go_sem, q0, q1]) rfl ⟨rfl, b0⟩
theorem cleanStep_valid {b : List Int} {st st' : List Int × List Int} (h : cleanStep b st = some st') : skyV st'.1 = true ∧ skyV st'.2 = true := by
  unfold cleanStep at h
  split at h
  · split at h
    · split at h
      · rename_i hv
        cases h
        exact Bool.and_eq_true_iff.1 hv
      · cases h
    · cases h
  · cases h

end Go.Proofs.YtipgpafgampfbaaGreatDoor
