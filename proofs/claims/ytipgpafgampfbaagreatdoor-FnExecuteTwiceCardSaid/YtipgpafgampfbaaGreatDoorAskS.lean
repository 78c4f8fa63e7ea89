/- The reference's script: what a sky's text is told as. -/
import Derived.Test.YtipgpafgampfbaaGreatDoorB5
namespace Go.Proofs.YtipgpafgampfbaaGreatDoor
open Go.RowKit

theorem l51Sky_any (A : Option Addr) (n cap : Nat) (s : List Int) (ok : Bool) (w : World) (hn : s.length = n) (hm : n ≤ 1000000000) (hr : Rd w w.heap.size A (s.map (Value.int .i64))) :
    Calls Tryz.prog 136 #[.slice A n cap, .bool ok] w fun e w' => e = .returned (.string ⟨(if ok then skyStr s else oNo).toArray⟩) ∧ Below w.heap.size w w' := by
  have Hn := Lib.hid hn; clear hn
  go_enter Tryz.func136, Tryz.ntmps136
  cases ok
  · go_wp2_with fail
    go_ret
    exact ⟨rfl, Below.refl _ _⟩
  · go_wp2_with fail
    refine (sSkyText_any A n cap s _ Hn.out hm hr).mono ?_
    rintro e w1 ⟨rfl, b1⟩
    go_wp2_with fail
    go_ret
    exact ⟨rfl, b1⟩
theorem l51Said_any (ok : Bool) (w : World) :
    Calls Tryz.prog 101 #[.bool ok] w fun e w' => e = .returned (.string ⟨(if ok then oOk else oNo).toArray⟩) ∧ Below w.heap.size w w' := by
  go_enter Tryz.func101, Tryz.ntmps101
  cases ok
  · go_wp2_with fail
    go_ret
    exact ⟨rfl, Below.refl _ _⟩
  · go_wp2_with fail
    go_ret
    exact ⟨rfl, Below.refl _ _⟩
end Go.Proofs.YtipgpafgampfbaaGreatDoor
