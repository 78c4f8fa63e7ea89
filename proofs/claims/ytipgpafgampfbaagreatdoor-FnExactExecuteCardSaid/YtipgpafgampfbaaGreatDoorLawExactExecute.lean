/- FnExactExecute returns true at every text. -/
import Derived.Test.YtipgpafgampfbaaGreatDoorSExe
import Derived.Test.YtipgpafgampfbaaGreatDoorExeI
import Derived.Test.YtipgpafgampfbaaGreatDoorTied
namespace Go.Proofs.YtipgpafgampfbaaGreatDoor
open Go.RowKit

set_option maxRecDepth 100000 in
set_option maxHeartbeats 1000000 in
theorem FnExactExecute_walk (w : World) (hL : laidMet Tryz.prog Rows.fnExactExecuteRow.laid w) (hS : w.ShapedOpen Tryz.prog) (s : ByteArray) (_hs : s.size ≤ maxLen) :
    Calls Tryz.prog 12 #[.string s] w fun e w' => e = .returned (.bool true) ∧ Below w.heap.size w w' := by
  have Ht := Lib.hid (tab_third hL)
  clear hL
  obtain ⟨⟨l⟩⟩ := s
  have hsz : (ByteArray.mk l.toArray).size = l.length := rfl
  clear _hs
  by_cases hb : l.length ≤ 1048576
  · have hnb : ¬ (1048576 : Int) < (l.length : Int) := by omega
    go_enter Tryz.func12, Tryz.ntmps12
    go_wp2_with fail
    refine (sExecute_all l _).mono ?_
    rintro e w1 ⟨rfl, b1⟩
    go_wp2_with fail
    refine (execute_all l _ (Ht.out.ext b1) (shapedB hS b1)).mono ?_
    rintro e w2 ⟨rfl, b2⟩
    have B2 := b1.trans (b2.mono b1.size)
    clear b1 b2
    obtain ⟨o, ho⟩ : ∃ o, exeB l = o := ⟨_, rfl⟩
    rw [ho]
    go_wp2_with fail
    go_ret
    exact ⟨rfl, B2⟩
  · have hnb : (1048576 : Int) < (l.length : Int) := by omega
    go_enter Tryz.func12, Tryz.ntmps12
    go_wp2_with fail
    go_ret
    exact ⟨rfl, Below.refl _ _⟩
end Go.Proofs.YtipgpafgampfbaaGreatDoor
