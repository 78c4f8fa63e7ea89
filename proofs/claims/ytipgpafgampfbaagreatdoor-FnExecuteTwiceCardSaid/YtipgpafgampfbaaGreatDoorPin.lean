/- A start that lays the listed variables, Go's table of a letter's first bytes among them. -/
import Derived.Test.YtipgpafgampfbaaGreatDoorRows
import Derived.LaidMore
import Derived.LaidHandle
import Derived.Deep.DeepHandedRow

namespace Go.Proofs.YtipgpafgampfbaaGreatDoor
/-- The world of the door's run, and the pinned table laid in it. -/
noncomputable def pinWorld (os : Os) : World :=
  let w := World.doorLaid Tryz.prog 400 os
  { w with heap := w.heap.modify ((Tryz.prog.globalNamed "unicode/utf8.first").getD 0) fun
    | .cells _ t z => .cells (Go.Pinned.utf8FirstZ.map fun (n : Nat) => Value.int .u8 (Int.ofNat n)).toArray t z
    | o => o }
theorem pin_shaped (os : Os) (args : Array Value) : ((pinWorld os).forCall (fun _ _ => 0) ⟨#[], args, []⟩).Shaped Tryz.prog := World.shaped_of_RefB (by kernel_rfl) (by kernel_rfl)
end Go.Proofs.YtipgpafgampfbaaGreatDoor
