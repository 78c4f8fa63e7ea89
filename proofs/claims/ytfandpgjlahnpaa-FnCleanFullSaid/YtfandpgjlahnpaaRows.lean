/-
  No cell of these rows narrows 'for every input' (looked for: loops, veiled, ifaces, maps, wideKeys, modest, calm, conditions, laid).
  DERIVED. THE GIVEN ROWS OF THIS SEAT. 11 by the template 'for every input the law returns true; each argument reads behind the call as it read before'; 0 by the template 'total and deterministic' (their statements: YtfandpgjlahnpaaTotals.lean).
  GIVEN WITH THE SEED: the statements are not yours to turn. If you find one false, say at which input.
  Laid BY PROGRAM, IN A SANDBOX (cutbox-rows.mjs): the forced cells as the released guide's own fill.sh prints them over the translation e43f41139855ca4c… (all of the seat's roots in one cut). By AI agents, Wed Nov 11 2026. No macro, syntax, notation, axiom, sorry.
-/
import Derived.Test.YtfandpgjlahnpaaChecked
import GoSem.Claim
import GoSem.ClaimJoined
import GoSem.ClaimMapViews
import Derived.JoinedTies
import Derived.KernelRfl
namespace Go.Proofs.Ytfandpgjlahnpaa
/- THE CELL 'sum', in the pinned program and in every row, IS THE sha256 OF THE DUMP (.gsa) THAT YtfandpgjlahnpaaProg.lean LOADS. Nothing in Lean hashes anything: it is a label: what it is worth is what the hold of that sum in a sandbox is worth. -/
noncomputable def Try.pinned : Pinned := { name := "ytfandpgjlahnpaa", sum := "e43f41139855ca4ce67e446cd5ddb84e9f680b86ba21a04863d4ffc87f5d979a", checked := Try.checked }
namespace Rows
def none {H : Type} : Left H := { results := [], args := [] }

/-- 'laws.FnNaturalBeam': WHATEVER THE INPUT: true; the input reads as it did. -/
def fnNaturalBeamSpec : ChangeSpec := { name := "fnNaturalBeam", fn := fun _ => fun
  | [d] => { results := [.lit (.bool true)], args := [d] }
  | _ => none }
def fnNaturalBeamRow : OpenClaim := { program := "ytfandpgjlahnpaa", sum := "e43f41139855ca4ce67e446cd5ddb84e9f680b86ba21a04863d4ffc87f5d979a", func := "loop.example/radiointerferometer/laws.FnNaturalBeam", spec := "fnNaturalBeam", unfollowed := true, recurses := true, apart := false }
def FnNaturalBeamSaid : Prop := fnNaturalBeamRow.holds Try.pinned (OpenSpec.ofChange fnNaturalBeamSpec)

/-- ITS FALSE NEIGHBOUR: 'it returns false'. Refute it at one input. -/
def fnNaturalBeamWrong : ChangeSpec := { name := "fnNaturalBeam", fn := fun _ => fun
  | [d] => { results := [.lit (.bool false)], args := [d] }
  | _ => none }
def FnNaturalBeamWrongFalsely : Prop := fnNaturalBeamRow.holds Try.pinned (OpenSpec.ofChange fnNaturalBeamWrong)

/-- 'laws.FnCleanSpot': WHATEVER THE INPUT: true; the input reads as it did. -/
def fnCleanSpotSpec : ChangeSpec := { name := "fnCleanSpot", fn := fun _ => fun
  | [d1, d2] => { results := [.lit (.bool true)], args := [d1, d2] }
  | _ => none }
def fnCleanSpotRow : OpenClaim := { program := "ytfandpgjlahnpaa", sum := "e43f41139855ca4ce67e446cd5ddb84e9f680b86ba21a04863d4ffc87f5d979a", func := "loop.example/radiointerferometer/laws.FnCleanSpot", spec := "fnCleanSpot", apart := false }
def FnCleanSpotSaid : Prop := fnCleanSpotRow.holds Try.pinned (OpenSpec.ofChange fnCleanSpotSpec)

/-- ITS FALSE NEIGHBOUR: 'it returns false'. Refute it at one input. -/
def fnCleanSpotWrong : ChangeSpec := { name := "fnCleanSpot", fn := fun _ => fun
  | [d1, d2] => { results := [.lit (.bool false)], args := [d1, d2] }
  | _ => none }
def FnCleanSpotWrongFalsely : Prop := fnCleanSpotRow.holds Try.pinned (OpenSpec.ofChange fnCleanSpotWrong)

/-- 'laws.FnExactObserveGrid': WHATEVER THE INPUT: true; the input reads as it did. -/
def fnExactObserveGridSpec : ChangeSpec := { name := "fnExactObserveGrid", fn := fun _ => fun
  | [d1, d2] => { results := [.lit (.bool true)], args := [d1, d2] }
  | _ => none }
def fnExactObserveGridRow : OpenClaim := { program := "ytfandpgjlahnpaa", sum := "e43f41139855ca4ce67e446cd5ddb84e9f680b86ba21a04863d4ffc87f5d979a", func := "loop.example/radiointerferometer/laws.FnExactObserveGrid", spec := "fnExactObserveGrid", unfollowed := true, recurses := true, apart := false }
def FnExactObserveGridSaid : Prop := fnExactObserveGridRow.holds Try.pinned (OpenSpec.ofChange fnExactObserveGridSpec)

/-- ITS FALSE NEIGHBOUR: 'it returns false'. Refute it at one input. -/
def fnExactObserveGridWrong : ChangeSpec := { name := "fnExactObserveGrid", fn := fun _ => fun
  | [d1, d2] => { results := [.lit (.bool false)], args := [d1, d2] }
  | _ => none }
def FnExactObserveGridWrongFalsely : Prop := fnExactObserveGridRow.holds Try.pinned (OpenSpec.ofChange fnExactObserveGridWrong)

/-- 'laws.FnObserveGrid': WHATEVER THE INPUT: true; the input reads as it did. -/
def fnObserveGridSpec : ChangeSpec := { name := "fnObserveGrid", fn := fun _ => fun
  | [d] => { results := [.lit (.bool true)], args := [d] }
  | _ => none }
def fnObserveGridRow : OpenClaim := { program := "ytfandpgjlahnpaa", sum := "e43f41139855ca4ce67e446cd5ddb84e9f680b86ba21a04863d4ffc87f5d979a", func := "loop.example/radiointerferometer/laws.FnObserveGrid", spec := "fnObserveGrid", unfollowed := true, recurses := true, apart := false }
def FnObserveGridSaid : Prop := fnObserveGridRow.holds Try.pinned (OpenSpec.ofChange fnObserveGridSpec)

/-- ITS FALSE NEIGHBOUR: 'it returns false'. Refute it at one input. -/
def fnObserveGridWrong : ChangeSpec := { name := "fnObserveGrid", fn := fun _ => fun
  | [d] => { results := [.lit (.bool false)], args := [d] }
  | _ => none }
def FnObserveGridWrongFalsely : Prop := fnObserveGridRow.holds Try.pinned (OpenSpec.ofChange fnObserveGridWrong)

/-- 'laws.FnGridConj': WHATEVER THE INPUT: true; the input reads as it did. -/
def fnGridConjSpec : ChangeSpec := { name := "fnGridConj", fn := fun _ => fun
  | [d] => { results := [.lit (.bool true)], args := [d] }
  | _ => none }
def fnGridConjRow : OpenClaim := { program := "ytfandpgjlahnpaa", sum := "e43f41139855ca4ce67e446cd5ddb84e9f680b86ba21a04863d4ffc87f5d979a", func := "loop.example/radiointerferometer/laws.FnGridConj", spec := "fnGridConj", unfollowed := true, recurses := true, apart := false }
def FnGridConjSaid : Prop := fnGridConjRow.holds Try.pinned (OpenSpec.ofChange fnGridConjSpec)

/-- ITS FALSE NEIGHBOUR: 'it returns false'. Refute it at one input. -/
def fnGridConjWrong : ChangeSpec := { name := "fnGridConj", fn := fun _ => fun
  | [d] => { results := [.lit (.bool false)], args := [d] }
  | _ => none }
def FnGridConjWrongFalsely : Prop := fnGridConjRow.holds Try.pinned (OpenSpec.ofChange fnGridConjWrong)

/-- 'laws.FnGridBase': WHATEVER THE INPUT: true; the input reads as it did. -/
def fnGridBaseSpec : ChangeSpec := { name := "fnGridBase", fn := fun _ => fun
  | [d] => { results := [.lit (.bool true)], args := [d] }
  | _ => none }
def fnGridBaseRow : OpenClaim := { program := "ytfandpgjlahnpaa", sum := "e43f41139855ca4ce67e446cd5ddb84e9f680b86ba21a04863d4ffc87f5d979a", func := "loop.example/radiointerferometer/laws.FnGridBase", spec := "fnGridBase", unfollowed := true, recurses := true, apart := false }
def FnGridBaseSaid : Prop := fnGridBaseRow.holds Try.pinned (OpenSpec.ofChange fnGridBaseSpec)

/-- ITS FALSE NEIGHBOUR: 'it returns false'. Refute it at one input. -/
def fnGridBaseWrong : ChangeSpec := { name := "fnGridBase", fn := fun _ => fun
  | [d] => { results := [.lit (.bool false)], args := [d] }
  | _ => none }
def FnGridBaseWrongFalsely : Prop := fnGridBaseRow.holds Try.pinned (OpenSpec.ofChange fnGridBaseWrong)

/-- 'laws.FnCleanFull': WHATEVER THE INPUT: true; the input reads as it did. -/
def fnCleanFullSpec : ChangeSpec := { name := "fnCleanFull", fn := fun _ => fun
  | [d] => { results := [.lit (.bool true)], args := [d] }
  | _ => none }
def fnCleanFullRow : OpenClaim := { program := "ytfandpgjlahnpaa", sum := "e43f41139855ca4ce67e446cd5ddb84e9f680b86ba21a04863d4ffc87f5d979a", func := "loop.example/radiointerferometer/laws.FnCleanFull", spec := "fnCleanFull", apart := false }
def FnCleanFullSaid : Prop := fnCleanFullRow.holds Try.pinned (OpenSpec.ofChange fnCleanFullSpec)

/-- ITS FALSE NEIGHBOUR: 'it returns false'. Refute it at one input. -/
def fnCleanFullWrong : ChangeSpec := { name := "fnCleanFull", fn := fun _ => fun
  | [d] => { results := [.lit (.bool false)], args := [d] }
  | _ => none }
def FnCleanFullWrongFalsely : Prop := fnCleanFullRow.holds Try.pinned (OpenSpec.ofChange fnCleanFullWrong)

/-- 'laws.FnObserveImage': WHATEVER THE INPUT: true; the input reads as it did. -/
def fnObserveImageSpec : ChangeSpec := { name := "fnObserveImage", fn := fun _ => fun
  | [d] => { results := [.lit (.bool true)], args := [d] }
  | _ => none }
def fnObserveImageRow : OpenClaim := { program := "ytfandpgjlahnpaa", sum := "e43f41139855ca4ce67e446cd5ddb84e9f680b86ba21a04863d4ffc87f5d979a", func := "loop.example/radiointerferometer/laws.FnObserveImage", spec := "fnObserveImage", unfollowed := true, recurses := true, apart := false }
def FnObserveImageSaid : Prop := fnObserveImageRow.holds Try.pinned (OpenSpec.ofChange fnObserveImageSpec)

/-- ITS FALSE NEIGHBOUR: 'it returns false'. Refute it at one input. -/
def fnObserveImageWrong : ChangeSpec := { name := "fnObserveImage", fn := fun _ => fun
  | [d] => { results := [.lit (.bool false)], args := [d] }
  | _ => none }
def FnObserveImageWrongFalsely : Prop := fnObserveImageRow.holds Try.pinned (OpenSpec.ofChange fnObserveImageWrong)

/-- 'laws.FnExactObserveImage': WHATEVER THE INPUT: true; the input reads as it did. -/
def fnExactObserveImageSpec : ChangeSpec := { name := "fnExactObserveImage", fn := fun _ => fun
  | [d1, d2] => { results := [.lit (.bool true)], args := [d1, d2] }
  | _ => none }
def fnExactObserveImageRow : OpenClaim := { program := "ytfandpgjlahnpaa", sum := "e43f41139855ca4ce67e446cd5ddb84e9f680b86ba21a04863d4ffc87f5d979a", func := "loop.example/radiointerferometer/laws.FnExactObserveImage", spec := "fnExactObserveImage", unfollowed := true, recurses := true, apart := false }
def FnExactObserveImageSaid : Prop := fnExactObserveImageRow.holds Try.pinned (OpenSpec.ofChange fnExactObserveImageSpec)

/-- ITS FALSE NEIGHBOUR: 'it returns false'. Refute it at one input. -/
def fnExactObserveImageWrong : ChangeSpec := { name := "fnExactObserveImage", fn := fun _ => fun
  | [d1, d2] => { results := [.lit (.bool false)], args := [d1, d2] }
  | _ => none }
def FnExactObserveImageWrongFalsely : Prop := fnExactObserveImageRow.holds Try.pinned (OpenSpec.ofChange fnExactObserveImageWrong)

/-- 'laws.FnImageSum': WHATEVER THE INPUT: true; the input reads as it did. -/
def fnImageSumSpec : ChangeSpec := { name := "fnImageSum", fn := fun _ => fun
  | [d] => { results := [.lit (.bool true)], args := [d] }
  | _ => none }
def fnImageSumRow : OpenClaim := { program := "ytfandpgjlahnpaa", sum := "e43f41139855ca4ce67e446cd5ddb84e9f680b86ba21a04863d4ffc87f5d979a", func := "loop.example/radiointerferometer/laws.FnImageSum", spec := "fnImageSum", unfollowed := true, recurses := true, apart := false }
def FnImageSumSaid : Prop := fnImageSumRow.holds Try.pinned (OpenSpec.ofChange fnImageSumSpec)

/-- ITS FALSE NEIGHBOUR: 'it returns false'. Refute it at one input. -/
def fnImageSumWrong : ChangeSpec := { name := "fnImageSum", fn := fun _ => fun
  | [d] => { results := [.lit (.bool false)], args := [d] }
  | _ => none }
def FnImageSumWrongFalsely : Prop := fnImageSumRow.holds Try.pinned (OpenSpec.ofChange fnImageSumWrong)

/-- 'laws.FnImageTransform': WHATEVER THE INPUT: true; the input reads as it did. -/
def fnImageTransformSpec : ChangeSpec := { name := "fnImageTransform", fn := fun _ => fun
  | [d] => { results := [.lit (.bool true)], args := [d] }
  | _ => none }
def fnImageTransformRow : OpenClaim := { program := "ytfandpgjlahnpaa", sum := "e43f41139855ca4ce67e446cd5ddb84e9f680b86ba21a04863d4ffc87f5d979a", func := "loop.example/radiointerferometer/laws.FnImageTransform", spec := "fnImageTransform", unfollowed := true, recurses := true, apart := false }
def FnImageTransformSaid : Prop := fnImageTransformRow.holds Try.pinned (OpenSpec.ofChange fnImageTransformSpec)

/-- ITS FALSE NEIGHBOUR: 'it returns false'. Refute it at one input. -/
def fnImageTransformWrong : ChangeSpec := { name := "fnImageTransform", fn := fun _ => fun
  | [d] => { results := [.lit (.bool false)], args := [d] }
  | _ => none }
def FnImageTransformWrongFalsely : Prop := fnImageTransformRow.holds Try.pinned (OpenSpec.ofChange fnImageTransformWrong)

/- THE SECOND FORM. 'bulk': how many values and letters a reading holds, each counted each time it is reached (what is shared counts as often as it is met; a slice's spare places count too). A statement '..UptoSaid' is the law's where the arguments, and the package variables that the reading takes, are together of bulk at most 1048576: NARROWER than '..Said'. Prove '..Said' where nothing that the law and all that it calls make is longer than what came in: it says more and counts as full. Else prove '..UptoSaid'. A law counts once. -/
mutual
def uptoBulk {H : Type} : DataW H → Nat
  | .lit (.string bytes) => bytes.length + 1
  | .lit _ => 1
  | .nil => 1
  | .ptr d => uptoBulk d + 1
  | .slice elems spare => uptoBulkAll elems + uptoBulkAll spare + 1
  | .agg parts => uptoBulkAll parts + 1
  | .iface _ d => uptoBulk d + 1
  | .map entries => uptoBulkEntries entries + 1
  | .held _ => 1
def uptoBulkAll {H : Type} : List (DataW H) → Nat
  | [] => 0
  | d :: r => uptoBulk d + uptoBulkAll r
def uptoBulkEntries {H : Type} : List (Lit × DataW H) → Nat
  | [] => 0
  | x :: r => uptoBulkEntry x + uptoBulkEntries r
def uptoBulkEntry {H : Type} : Lit × DataW H → Nat
  | (.string bytes, d) => bytes.length + uptoBulk d + 1
  | (_, d) => uptoBulk d + 1
 end
def uptoSmall : (H : Type) → List (DataW H) → Bool := fun _ ds => decide (uptoBulkAll ds ≤ 1048576)
def OpenSpec.upto (s : _root_.Go.ChangeSpec) : _root_.Go.OpenSpec := { _root_.Go.OpenSpec.ofChange s with cond := some uptoSmall }

/-- 'laws.FnNaturalBeam', WHERE WHAT IT READS IS OF BULK AT MOST 1048576: true; the input reads as it did. -/
def fnNaturalBeamUptoRow : OpenClaim := { program := "ytfandpgjlahnpaa", sum := "e43f41139855ca4ce67e446cd5ddb84e9f680b86ba21a04863d4ffc87f5d979a", func := "loop.example/radiointerferometer/laws.FnNaturalBeam", spec := "fnNaturalBeam", unfollowed := true, recurses := true, apart := false, narrowed := true }
def FnNaturalBeamUptoSaid : Prop := fnNaturalBeamUptoRow.holds Try.pinned (OpenSpec.upto fnNaturalBeamSpec)

/-- 'laws.FnCleanSpot', WHERE WHAT IT READS IS OF BULK AT MOST 1048576: true; the input reads as it did. -/
def fnCleanSpotUptoRow : OpenClaim := { program := "ytfandpgjlahnpaa", sum := "e43f41139855ca4ce67e446cd5ddb84e9f680b86ba21a04863d4ffc87f5d979a", func := "loop.example/radiointerferometer/laws.FnCleanSpot", spec := "fnCleanSpot", apart := false, narrowed := true }
def FnCleanSpotUptoSaid : Prop := fnCleanSpotUptoRow.holds Try.pinned (OpenSpec.upto fnCleanSpotSpec)

/-- 'laws.FnExactObserveGrid', WHERE WHAT IT READS IS OF BULK AT MOST 1048576: true; the input reads as it did. -/
def fnExactObserveGridUptoRow : OpenClaim := { program := "ytfandpgjlahnpaa", sum := "e43f41139855ca4ce67e446cd5ddb84e9f680b86ba21a04863d4ffc87f5d979a", func := "loop.example/radiointerferometer/laws.FnExactObserveGrid", spec := "fnExactObserveGrid", unfollowed := true, recurses := true, apart := false, narrowed := true }
def FnExactObserveGridUptoSaid : Prop := fnExactObserveGridUptoRow.holds Try.pinned (OpenSpec.upto fnExactObserveGridSpec)

/-- 'laws.FnObserveGrid', WHERE WHAT IT READS IS OF BULK AT MOST 1048576: true; the input reads as it did. -/
def fnObserveGridUptoRow : OpenClaim := { program := "ytfandpgjlahnpaa", sum := "e43f41139855ca4ce67e446cd5ddb84e9f680b86ba21a04863d4ffc87f5d979a", func := "loop.example/radiointerferometer/laws.FnObserveGrid", spec := "fnObserveGrid", unfollowed := true, recurses := true, apart := false, narrowed := true }
def FnObserveGridUptoSaid : Prop := fnObserveGridUptoRow.holds Try.pinned (OpenSpec.upto fnObserveGridSpec)

/-- 'laws.FnGridConj', WHERE WHAT IT READS IS OF BULK AT MOST 1048576: true; the input reads as it did. -/
def fnGridConjUptoRow : OpenClaim := { program := "ytfandpgjlahnpaa", sum := "e43f41139855ca4ce67e446cd5ddb84e9f680b86ba21a04863d4ffc87f5d979a", func := "loop.example/radiointerferometer/laws.FnGridConj", spec := "fnGridConj", unfollowed := true, recurses := true, apart := false, narrowed := true }
def FnGridConjUptoSaid : Prop := fnGridConjUptoRow.holds Try.pinned (OpenSpec.upto fnGridConjSpec)

/-- 'laws.FnGridBase', WHERE WHAT IT READS IS OF BULK AT MOST 1048576: true; the input reads as it did. -/
def fnGridBaseUptoRow : OpenClaim := { program := "ytfandpgjlahnpaa", sum := "e43f41139855ca4ce67e446cd5ddb84e9f680b86ba21a04863d4ffc87f5d979a", func := "loop.example/radiointerferometer/laws.FnGridBase", spec := "fnGridBase", unfollowed := true, recurses := true, apart := false, narrowed := true }
def FnGridBaseUptoSaid : Prop := fnGridBaseUptoRow.holds Try.pinned (OpenSpec.upto fnGridBaseSpec)

/-- 'laws.FnCleanFull', WHERE WHAT IT READS IS OF BULK AT MOST 1048576: true; the input reads as it did. -/
def fnCleanFullUptoRow : OpenClaim := { program := "ytfandpgjlahnpaa", sum := "e43f41139855ca4ce67e446cd5ddb84e9f680b86ba21a04863d4ffc87f5d979a", func := "loop.example/radiointerferometer/laws.FnCleanFull", spec := "fnCleanFull", apart := false, narrowed := true }
def FnCleanFullUptoSaid : Prop := fnCleanFullUptoRow.holds Try.pinned (OpenSpec.upto fnCleanFullSpec)

/-- 'laws.FnObserveImage', WHERE WHAT IT READS IS OF BULK AT MOST 1048576: true; the input reads as it did. -/
def fnObserveImageUptoRow : OpenClaim := { program := "ytfandpgjlahnpaa", sum := "e43f41139855ca4ce67e446cd5ddb84e9f680b86ba21a04863d4ffc87f5d979a", func := "loop.example/radiointerferometer/laws.FnObserveImage", spec := "fnObserveImage", unfollowed := true, recurses := true, apart := false, narrowed := true }
def FnObserveImageUptoSaid : Prop := fnObserveImageUptoRow.holds Try.pinned (OpenSpec.upto fnObserveImageSpec)

/-- 'laws.FnExactObserveImage', WHERE WHAT IT READS IS OF BULK AT MOST 1048576: true; the input reads as it did. -/
def fnExactObserveImageUptoRow : OpenClaim := { program := "ytfandpgjlahnpaa", sum := "e43f41139855ca4ce67e446cd5ddb84e9f680b86ba21a04863d4ffc87f5d979a", func := "loop.example/radiointerferometer/laws.FnExactObserveImage", spec := "fnExactObserveImage", unfollowed := true, recurses := true, apart := false, narrowed := true }
def FnExactObserveImageUptoSaid : Prop := fnExactObserveImageUptoRow.holds Try.pinned (OpenSpec.upto fnExactObserveImageSpec)

/-- 'laws.FnImageSum', WHERE WHAT IT READS IS OF BULK AT MOST 1048576: true; the input reads as it did. -/
def fnImageSumUptoRow : OpenClaim := { program := "ytfandpgjlahnpaa", sum := "e43f41139855ca4ce67e446cd5ddb84e9f680b86ba21a04863d4ffc87f5d979a", func := "loop.example/radiointerferometer/laws.FnImageSum", spec := "fnImageSum", unfollowed := true, recurses := true, apart := false, narrowed := true }
def FnImageSumUptoSaid : Prop := fnImageSumUptoRow.holds Try.pinned (OpenSpec.upto fnImageSumSpec)

/-- 'laws.FnImageTransform', WHERE WHAT IT READS IS OF BULK AT MOST 1048576: true; the input reads as it did. -/
def fnImageTransformUptoRow : OpenClaim := { program := "ytfandpgjlahnpaa", sum := "e43f41139855ca4ce67e446cd5ddb84e9f680b86ba21a04863d4ffc87f5d979a", func := "loop.example/radiointerferometer/laws.FnImageTransform", spec := "fnImageTransform", unfollowed := true, recurses := true, apart := false, narrowed := true }
def FnImageTransformUptoSaid : Prop := fnImageTransformUptoRow.holds Try.pinned (OpenSpec.upto fnImageTransformSpec)

end Rows
end Go.Proofs.Ytfandpgjlahnpaa
