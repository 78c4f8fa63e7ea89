/-
  No cell of these rows narrows 'for every input' (looked for: loops, veiled, ifaces, maps, wideKeys, modest, calm, conditions, laid).
  DERIVED. THE GIVEN ROWS OF THIS SEAT. 26 by the template 'for every input the law returns true; each argument reads behind the call as it read before'; 0 by the template 'total and deterministic' (their statements: YtcllkocmnohnkaaTotals.lean).
  GIVEN WITH THE SEED: the statements are not yours to turn. If you find one false, say at which input.
  Laid BY PROGRAM, IN A SANDBOX (cutbox-rows.mjs): the forced cells as the released guide's own fill.sh prints them over the translation 4c90684cff5fb8f7… (all of the seat's roots in one cut). By AI agents, Wed Nov 11 2026. No macro, syntax, notation, axiom, sorry.
-/
import Derived.Test.YtcllkocmnohnkaaChecked
import GoSem.Claim
import GoSem.ClaimJoined
import GoSem.ClaimMapViews
import Derived.JoinedTies
import Derived.KernelRfl
namespace Go.Proofs.Ytcllkocmnohnkaa
/- THE CELL 'sum', in the pinned program and in every row, IS THE sha256 OF THE DUMP (.gsa) THAT YtcllkocmnohnkaaProg.lean LOADS. Nothing in Lean hashes anything: it is a label: what it is worth is what the hold of that sum in a sandbox is worth. -/
noncomputable def Try.pinned : Pinned := { name := "ytcllkocmnohnkaa", sum := "4c90684cff5fb8f742bd1ba6b308080a6504f6042aeff43ba6e4acf2f9f0ea23", checked := Try.checked }
namespace Rows
def none {H : Type} : Left H := { results := [], args := [] }

/-- 'laws.FnBeamFold': WHATEVER THE INPUT: true; the input reads as it did. -/
def fnBeamFoldSpec : ChangeSpec := { name := "fnBeamFold", fn := fun _ => fun
  | [d] => { results := [.lit (.bool true)], args := [d] }
  | _ => none }
def fnBeamFoldRow : OpenClaim := { program := "ytcllkocmnohnkaa", sum := "4c90684cff5fb8f742bd1ba6b308080a6504f6042aeff43ba6e4acf2f9f0ea23", func := "loop.example/radiointerferometer/laws.FnBeamFold", spec := "fnBeamFold", apart := false }
def FnBeamFoldSaid : Prop := fnBeamFoldRow.holds Try.pinned (OpenSpec.ofChange fnBeamFoldSpec)

/-- ITS FALSE NEIGHBOUR: 'it returns false'. Refute it at one input. -/
def fnBeamFoldWrong : ChangeSpec := { name := "fnBeamFold", fn := fun _ => fun
  | [d] => { results := [.lit (.bool false)], args := [d] }
  | _ => none }
def FnBeamFoldWrongFalsely : Prop := fnBeamFoldRow.holds Try.pinned (OpenSpec.ofChange fnBeamFoldWrong)

/-- 'laws.FnBeamHoles': WHATEVER THE INPUT: true; the input reads as it did. -/
def fnBeamHolesSpec : ChangeSpec := { name := "fnBeamHoles", fn := fun _ => fun
  | [d] => { results := [.lit (.bool true)], args := [d] }
  | _ => none }
def fnBeamHolesRow : OpenClaim := { program := "ytcllkocmnohnkaa", sum := "4c90684cff5fb8f742bd1ba6b308080a6504f6042aeff43ba6e4acf2f9f0ea23", func := "loop.example/radiointerferometer/laws.FnBeamHoles", spec := "fnBeamHoles", apart := false }
def FnBeamHolesSaid : Prop := fnBeamHolesRow.holds Try.pinned (OpenSpec.ofChange fnBeamHolesSpec)

/-- ITS FALSE NEIGHBOUR: 'it returns false'. Refute it at one input. -/
def fnBeamHolesWrong : ChangeSpec := { name := "fnBeamHoles", fn := fun _ => fun
  | [d] => { results := [.lit (.bool false)], args := [d] }
  | _ => none }
def FnBeamHolesWrongFalsely : Prop := fnBeamHolesRow.holds Try.pinned (OpenSpec.ofChange fnBeamHolesWrong)

/-- 'laws.FnExactObserveSolve': WHATEVER THE INPUT: true; the input reads as it did. -/
def fnExactObserveSolveSpec : ChangeSpec := { name := "fnExactObserveSolve", fn := fun _ => fun
  | [d1, d2, d3] => { results := [.lit (.bool true)], args := [d1, d2, d3] }
  | _ => none }
def fnExactObserveSolveRow : OpenClaim := { program := "ytcllkocmnohnkaa", sum := "4c90684cff5fb8f742bd1ba6b308080a6504f6042aeff43ba6e4acf2f9f0ea23", func := "loop.example/radiointerferometer/laws.FnExactObserveSolve", spec := "fnExactObserveSolve", unfollowed := true, recurses := true, apart := false }
def FnExactObserveSolveSaid : Prop := fnExactObserveSolveRow.holds Try.pinned (OpenSpec.ofChange fnExactObserveSolveSpec)

/-- ITS FALSE NEIGHBOUR: 'it returns false'. Refute it at one input. -/
def fnExactObserveSolveWrong : ChangeSpec := { name := "fnExactObserveSolve", fn := fun _ => fun
  | [d1, d2, d3] => { results := [.lit (.bool false)], args := [d1, d2, d3] }
  | _ => none }
def FnExactObserveSolveWrongFalsely : Prop := fnExactObserveSolveRow.holds Try.pinned (OpenSpec.ofChange fnExactObserveSolveWrong)

/-- 'laws.FnNaturalBeam': WHATEVER THE INPUT: true; the input reads as it did. -/
def fnNaturalBeamSpec : ChangeSpec := { name := "fnNaturalBeam", fn := fun _ => fun
  | [d] => { results := [.lit (.bool true)], args := [d] }
  | _ => none }
def fnNaturalBeamRow : OpenClaim := { program := "ytcllkocmnohnkaa", sum := "4c90684cff5fb8f742bd1ba6b308080a6504f6042aeff43ba6e4acf2f9f0ea23", func := "loop.example/radiointerferometer/laws.FnNaturalBeam", spec := "fnNaturalBeam", unfollowed := true, recurses := true, apart := false }
def FnNaturalBeamSaid : Prop := fnNaturalBeamRow.holds Try.pinned (OpenSpec.ofChange fnNaturalBeamSpec)

/-- ITS FALSE NEIGHBOUR: 'it returns false'. Refute it at one input. -/
def fnNaturalBeamWrong : ChangeSpec := { name := "fnNaturalBeam", fn := fun _ => fun
  | [d] => { results := [.lit (.bool false)], args := [d] }
  | _ => none }
def FnNaturalBeamWrongFalsely : Prop := fnNaturalBeamRow.holds Try.pinned (OpenSpec.ofChange fnNaturalBeamWrong)

/-- 'laws.FnSolveSelf': WHATEVER THE INPUT: true; the input reads as it did. -/
def fnSolveSelfSpec : ChangeSpec := { name := "fnSolveSelf", fn := fun _ => fun
  | [d] => { results := [.lit (.bool true)], args := [d] }
  | _ => none }
def fnSolveSelfRow : OpenClaim := { program := "ytcllkocmnohnkaa", sum := "4c90684cff5fb8f742bd1ba6b308080a6504f6042aeff43ba6e4acf2f9f0ea23", func := "loop.example/radiointerferometer/laws.FnSolveSelf", spec := "fnSolveSelf", unfollowed := true, recurses := true, apart := false }
def FnSolveSelfSaid : Prop := fnSolveSelfRow.holds Try.pinned (OpenSpec.ofChange fnSolveSelfSpec)

/-- ITS FALSE NEIGHBOUR: 'it returns false'. Refute it at one input. -/
def fnSolveSelfWrong : ChangeSpec := { name := "fnSolveSelf", fn := fun _ => fun
  | [d] => { results := [.lit (.bool false)], args := [d] }
  | _ => none }
def FnSolveSelfWrongFalsely : Prop := fnSolveSelfRow.holds Try.pinned (OpenSpec.ofChange fnSolveSelfWrong)

/-- 'laws.FnSolveTurn': WHATEVER THE INPUT: true; the input reads as it did. -/
def fnSolveTurnSpec : ChangeSpec := { name := "fnSolveTurn", fn := fun _ => fun
  | [d] => { results := [.lit (.bool true)], args := [d] }
  | _ => none }
def fnSolveTurnRow : OpenClaim := { program := "ytcllkocmnohnkaa", sum := "4c90684cff5fb8f742bd1ba6b308080a6504f6042aeff43ba6e4acf2f9f0ea23", func := "loop.example/radiointerferometer/laws.FnSolveTurn", spec := "fnSolveTurn", unfollowed := true, recurses := true, apart := false }
def FnSolveTurnSaid : Prop := fnSolveTurnRow.holds Try.pinned (OpenSpec.ofChange fnSolveTurnSpec)

/-- ITS FALSE NEIGHBOUR: 'it returns false'. Refute it at one input. -/
def fnSolveTurnWrong : ChangeSpec := { name := "fnSolveTurn", fn := fun _ => fun
  | [d] => { results := [.lit (.bool false)], args := [d] }
  | _ => none }
def FnSolveTurnWrongFalsely : Prop := fnSolveTurnRow.holds Try.pinned (OpenSpec.ofChange fnSolveTurnWrong)

/-- 'laws.FnDirtySum': WHATEVER THE INPUT: true; the input reads as it did. -/
def fnDirtySumSpec : ChangeSpec := { name := "fnDirtySum", fn := fun _ => fun
  | [d] => { results := [.lit (.bool true)], args := [d] }
  | _ => none }
def fnDirtySumRow : OpenClaim := { program := "ytcllkocmnohnkaa", sum := "4c90684cff5fb8f742bd1ba6b308080a6504f6042aeff43ba6e4acf2f9f0ea23", func := "loop.example/radiointerferometer/laws.FnDirtySum", spec := "fnDirtySum", apart := false }
def FnDirtySumSaid : Prop := fnDirtySumRow.holds Try.pinned (OpenSpec.ofChange fnDirtySumSpec)

/-- ITS FALSE NEIGHBOUR: 'it returns false'. Refute it at one input. -/
def fnDirtySumWrong : ChangeSpec := { name := "fnDirtySum", fn := fun _ => fun
  | [d] => { results := [.lit (.bool false)], args := [d] }
  | _ => none }
def FnDirtySumWrongFalsely : Prop := fnDirtySumRow.holds Try.pinned (OpenSpec.ofChange fnDirtySumWrong)

/-- 'laws.FnCleanSpot': WHATEVER THE INPUT: true; the input reads as it did. -/
def fnCleanSpotSpec : ChangeSpec := { name := "fnCleanSpot", fn := fun _ => fun
  | [d1, d2] => { results := [.lit (.bool true)], args := [d1, d2] }
  | _ => none }
def fnCleanSpotRow : OpenClaim := { program := "ytcllkocmnohnkaa", sum := "4c90684cff5fb8f742bd1ba6b308080a6504f6042aeff43ba6e4acf2f9f0ea23", func := "loop.example/radiointerferometer/laws.FnCleanSpot", spec := "fnCleanSpot", apart := false }
def FnCleanSpotSaid : Prop := fnCleanSpotRow.holds Try.pinned (OpenSpec.ofChange fnCleanSpotSpec)

/-- ITS FALSE NEIGHBOUR: 'it returns false'. Refute it at one input. -/
def fnCleanSpotWrong : ChangeSpec := { name := "fnCleanSpot", fn := fun _ => fun
  | [d1, d2] => { results := [.lit (.bool false)], args := [d1, d2] }
  | _ => none }
def FnCleanSpotWrongFalsely : Prop := fnCleanSpotRow.holds Try.pinned (OpenSpec.ofChange fnCleanSpotWrong)

/-- 'laws.FnDirtyFold': WHATEVER THE INPUT: true; the input reads as it did. -/
def fnDirtyFoldSpec : ChangeSpec := { name := "fnDirtyFold", fn := fun _ => fun
  | [d] => { results := [.lit (.bool true)], args := [d] }
  | _ => none }
def fnDirtyFoldRow : OpenClaim := { program := "ytcllkocmnohnkaa", sum := "4c90684cff5fb8f742bd1ba6b308080a6504f6042aeff43ba6e4acf2f9f0ea23", func := "loop.example/radiointerferometer/laws.FnDirtyFold", spec := "fnDirtyFold", apart := false }
def FnDirtyFoldSaid : Prop := fnDirtyFoldRow.holds Try.pinned (OpenSpec.ofChange fnDirtyFoldSpec)

/-- ITS FALSE NEIGHBOUR: 'it returns false'. Refute it at one input. -/
def fnDirtyFoldWrong : ChangeSpec := { name := "fnDirtyFold", fn := fun _ => fun
  | [d] => { results := [.lit (.bool false)], args := [d] }
  | _ => none }
def FnDirtyFoldWrongFalsely : Prop := fnDirtyFoldRow.holds Try.pinned (OpenSpec.ofChange fnDirtyFoldWrong)

/-- 'laws.FnObserveAdd': WHATEVER THE INPUT: true; the input reads as it did. -/
def fnObserveAddSpec : ChangeSpec := { name := "fnObserveAdd", fn := fun _ => fun
  | [d1, d2] => { results := [.lit (.bool true)], args := [d1, d2] }
  | _ => none }
def fnObserveAddRow : OpenClaim := { program := "ytcllkocmnohnkaa", sum := "4c90684cff5fb8f742bd1ba6b308080a6504f6042aeff43ba6e4acf2f9f0ea23", func := "loop.example/radiointerferometer/laws.FnObserveAdd", spec := "fnObserveAdd", unfollowed := true, recurses := true, apart := false }
def FnObserveAddSaid : Prop := fnObserveAddRow.holds Try.pinned (OpenSpec.ofChange fnObserveAddSpec)

/-- ITS FALSE NEIGHBOUR: 'it returns false'. Refute it at one input. -/
def fnObserveAddWrong : ChangeSpec := { name := "fnObserveAdd", fn := fun _ => fun
  | [d1, d2] => { results := [.lit (.bool false)], args := [d1, d2] }
  | _ => none }
def FnObserveAddWrongFalsely : Prop := fnObserveAddRow.holds Try.pinned (OpenSpec.ofChange fnObserveAddWrong)

/-- 'laws.FnDirtyAdd': WHATEVER THE INPUT: true; the input reads as it did. -/
def fnDirtyAddSpec : ChangeSpec := { name := "fnDirtyAdd", fn := fun _ => fun
  | [d1, d2] => { results := [.lit (.bool true)], args := [d1, d2] }
  | _ => none }
def fnDirtyAddRow : OpenClaim := { program := "ytcllkocmnohnkaa", sum := "4c90684cff5fb8f742bd1ba6b308080a6504f6042aeff43ba6e4acf2f9f0ea23", func := "loop.example/radiointerferometer/laws.FnDirtyAdd", spec := "fnDirtyAdd", apart := false }
def FnDirtyAddSaid : Prop := fnDirtyAddRow.holds Try.pinned (OpenSpec.ofChange fnDirtyAddSpec)

/-- ITS FALSE NEIGHBOUR: 'it returns false'. Refute it at one input. -/
def fnDirtyAddWrong : ChangeSpec := { name := "fnDirtyAdd", fn := fun _ => fun
  | [d1, d2] => { results := [.lit (.bool false)], args := [d1, d2] }
  | _ => none }
def FnDirtyAddWrongFalsely : Prop := fnDirtyAddRow.holds Try.pinned (OpenSpec.ofChange fnDirtyAddWrong)

/-- 'laws.FnExactObserveOf': WHATEVER THE INPUT: true; the input reads as it did. -/
def fnExactObserveOfSpec : ChangeSpec := { name := "fnExactObserveOf", fn := fun _ => fun
  | [d1, d2] => { results := [.lit (.bool true)], args := [d1, d2] }
  | _ => none }
def fnExactObserveOfRow : OpenClaim := { program := "ytcllkocmnohnkaa", sum := "4c90684cff5fb8f742bd1ba6b308080a6504f6042aeff43ba6e4acf2f9f0ea23", func := "loop.example/radiointerferometer/laws.FnExactObserveOf", spec := "fnExactObserveOf", unfollowed := true, recurses := true, apart := false }
def FnExactObserveOfSaid : Prop := fnExactObserveOfRow.holds Try.pinned (OpenSpec.ofChange fnExactObserveOfSpec)

/-- ITS FALSE NEIGHBOUR: 'it returns false'. Refute it at one input. -/
def fnExactObserveOfWrong : ChangeSpec := { name := "fnExactObserveOf", fn := fun _ => fun
  | [d1, d2] => { results := [.lit (.bool false)], args := [d1, d2] }
  | _ => none }
def FnExactObserveOfWrongFalsely : Prop := fnExactObserveOfRow.holds Try.pinned (OpenSpec.ofChange fnExactObserveOfWrong)

/-- 'laws.FnExactObserveGrid': WHATEVER THE INPUT: true; the input reads as it did. -/
def fnExactObserveGridSpec : ChangeSpec := { name := "fnExactObserveGrid", fn := fun _ => fun
  | [d1, d2] => { results := [.lit (.bool true)], args := [d1, d2] }
  | _ => none }
def fnExactObserveGridRow : OpenClaim := { program := "ytcllkocmnohnkaa", sum := "4c90684cff5fb8f742bd1ba6b308080a6504f6042aeff43ba6e4acf2f9f0ea23", func := "loop.example/radiointerferometer/laws.FnExactObserveGrid", spec := "fnExactObserveGrid", unfollowed := true, recurses := true, apart := false }
def FnExactObserveGridSaid : Prop := fnExactObserveGridRow.holds Try.pinned (OpenSpec.ofChange fnExactObserveGridSpec)

/-- ITS FALSE NEIGHBOUR: 'it returns false'. Refute it at one input. -/
def fnExactObserveGridWrong : ChangeSpec := { name := "fnExactObserveGrid", fn := fun _ => fun
  | [d1, d2] => { results := [.lit (.bool false)], args := [d1, d2] }
  | _ => none }
def FnExactObserveGridWrongFalsely : Prop := fnExactObserveGridRow.holds Try.pinned (OpenSpec.ofChange fnExactObserveGridWrong)

/-- 'laws.FnObserve': WHATEVER THE INPUT: true; the input reads as it did. -/
def fnObserveSpec : ChangeSpec := { name := "fnObserve", fn := fun _ => fun
  | [d1, d2] => { results := [.lit (.bool true)], args := [d1, d2] }
  | _ => none }
def fnObserveRow : OpenClaim := { program := "ytcllkocmnohnkaa", sum := "4c90684cff5fb8f742bd1ba6b308080a6504f6042aeff43ba6e4acf2f9f0ea23", func := "loop.example/radiointerferometer/laws.FnObserve", spec := "fnObserve", unfollowed := true, recurses := true, apart := false }
def FnObserveSaid : Prop := fnObserveRow.holds Try.pinned (OpenSpec.ofChange fnObserveSpec)

/-- ITS FALSE NEIGHBOUR: 'it returns false'. Refute it at one input. -/
def fnObserveWrong : ChangeSpec := { name := "fnObserve", fn := fun _ => fun
  | [d1, d2] => { results := [.lit (.bool false)], args := [d1, d2] }
  | _ => none }
def FnObserveWrongFalsely : Prop := fnObserveRow.holds Try.pinned (OpenSpec.ofChange fnObserveWrong)

/-- 'laws.FnTripleSpot': WHATEVER THE INPUT: true; the input reads as it did. -/
def fnTripleSpotSpec : ChangeSpec := { name := "fnTripleSpot", fn := fun _ => fun
  | [d1, d2] => { results := [.lit (.bool true)], args := [d1, d2] }
  | _ => none }
def fnTripleSpotRow : OpenClaim := { program := "ytcllkocmnohnkaa", sum := "4c90684cff5fb8f742bd1ba6b308080a6504f6042aeff43ba6e4acf2f9f0ea23", func := "loop.example/radiointerferometer/laws.FnTripleSpot", spec := "fnTripleSpot", unfollowed := true, recurses := true, apart := false }
def FnTripleSpotSaid : Prop := fnTripleSpotRow.holds Try.pinned (OpenSpec.ofChange fnTripleSpotSpec)

/-- ITS FALSE NEIGHBOUR: 'it returns false'. Refute it at one input. -/
def fnTripleSpotWrong : ChangeSpec := { name := "fnTripleSpot", fn := fun _ => fun
  | [d1, d2] => { results := [.lit (.bool false)], args := [d1, d2] }
  | _ => none }
def FnTripleSpotWrongFalsely : Prop := fnTripleSpotRow.holds Try.pinned (OpenSpec.ofChange fnTripleSpotWrong)

/-- 'laws.FnObserveShift': WHATEVER THE INPUT: true; the input reads as it did. -/
def fnObserveShiftSpec : ChangeSpec := { name := "fnObserveShift", fn := fun _ => fun
  | [d1, d2] => { results := [.lit (.bool true)], args := [d1, d2] }
  | _ => none }
def fnObserveShiftRow : OpenClaim := { program := "ytcllkocmnohnkaa", sum := "4c90684cff5fb8f742bd1ba6b308080a6504f6042aeff43ba6e4acf2f9f0ea23", func := "loop.example/radiointerferometer/laws.FnObserveShift", spec := "fnObserveShift", unfollowed := true, recurses := true, apart := false }
def FnObserveShiftSaid : Prop := fnObserveShiftRow.holds Try.pinned (OpenSpec.ofChange fnObserveShiftSpec)

/-- ITS FALSE NEIGHBOUR: 'it returns false'. Refute it at one input. -/
def fnObserveShiftWrong : ChangeSpec := { name := "fnObserveShift", fn := fun _ => fun
  | [d1, d2] => { results := [.lit (.bool false)], args := [d1, d2] }
  | _ => none }
def FnObserveShiftWrongFalsely : Prop := fnObserveShiftRow.holds Try.pinned (OpenSpec.ofChange fnObserveShiftWrong)

/-- 'laws.FnObserveShiftTriple': WHATEVER THE INPUT: true; the input reads as it did. -/
def fnObserveShiftTripleSpec : ChangeSpec := { name := "fnObserveShiftTriple", fn := fun _ => fun
  | [d1, d2] => { results := [.lit (.bool true)], args := [d1, d2] }
  | _ => none }
def fnObserveShiftTripleRow : OpenClaim := { program := "ytcllkocmnohnkaa", sum := "4c90684cff5fb8f742bd1ba6b308080a6504f6042aeff43ba6e4acf2f9f0ea23", func := "loop.example/radiointerferometer/laws.FnObserveShiftTriple", spec := "fnObserveShiftTriple", unfollowed := true, recurses := true, apart := false }
def FnObserveShiftTripleSaid : Prop := fnObserveShiftTripleRow.holds Try.pinned (OpenSpec.ofChange fnObserveShiftTripleSpec)

/-- ITS FALSE NEIGHBOUR: 'it returns false'. Refute it at one input. -/
def fnObserveShiftTripleWrong : ChangeSpec := { name := "fnObserveShiftTriple", fn := fun _ => fun
  | [d1, d2] => { results := [.lit (.bool false)], args := [d1, d2] }
  | _ => none }
def FnObserveShiftTripleWrongFalsely : Prop := fnObserveShiftTripleRow.holds Try.pinned (OpenSpec.ofChange fnObserveShiftTripleWrong)

/-- 'laws.FnObserveSame': WHATEVER THE INPUT: true; the input reads as it did. -/
def fnObserveSameSpec : ChangeSpec := { name := "fnObserveSame", fn := fun _ => fun
  | [d] => { results := [.lit (.bool true)], args := [d] }
  | _ => none }
def fnObserveSameRow : OpenClaim := { program := "ytcllkocmnohnkaa", sum := "4c90684cff5fb8f742bd1ba6b308080a6504f6042aeff43ba6e4acf2f9f0ea23", func := "loop.example/radiointerferometer/laws.FnObserveSame", spec := "fnObserveSame", unfollowed := true, recurses := true, apart := false }
def FnObserveSameSaid : Prop := fnObserveSameRow.holds Try.pinned (OpenSpec.ofChange fnObserveSameSpec)

/-- ITS FALSE NEIGHBOUR: 'it returns false'. Refute it at one input. -/
def fnObserveSameWrong : ChangeSpec := { name := "fnObserveSame", fn := fun _ => fun
  | [d] => { results := [.lit (.bool false)], args := [d] }
  | _ => none }
def FnObserveSameWrongFalsely : Prop := fnObserveSameRow.holds Try.pinned (OpenSpec.ofChange fnObserveSameWrong)

/-- 'laws.FnObserveGrid': WHATEVER THE INPUT: true; the input reads as it did. -/
def fnObserveGridSpec : ChangeSpec := { name := "fnObserveGrid", fn := fun _ => fun
  | [d] => { results := [.lit (.bool true)], args := [d] }
  | _ => none }
def fnObserveGridRow : OpenClaim := { program := "ytcllkocmnohnkaa", sum := "4c90684cff5fb8f742bd1ba6b308080a6504f6042aeff43ba6e4acf2f9f0ea23", func := "loop.example/radiointerferometer/laws.FnObserveGrid", spec := "fnObserveGrid", unfollowed := true, recurses := true, apart := false }
def FnObserveGridSaid : Prop := fnObserveGridRow.holds Try.pinned (OpenSpec.ofChange fnObserveGridSpec)

/-- ITS FALSE NEIGHBOUR: 'it returns false'. Refute it at one input. -/
def fnObserveGridWrong : ChangeSpec := { name := "fnObserveGrid", fn := fun _ => fun
  | [d] => { results := [.lit (.bool false)], args := [d] }
  | _ => none }
def FnObserveGridWrongFalsely : Prop := fnObserveGridRow.holds Try.pinned (OpenSpec.ofChange fnObserveGridWrong)

/-- 'laws.FnGridConj': WHATEVER THE INPUT: true; the input reads as it did. -/
def fnGridConjSpec : ChangeSpec := { name := "fnGridConj", fn := fun _ => fun
  | [d] => { results := [.lit (.bool true)], args := [d] }
  | _ => none }
def fnGridConjRow : OpenClaim := { program := "ytcllkocmnohnkaa", sum := "4c90684cff5fb8f742bd1ba6b308080a6504f6042aeff43ba6e4acf2f9f0ea23", func := "loop.example/radiointerferometer/laws.FnGridConj", spec := "fnGridConj", unfollowed := true, recurses := true, apart := false }
def FnGridConjSaid : Prop := fnGridConjRow.holds Try.pinned (OpenSpec.ofChange fnGridConjSpec)

/-- ITS FALSE NEIGHBOUR: 'it returns false'. Refute it at one input. -/
def fnGridConjWrong : ChangeSpec := { name := "fnGridConj", fn := fun _ => fun
  | [d] => { results := [.lit (.bool false)], args := [d] }
  | _ => none }
def FnGridConjWrongFalsely : Prop := fnGridConjRow.holds Try.pinned (OpenSpec.ofChange fnGridConjWrong)

/-- 'laws.FnGridBase': WHATEVER THE INPUT: true; the input reads as it did. -/
def fnGridBaseSpec : ChangeSpec := { name := "fnGridBase", fn := fun _ => fun
  | [d] => { results := [.lit (.bool true)], args := [d] }
  | _ => none }
def fnGridBaseRow : OpenClaim := { program := "ytcllkocmnohnkaa", sum := "4c90684cff5fb8f742bd1ba6b308080a6504f6042aeff43ba6e4acf2f9f0ea23", func := "loop.example/radiointerferometer/laws.FnGridBase", spec := "fnGridBase", unfollowed := true, recurses := true, apart := false }
def FnGridBaseSaid : Prop := fnGridBaseRow.holds Try.pinned (OpenSpec.ofChange fnGridBaseSpec)

/-- ITS FALSE NEIGHBOUR: 'it returns false'. Refute it at one input. -/
def fnGridBaseWrong : ChangeSpec := { name := "fnGridBase", fn := fun _ => fun
  | [d] => { results := [.lit (.bool false)], args := [d] }
  | _ => none }
def FnGridBaseWrongFalsely : Prop := fnGridBaseRow.holds Try.pinned (OpenSpec.ofChange fnGridBaseWrong)

/-- 'laws.FnCleanFull': WHATEVER THE INPUT: true; the input reads as it did. -/
def fnCleanFullSpec : ChangeSpec := { name := "fnCleanFull", fn := fun _ => fun
  | [d] => { results := [.lit (.bool true)], args := [d] }
  | _ => none }
def fnCleanFullRow : OpenClaim := { program := "ytcllkocmnohnkaa", sum := "4c90684cff5fb8f742bd1ba6b308080a6504f6042aeff43ba6e4acf2f9f0ea23", func := "loop.example/radiointerferometer/laws.FnCleanFull", spec := "fnCleanFull", apart := false }
def FnCleanFullSaid : Prop := fnCleanFullRow.holds Try.pinned (OpenSpec.ofChange fnCleanFullSpec)

/-- ITS FALSE NEIGHBOUR: 'it returns false'. Refute it at one input. -/
def fnCleanFullWrong : ChangeSpec := { name := "fnCleanFull", fn := fun _ => fun
  | [d] => { results := [.lit (.bool false)], args := [d] }
  | _ => none }
def FnCleanFullWrongFalsely : Prop := fnCleanFullRow.holds Try.pinned (OpenSpec.ofChange fnCleanFullWrong)

/-- 'laws.FnObserveImage': WHATEVER THE INPUT: true; the input reads as it did. -/
def fnObserveImageSpec : ChangeSpec := { name := "fnObserveImage", fn := fun _ => fun
  | [d] => { results := [.lit (.bool true)], args := [d] }
  | _ => none }
def fnObserveImageRow : OpenClaim := { program := "ytcllkocmnohnkaa", sum := "4c90684cff5fb8f742bd1ba6b308080a6504f6042aeff43ba6e4acf2f9f0ea23", func := "loop.example/radiointerferometer/laws.FnObserveImage", spec := "fnObserveImage", unfollowed := true, recurses := true, apart := false }
def FnObserveImageSaid : Prop := fnObserveImageRow.holds Try.pinned (OpenSpec.ofChange fnObserveImageSpec)

/-- ITS FALSE NEIGHBOUR: 'it returns false'. Refute it at one input. -/
def fnObserveImageWrong : ChangeSpec := { name := "fnObserveImage", fn := fun _ => fun
  | [d] => { results := [.lit (.bool false)], args := [d] }
  | _ => none }
def FnObserveImageWrongFalsely : Prop := fnObserveImageRow.holds Try.pinned (OpenSpec.ofChange fnObserveImageWrong)

/-- 'laws.FnExactObserveImage': WHATEVER THE INPUT: true; the input reads as it did. -/
def fnExactObserveImageSpec : ChangeSpec := { name := "fnExactObserveImage", fn := fun _ => fun
  | [d1, d2] => { results := [.lit (.bool true)], args := [d1, d2] }
  | _ => none }
def fnExactObserveImageRow : OpenClaim := { program := "ytcllkocmnohnkaa", sum := "4c90684cff5fb8f742bd1ba6b308080a6504f6042aeff43ba6e4acf2f9f0ea23", func := "loop.example/radiointerferometer/laws.FnExactObserveImage", spec := "fnExactObserveImage", unfollowed := true, recurses := true, apart := false }
def FnExactObserveImageSaid : Prop := fnExactObserveImageRow.holds Try.pinned (OpenSpec.ofChange fnExactObserveImageSpec)

/-- ITS FALSE NEIGHBOUR: 'it returns false'. Refute it at one input. -/
def fnExactObserveImageWrong : ChangeSpec := { name := "fnExactObserveImage", fn := fun _ => fun
  | [d1, d2] => { results := [.lit (.bool false)], args := [d1, d2] }
  | _ => none }
def FnExactObserveImageWrongFalsely : Prop := fnExactObserveImageRow.holds Try.pinned (OpenSpec.ofChange fnExactObserveImageWrong)

/-- 'laws.FnImageSum': WHATEVER THE INPUT: true; the input reads as it did. -/
def fnImageSumSpec : ChangeSpec := { name := "fnImageSum", fn := fun _ => fun
  | [d] => { results := [.lit (.bool true)], args := [d] }
  | _ => none }
def fnImageSumRow : OpenClaim := { program := "ytcllkocmnohnkaa", sum := "4c90684cff5fb8f742bd1ba6b308080a6504f6042aeff43ba6e4acf2f9f0ea23", func := "loop.example/radiointerferometer/laws.FnImageSum", spec := "fnImageSum", unfollowed := true, recurses := true, apart := false }
def FnImageSumSaid : Prop := fnImageSumRow.holds Try.pinned (OpenSpec.ofChange fnImageSumSpec)

/-- ITS FALSE NEIGHBOUR: 'it returns false'. Refute it at one input. -/
def fnImageSumWrong : ChangeSpec := { name := "fnImageSum", fn := fun _ => fun
  | [d] => { results := [.lit (.bool false)], args := [d] }
  | _ => none }
def FnImageSumWrongFalsely : Prop := fnImageSumRow.holds Try.pinned (OpenSpec.ofChange fnImageSumWrong)

/-- 'laws.FnImageTransform': WHATEVER THE INPUT: true; the input reads as it did. -/
def fnImageTransformSpec : ChangeSpec := { name := "fnImageTransform", fn := fun _ => fun
  | [d] => { results := [.lit (.bool true)], args := [d] }
  | _ => none }
def fnImageTransformRow : OpenClaim := { program := "ytcllkocmnohnkaa", sum := "4c90684cff5fb8f742bd1ba6b308080a6504f6042aeff43ba6e4acf2f9f0ea23", func := "loop.example/radiointerferometer/laws.FnImageTransform", spec := "fnImageTransform", unfollowed := true, recurses := true, apart := false }
def FnImageTransformSaid : Prop := fnImageTransformRow.holds Try.pinned (OpenSpec.ofChange fnImageTransformSpec)

/-- ITS FALSE NEIGHBOUR: 'it returns false'. Refute it at one input. -/
def fnImageTransformWrong : ChangeSpec := { name := "fnImageTransform", fn := fun _ => fun
  | [d] => { results := [.lit (.bool false)], args := [d] }
  | _ => none }
def FnImageTransformWrongFalsely : Prop := fnImageTransformRow.holds Try.pinned (OpenSpec.ofChange fnImageTransformWrong)

/- THE SECOND FORM. 'bulk': how many values and letters a reading holds, each counted each time it is reached (what is shared counts as often as it is met; a slice's spare places count too). A statement '..UptoSaid' is the law's where the arguments, and the package variables that the reading takes, are together of bulk at most 1048576: NARROWER than '..Said'. Prove '..Said' where nothing that the law and all that it calls make is longer than what came in: it says more and counts as full. Else prove '..UptoSaid'. A law counts once. -/
mutual
def uptoBulk {H : Type} : DataW H → Nat
  | .lit (.string bytes) => bytes.length + 1
  | .lit _ => 1
  | .nil => 1
  | .ptr d => uptoBulk d + 1
  | .slice elems spare => uptoBulkAll elems + uptoBulkAll spare + 1
  | .agg parts => uptoBulkAll parts + 1
  | .iface _ d => uptoBulk d + 1
  | .map entries => uptoBulkEntries entries + 1
  | .held _ => 1
def uptoBulkAll {H : Type} : List (DataW H) → Nat
  | [] => 0
  | d :: r => uptoBulk d + uptoBulkAll r
def uptoBulkEntries {H : Type} : List (Lit × DataW H) → Nat
  | [] => 0
  | x :: r => uptoBulkEntry x + uptoBulkEntries r
def uptoBulkEntry {H : Type} : Lit × DataW H → Nat
  | (.string bytes, d) => bytes.length + uptoBulk d + 1
  | (_, d) => uptoBulk d + 1
 end
def uptoSmall : (H : Type) → List (DataW H) → Bool := fun _ ds => decide (uptoBulkAll ds ≤ 1048576)
def OpenSpec.upto (s : _root_.Go.ChangeSpec) : _root_.Go.OpenSpec := { _root_.Go.OpenSpec.ofChange s with cond := some uptoSmall }

/-- 'laws.FnBeamFold', WHERE WHAT IT READS IS OF BULK AT MOST 1048576: true; the input reads as it did. -/
def fnBeamFoldUptoRow : OpenClaim := { program := "ytcllkocmnohnkaa", sum := "4c90684cff5fb8f742bd1ba6b308080a6504f6042aeff43ba6e4acf2f9f0ea23", func := "loop.example/radiointerferometer/laws.FnBeamFold", spec := "fnBeamFold", apart := false, narrowed := true }
def FnBeamFoldUptoSaid : Prop := fnBeamFoldUptoRow.holds Try.pinned (OpenSpec.upto fnBeamFoldSpec)

/-- 'laws.FnBeamHoles', WHERE WHAT IT READS IS OF BULK AT MOST 1048576: true; the input reads as it did. -/
def fnBeamHolesUptoRow : OpenClaim := { program := "ytcllkocmnohnkaa", sum := "4c90684cff5fb8f742bd1ba6b308080a6504f6042aeff43ba6e4acf2f9f0ea23", func := "loop.example/radiointerferometer/laws.FnBeamHoles", spec := "fnBeamHoles", apart := false, narrowed := true }
def FnBeamHolesUptoSaid : Prop := fnBeamHolesUptoRow.holds Try.pinned (OpenSpec.upto fnBeamHolesSpec)

/-- 'laws.FnExactObserveSolve', WHERE WHAT IT READS IS OF BULK AT MOST 1048576: true; the input reads as it did. -/
def fnExactObserveSolveUptoRow : OpenClaim := { program := "ytcllkocmnohnkaa", sum := "4c90684cff5fb8f742bd1ba6b308080a6504f6042aeff43ba6e4acf2f9f0ea23", func := "loop.example/radiointerferometer/laws.FnExactObserveSolve", spec := "fnExactObserveSolve", unfollowed := true, recurses := true, apart := false, narrowed := true }
def FnExactObserveSolveUptoSaid : Prop := fnExactObserveSolveUptoRow.holds Try.pinned (OpenSpec.upto fnExactObserveSolveSpec)

/-- 'laws.FnNaturalBeam', WHERE WHAT IT READS IS OF BULK AT MOST 1048576: true; the input reads as it did. -/
def fnNaturalBeamUptoRow : OpenClaim := { program := "ytcllkocmnohnkaa", sum := "4c90684cff5fb8f742bd1ba6b308080a6504f6042aeff43ba6e4acf2f9f0ea23", func := "loop.example/radiointerferometer/laws.FnNaturalBeam", spec := "fnNaturalBeam", unfollowed := true, recurses := true, apart := false, narrowed := true }
def FnNaturalBeamUptoSaid : Prop := fnNaturalBeamUptoRow.holds Try.pinned (OpenSpec.upto fnNaturalBeamSpec)

/-- 'laws.FnSolveSelf', WHERE WHAT IT READS IS OF BULK AT MOST 1048576: true; the input reads as it did. -/
def fnSolveSelfUptoRow : OpenClaim := { program := "ytcllkocmnohnkaa", sum := "4c90684cff5fb8f742bd1ba6b308080a6504f6042aeff43ba6e4acf2f9f0ea23", func := "loop.example/radiointerferometer/laws.FnSolveSelf", spec := "fnSolveSelf", unfollowed := true, recurses := true, apart := false, narrowed := true }
def FnSolveSelfUptoSaid : Prop := fnSolveSelfUptoRow.holds Try.pinned (OpenSpec.upto fnSolveSelfSpec)

/-- 'laws.FnSolveTurn', WHERE WHAT IT READS IS OF BULK AT MOST 1048576: true; the input reads as it did. -/
def fnSolveTurnUptoRow : OpenClaim := { program := "ytcllkocmnohnkaa", sum := "4c90684cff5fb8f742bd1ba6b308080a6504f6042aeff43ba6e4acf2f9f0ea23", func := "loop.example/radiointerferometer/laws.FnSolveTurn", spec := "fnSolveTurn", unfollowed := true, recurses := true, apart := false, narrowed := true }
def FnSolveTurnUptoSaid : Prop := fnSolveTurnUptoRow.holds Try.pinned (OpenSpec.upto fnSolveTurnSpec)

/-- 'laws.FnDirtySum', WHERE WHAT IT READS IS OF BULK AT MOST 1048576: true; the input reads as it did. -/
def fnDirtySumUptoRow : OpenClaim := { program := "ytcllkocmnohnkaa", sum := "4c90684cff5fb8f742bd1ba6b308080a6504f6042aeff43ba6e4acf2f9f0ea23", func := "loop.example/radiointerferometer/laws.FnDirtySum", spec := "fnDirtySum", apart := false, narrowed := true }
def FnDirtySumUptoSaid : Prop := fnDirtySumUptoRow.holds Try.pinned (OpenSpec.upto fnDirtySumSpec)

/-- 'laws.FnCleanSpot', WHERE WHAT IT READS IS OF BULK AT MOST 1048576: true; the input reads as it did. -/
def fnCleanSpotUptoRow : OpenClaim := { program := "ytcllkocmnohnkaa", sum := "4c90684cff5fb8f742bd1ba6b308080a6504f6042aeff43ba6e4acf2f9f0ea23", func := "loop.example/radiointerferometer/laws.FnCleanSpot", spec := "fnCleanSpot", apart := false, narrowed := true }
def FnCleanSpotUptoSaid : Prop := fnCleanSpotUptoRow.holds Try.pinned (OpenSpec.upto fnCleanSpotSpec)

/-- 'laws.FnDirtyFold', WHERE WHAT IT READS IS OF BULK AT MOST 1048576: true; the input reads as it did. -/
def fnDirtyFoldUptoRow : OpenClaim := { program := "ytcllkocmnohnkaa", sum := "4c90684cff5fb8f742bd1ba6b308080a6504f6042aeff43ba6e4acf2f9f0ea23", func := "loop.example/radiointerferometer/laws.FnDirtyFold", spec := "fnDirtyFold", apart := false, narrowed := true }
def FnDirtyFoldUptoSaid : Prop := fnDirtyFoldUptoRow.holds Try.pinned (OpenSpec.upto fnDirtyFoldSpec)

/-- 'laws.FnObserveAdd', WHERE WHAT IT READS IS OF BULK AT MOST 1048576: true; the input reads as it did. -/
def fnObserveAddUptoRow : OpenClaim := { program := "ytcllkocmnohnkaa", sum := "4c90684cff5fb8f742bd1ba6b308080a6504f6042aeff43ba6e4acf2f9f0ea23", func := "loop.example/radiointerferometer/laws.FnObserveAdd", spec := "fnObserveAdd", unfollowed := true, recurses := true, apart := false, narrowed := true }
def FnObserveAddUptoSaid : Prop := fnObserveAddUptoRow.holds Try.pinned (OpenSpec.upto fnObserveAddSpec)

/-- 'laws.FnDirtyAdd', WHERE WHAT IT READS IS OF BULK AT MOST 1048576: true; the input reads as it did. -/
def fnDirtyAddUptoRow : OpenClaim := { program := "ytcllkocmnohnkaa", sum := "4c90684cff5fb8f742bd1ba6b308080a6504f6042aeff43ba6e4acf2f9f0ea23", func := "loop.example/radiointerferometer/laws.FnDirtyAdd", spec := "fnDirtyAdd", apart := false, narrowed := true }
def FnDirtyAddUptoSaid : Prop := fnDirtyAddUptoRow.holds Try.pinned (OpenSpec.upto fnDirtyAddSpec)

/-- 'laws.FnExactObserveOf', WHERE WHAT IT READS IS OF BULK AT MOST 1048576: true; the input reads as it did. -/
def fnExactObserveOfUptoRow : OpenClaim := { program := "ytcllkocmnohnkaa", sum := "4c90684cff5fb8f742bd1ba6b308080a6504f6042aeff43ba6e4acf2f9f0ea23", func := "loop.example/radiointerferometer/laws.FnExactObserveOf", spec := "fnExactObserveOf", unfollowed := true, recurses := true, apart := false, narrowed := true }
def FnExactObserveOfUptoSaid : Prop := fnExactObserveOfUptoRow.holds Try.pinned (OpenSpec.upto fnExactObserveOfSpec)

/-- 'laws.FnExactObserveGrid', WHERE WHAT IT READS IS OF BULK AT MOST 1048576: true; the input reads as it did. -/
def fnExactObserveGridUptoRow : OpenClaim := { program := "ytcllkocmnohnkaa", sum := "4c90684cff5fb8f742bd1ba6b308080a6504f6042aeff43ba6e4acf2f9f0ea23", func := "loop.example/radiointerferometer/laws.FnExactObserveGrid", spec := "fnExactObserveGrid", unfollowed := true, recurses := true, apart := false, narrowed := true }
def FnExactObserveGridUptoSaid : Prop := fnExactObserveGridUptoRow.holds Try.pinned (OpenSpec.upto fnExactObserveGridSpec)

/-- 'laws.FnObserve', WHERE WHAT IT READS IS OF BULK AT MOST 1048576: true; the input reads as it did. -/
def fnObserveUptoRow : OpenClaim := { program := "ytcllkocmnohnkaa", sum := "4c90684cff5fb8f742bd1ba6b308080a6504f6042aeff43ba6e4acf2f9f0ea23", func := "loop.example/radiointerferometer/laws.FnObserve", spec := "fnObserve", unfollowed := true, recurses := true, apart := false, narrowed := true }
def FnObserveUptoSaid : Prop := fnObserveUptoRow.holds Try.pinned (OpenSpec.upto fnObserveSpec)

/-- 'laws.FnTripleSpot', WHERE WHAT IT READS IS OF BULK AT MOST 1048576: true; the input reads as it did. -/
def fnTripleSpotUptoRow : OpenClaim := { program := "ytcllkocmnohnkaa", sum := "4c90684cff5fb8f742bd1ba6b308080a6504f6042aeff43ba6e4acf2f9f0ea23", func := "loop.example/radiointerferometer/laws.FnTripleSpot", spec := "fnTripleSpot", unfollowed := true, recurses := true, apart := false, narrowed := true }
def FnTripleSpotUptoSaid : Prop := fnTripleSpotUptoRow.holds Try.pinned (OpenSpec.upto fnTripleSpotSpec)

/-- 'laws.FnObserveShift', WHERE WHAT IT READS IS OF BULK AT MOST 1048576: true; the input reads as it did. -/
def fnObserveShiftUptoRow : OpenClaim := { program := "ytcllkocmnohnkaa", sum := "4c90684cff5fb8f742bd1ba6b308080a6504f6042aeff43ba6e4acf2f9f0ea23", func := "loop.example/radiointerferometer/laws.FnObserveShift", spec := "fnObserveShift", unfollowed := true, recurses := true, apart := false, narrowed := true }
def FnObserveShiftUptoSaid : Prop := fnObserveShiftUptoRow.holds Try.pinned (OpenSpec.upto fnObserveShiftSpec)

/-- 'laws.FnObserveShiftTriple', WHERE WHAT IT READS IS OF BULK AT MOST 1048576: true; the input reads as it did. -/
def fnObserveShiftTripleUptoRow : OpenClaim := { program := "ytcllkocmnohnkaa", sum := "4c90684cff5fb8f742bd1ba6b308080a6504f6042aeff43ba6e4acf2f9f0ea23", func := "loop.example/radiointerferometer/laws.FnObserveShiftTriple", spec := "fnObserveShiftTriple", unfollowed := true, recurses := true, apart := false, narrowed := true }
def FnObserveShiftTripleUptoSaid : Prop := fnObserveShiftTripleUptoRow.holds Try.pinned (OpenSpec.upto fnObserveShiftTripleSpec)

/-- 'laws.FnObserveSame', WHERE WHAT IT READS IS OF BULK AT MOST 1048576: true; the input reads as it did. -/
def fnObserveSameUptoRow : OpenClaim := { program := "ytcllkocmnohnkaa", sum := "4c90684cff5fb8f742bd1ba6b308080a6504f6042aeff43ba6e4acf2f9f0ea23", func := "loop.example/radiointerferometer/laws.FnObserveSame", spec := "fnObserveSame", unfollowed := true, recurses := true, apart := false, narrowed := true }
def FnObserveSameUptoSaid : Prop := fnObserveSameUptoRow.holds Try.pinned (OpenSpec.upto fnObserveSameSpec)

/-- 'laws.FnObserveGrid', WHERE WHAT IT READS IS OF BULK AT MOST 1048576: true; the input reads as it did. -/
def fnObserveGridUptoRow : OpenClaim := { program := "ytcllkocmnohnkaa", sum := "4c90684cff5fb8f742bd1ba6b308080a6504f6042aeff43ba6e4acf2f9f0ea23", func := "loop.example/radiointerferometer/laws.FnObserveGrid", spec := "fnObserveGrid", unfollowed := true, recurses := true, apart := false, narrowed := true }
def FnObserveGridUptoSaid : Prop := fnObserveGridUptoRow.holds Try.pinned (OpenSpec.upto fnObserveGridSpec)

/-- 'laws.FnGridConj', WHERE WHAT IT READS IS OF BULK AT MOST 1048576: true; the input reads as it did. -/
def fnGridConjUptoRow : OpenClaim := { program := "ytcllkocmnohnkaa", sum := "4c90684cff5fb8f742bd1ba6b308080a6504f6042aeff43ba6e4acf2f9f0ea23", func := "loop.example/radiointerferometer/laws.FnGridConj", spec := "fnGridConj", unfollowed := true, recurses := true, apart := false, narrowed := true }
def FnGridConjUptoSaid : Prop := fnGridConjUptoRow.holds Try.pinned (OpenSpec.upto fnGridConjSpec)

/-- 'laws.FnGridBase', WHERE WHAT IT READS IS OF BULK AT MOST 1048576: true; the input reads as it did. -/
def fnGridBaseUptoRow : OpenClaim := { program := "ytcllkocmnohnkaa", sum := "4c90684cff5fb8f742bd1ba6b308080a6504f6042aeff43ba6e4acf2f9f0ea23", func := "loop.example/radiointerferometer/laws.FnGridBase", spec := "fnGridBase", unfollowed := true, recurses := true, apart := false, narrowed := true }
def FnGridBaseUptoSaid : Prop := fnGridBaseUptoRow.holds Try.pinned (OpenSpec.upto fnGridBaseSpec)

/-- 'laws.FnCleanFull', WHERE WHAT IT READS IS OF BULK AT MOST 1048576: true; the input reads as it did. -/
def fnCleanFullUptoRow : OpenClaim := { program := "ytcllkocmnohnkaa", sum := "4c90684cff5fb8f742bd1ba6b308080a6504f6042aeff43ba6e4acf2f9f0ea23", func := "loop.example/radiointerferometer/laws.FnCleanFull", spec := "fnCleanFull", apart := false, narrowed := true }
def FnCleanFullUptoSaid : Prop := fnCleanFullUptoRow.holds Try.pinned (OpenSpec.upto fnCleanFullSpec)

/-- 'laws.FnObserveImage', WHERE WHAT IT READS IS OF BULK AT MOST 1048576: true; the input reads as it did. -/
def fnObserveImageUptoRow : OpenClaim := { program := "ytcllkocmnohnkaa", sum := "4c90684cff5fb8f742bd1ba6b308080a6504f6042aeff43ba6e4acf2f9f0ea23", func := "loop.example/radiointerferometer/laws.FnObserveImage", spec := "fnObserveImage", unfollowed := true, recurses := true, apart := false, narrowed := true }
def FnObserveImageUptoSaid : Prop := fnObserveImageUptoRow.holds Try.pinned (OpenSpec.upto fnObserveImageSpec)

/-- 'laws.FnExactObserveImage', WHERE WHAT IT READS IS OF BULK AT MOST 1048576: true; the input reads as it did. -/
def fnExactObserveImageUptoRow : OpenClaim := { program := "ytcllkocmnohnkaa", sum := "4c90684cff5fb8f742bd1ba6b308080a6504f6042aeff43ba6e4acf2f9f0ea23", func := "loop.example/radiointerferometer/laws.FnExactObserveImage", spec := "fnExactObserveImage", unfollowed := true, recurses := true, apart := false, narrowed := true }
def FnExactObserveImageUptoSaid : Prop := fnExactObserveImageUptoRow.holds Try.pinned (OpenSpec.upto fnExactObserveImageSpec)

/-- 'laws.FnImageSum', WHERE WHAT IT READS IS OF BULK AT MOST 1048576: true; the input reads as it did. -/
def fnImageSumUptoRow : OpenClaim := { program := "ytcllkocmnohnkaa", sum := "4c90684cff5fb8f742bd1ba6b308080a6504f6042aeff43ba6e4acf2f9f0ea23", func := "loop.example/radiointerferometer/laws.FnImageSum", spec := "fnImageSum", unfollowed := true, recurses := true, apart := false, narrowed := true }
def FnImageSumUptoSaid : Prop := fnImageSumUptoRow.holds Try.pinned (OpenSpec.upto fnImageSumSpec)

/-- 'laws.FnImageTransform', WHERE WHAT IT READS IS OF BULK AT MOST 1048576: true; the input reads as it did. -/
def fnImageTransformUptoRow : OpenClaim := { program := "ytcllkocmnohnkaa", sum := "4c90684cff5fb8f742bd1ba6b308080a6504f6042aeff43ba6e4acf2f9f0ea23", func := "loop.example/radiointerferometer/laws.FnImageTransform", spec := "fnImageTransform", unfollowed := true, recurses := true, apart := false, narrowed := true }
def FnImageTransformUptoSaid : Prop := fnImageTransformUptoRow.holds Try.pinned (OpenSpec.upto fnImageTransformSpec)

end Rows
end Go.Proofs.Ytcllkocmnohnkaa
