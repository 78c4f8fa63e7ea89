/-
  No cell of these rows narrows 'for every input' (looked for: loops, veiled, ifaces, maps, wideKeys, modest, calm, conditions, laid).
  DERIVED. THE GIVEN ROWS OF THIS SEAT. 12 by the template 'for every input the law returns true; each argument reads behind the call as it read before'; 0 by the template 'total and deterministic' (their statements: YtklhjofhmcaflaaTotals.lean).
  GIVEN WITH THE SEED: the statements are not yours to turn. If you find one false, say at which input.
  Laid BY PROGRAM, IN A SANDBOX (cutbox-rows.mjs): the forced cells as the released guide's own fill.sh prints them over the translation 9d07ee3b1233ed57… (all of the seat's roots in one cut). By AI agents, Wed Nov 11 2026. No macro, syntax, notation, axiom, sorry.
-/
import Derived.Test.YtklhjofhmcaflaaChecked
import GoSem.Claim
import GoSem.ClaimJoined
import GoSem.ClaimMapViews
import Derived.JoinedTies
import Derived.KernelRfl
namespace Go.Proofs.Ytklhjofhmcaflaa
/- THE CELL 'sum', in the pinned program and in every row, IS THE sha256 OF THE DUMP (.gsa) THAT YtklhjofhmcaflaaProg.lean LOADS. Nothing in Lean hashes anything: it is a label: what it is worth is what the hold of that sum in a sandbox is worth. -/
noncomputable def Try.pinned : Pinned := { name := "ytklhjofhmcaflaa", sum := "9d07ee3b1233ed573cffee96514c4734ca61064216f0e8a9de219f2d91ad5805", checked := Try.checked }
namespace Rows
def none {H : Type} : Left H := { results := [], args := [] }

/-- 'laws.FnExactCoverText': WHATEVER THE INPUT: true; the input reads as it did. -/
def fnExactCoverTextSpec : ChangeSpec := { name := "fnExactCoverText", fn := fun _ => fun
  | [d] => { results := [.lit (.bool true)], args := [d] }
  | _ => none }
def fnExactCoverTextRow : OpenClaim := { program := "ytklhjofhmcaflaa", sum := "9d07ee3b1233ed573cffee96514c4734ca61064216f0e8a9de219f2d91ad5805", func := "loop.example/radiointerferometer/laws.FnExactCoverText", spec := "fnExactCoverText", inPlace := ["internal/abi.NoEscape"], apart := false }
def FnExactCoverTextSaid : Prop := fnExactCoverTextRow.holds Try.pinned (OpenSpec.ofChange fnExactCoverTextSpec)

/-- ITS FALSE NEIGHBOUR: 'it returns false'. Refute it at one input. -/
def fnExactCoverTextWrong : ChangeSpec := { name := "fnExactCoverText", fn := fun _ => fun
  | [d] => { results := [.lit (.bool false)], args := [d] }
  | _ => none }
def FnExactCoverTextWrongFalsely : Prop := fnExactCoverTextRow.holds Try.pinned (OpenSpec.ofChange fnExactCoverTextWrong)

/-- 'laws.FnCoverText': WHATEVER THE INPUT: true; the input reads as it did. -/
def fnCoverTextSpec : ChangeSpec := { name := "fnCoverText", fn := fun _ => fun
  | [d] => { results := [.lit (.bool true)], args := [d] }
  | _ => none }
def fnCoverTextRow : OpenClaim := { program := "ytklhjofhmcaflaa", sum := "9d07ee3b1233ed573cffee96514c4734ca61064216f0e8a9de219f2d91ad5805", func := "loop.example/radiointerferometer/laws.FnCoverText", spec := "fnCoverText", inPlace := ["internal/abi.NoEscape"], apart := false }
def FnCoverTextSaid : Prop := fnCoverTextRow.holds Try.pinned (OpenSpec.ofChange fnCoverTextSpec)

/-- ITS FALSE NEIGHBOUR: 'it returns false'. Refute it at one input. -/
def fnCoverTextWrong : ChangeSpec := { name := "fnCoverText", fn := fun _ => fun
  | [d] => { results := [.lit (.bool false)], args := [d] }
  | _ => none }
def FnCoverTextWrongFalsely : Prop := fnCoverTextRow.holds Try.pinned (OpenSpec.ofChange fnCoverTextWrong)

/-- 'laws.FnExactObserveTriple': WHATEVER THE INPUT: true; the input reads as it did. -/
def fnExactObserveTripleSpec : ChangeSpec := { name := "fnExactObserveTriple", fn := fun _ => fun
  | [d1, d2, d3, d4, d5] => { results := [.lit (.bool true)], args := [d1, d2, d3, d4, d5] }
  | _ => none }
def fnExactObserveTripleRow : OpenClaim := { program := "ytklhjofhmcaflaa", sum := "9d07ee3b1233ed573cffee96514c4734ca61064216f0e8a9de219f2d91ad5805", func := "loop.example/radiointerferometer/laws.FnExactObserveTriple", spec := "fnExactObserveTriple", apart := false }
def FnExactObserveTripleSaid : Prop := fnExactObserveTripleRow.holds Try.pinned (OpenSpec.ofChange fnExactObserveTripleSpec)

/-- ITS FALSE NEIGHBOUR: 'it returns false'. Refute it at one input. -/
def fnExactObserveTripleWrong : ChangeSpec := { name := "fnExactObserveTriple", fn := fun _ => fun
  | [d1, d2, d3, d4, d5] => { results := [.lit (.bool false)], args := [d1, d2, d3, d4, d5] }
  | _ => none }
def FnExactObserveTripleWrongFalsely : Prop := fnExactObserveTripleRow.holds Try.pinned (OpenSpec.ofChange fnExactObserveTripleWrong)

/-- 'laws.FnObserveTurnAll': WHATEVER THE INPUT: true; the input reads as it did. -/
def fnObserveTurnAllSpec : ChangeSpec := { name := "fnObserveTurnAll", fn := fun _ => fun
  | [d] => { results := [.lit (.bool true)], args := [d] }
  | _ => none }
def fnObserveTurnAllRow : OpenClaim := { program := "ytklhjofhmcaflaa", sum := "9d07ee3b1233ed573cffee96514c4734ca61064216f0e8a9de219f2d91ad5805", func := "loop.example/radiointerferometer/laws.FnObserveTurnAll", spec := "fnObserveTurnAll", unfollowed := true, recurses := true, apart := false }
def FnObserveTurnAllSaid : Prop := fnObserveTurnAllRow.holds Try.pinned (OpenSpec.ofChange fnObserveTurnAllSpec)

/-- ITS FALSE NEIGHBOUR: 'it returns false'. Refute it at one input. -/
def fnObserveTurnAllWrong : ChangeSpec := { name := "fnObserveTurnAll", fn := fun _ => fun
  | [d] => { results := [.lit (.bool false)], args := [d] }
  | _ => none }
def FnObserveTurnAllWrongFalsely : Prop := fnObserveTurnAllRow.holds Try.pinned (OpenSpec.ofChange fnObserveTurnAllWrong)

/-- 'laws.FnObserveTurnTwice': WHATEVER THE INPUT: true; the input reads as it did. -/
def fnObserveTurnTwiceSpec : ChangeSpec := { name := "fnObserveTurnTwice", fn := fun _ => fun
  | [d1, d2] => { results := [.lit (.bool true)], args := [d1, d2] }
  | _ => none }
def fnObserveTurnTwiceRow : OpenClaim := { program := "ytklhjofhmcaflaa", sum := "9d07ee3b1233ed573cffee96514c4734ca61064216f0e8a9de219f2d91ad5805", func := "loop.example/radiointerferometer/laws.FnObserveTurnTwice", spec := "fnObserveTurnTwice", unfollowed := true, recurses := true, apart := false }
def FnObserveTurnTwiceSaid : Prop := fnObserveTurnTwiceRow.holds Try.pinned (OpenSpec.ofChange fnObserveTurnTwiceSpec)

/-- ITS FALSE NEIGHBOUR: 'it returns false'. Refute it at one input. -/
def fnObserveTurnTwiceWrong : ChangeSpec := { name := "fnObserveTurnTwice", fn := fun _ => fun
  | [d1, d2] => { results := [.lit (.bool false)], args := [d1, d2] }
  | _ => none }
def FnObserveTurnTwiceWrongFalsely : Prop := fnObserveTurnTwiceRow.holds Try.pinned (OpenSpec.ofChange fnObserveTurnTwiceWrong)

/-- 'laws.FnTripleNorm': WHATEVER THE INPUT: true; the input reads as it did. -/
def fnTripleNormSpec : ChangeSpec := { name := "fnTripleNorm", fn := fun _ => fun
  | [d] => { results := [.lit (.bool true)], args := [d] }
  | _ => none }
def fnTripleNormRow : OpenClaim := { program := "ytklhjofhmcaflaa", sum := "9d07ee3b1233ed573cffee96514c4734ca61064216f0e8a9de219f2d91ad5805", func := "loop.example/radiointerferometer/laws.FnTripleNorm", spec := "fnTripleNorm", apart := false }
def FnTripleNormSaid : Prop := fnTripleNormRow.holds Try.pinned (OpenSpec.ofChange fnTripleNormSpec)

/-- ITS FALSE NEIGHBOUR: 'it returns false'. Refute it at one input. -/
def fnTripleNormWrong : ChangeSpec := { name := "fnTripleNorm", fn := fun _ => fun
  | [d] => { results := [.lit (.bool false)], args := [d] }
  | _ => none }
def FnTripleNormWrongFalsely : Prop := fnTripleNormRow.holds Try.pinned (OpenSpec.ofChange fnTripleNormWrong)

/-- 'laws.FnObserveTurn': WHATEVER THE INPUT: true; the input reads as it did. -/
def fnObserveTurnSpec : ChangeSpec := { name := "fnObserveTurn", fn := fun _ => fun
  | [d] => { results := [.lit (.bool true)], args := [d] }
  | _ => none }
def fnObserveTurnRow : OpenClaim := { program := "ytklhjofhmcaflaa", sum := "9d07ee3b1233ed573cffee96514c4734ca61064216f0e8a9de219f2d91ad5805", func := "loop.example/radiointerferometer/laws.FnObserveTurn", spec := "fnObserveTurn", unfollowed := true, recurses := true, apart := false }
def FnObserveTurnSaid : Prop := fnObserveTurnRow.holds Try.pinned (OpenSpec.ofChange fnObserveTurnSpec)

/-- ITS FALSE NEIGHBOUR: 'it returns false'. Refute it at one input. -/
def fnObserveTurnWrong : ChangeSpec := { name := "fnObserveTurn", fn := fun _ => fun
  | [d] => { results := [.lit (.bool false)], args := [d] }
  | _ => none }
def FnObserveTurnWrongFalsely : Prop := fnObserveTurnRow.holds Try.pinned (OpenSpec.ofChange fnObserveTurnWrong)

/-- 'laws.FnExactObserveTurn': WHATEVER THE INPUT: true; the input reads as it did. -/
def fnExactObserveTurnSpec : ChangeSpec := { name := "fnExactObserveTurn", fn := fun _ => fun
  | [d1, d2, d3] => { results := [.lit (.bool true)], args := [d1, d2, d3] }
  | _ => none }
def fnExactObserveTurnRow : OpenClaim := { program := "ytklhjofhmcaflaa", sum := "9d07ee3b1233ed573cffee96514c4734ca61064216f0e8a9de219f2d91ad5805", func := "loop.example/radiointerferometer/laws.FnExactObserveTurn", spec := "fnExactObserveTurn", unfollowed := true, recurses := true, apart := false }
def FnExactObserveTurnSaid : Prop := fnExactObserveTurnRow.holds Try.pinned (OpenSpec.ofChange fnExactObserveTurnSpec)

/-- ITS FALSE NEIGHBOUR: 'it returns false'. Refute it at one input. -/
def fnExactObserveTurnWrong : ChangeSpec := { name := "fnExactObserveTurn", fn := fun _ => fun
  | [d1, d2, d3] => { results := [.lit (.bool false)], args := [d1, d2, d3] }
  | _ => none }
def FnExactObserveTurnWrongFalsely : Prop := fnExactObserveTurnRow.holds Try.pinned (OpenSpec.ofChange fnExactObserveTurnWrong)

/-- 'laws.FnSolveTurnBack': WHATEVER THE INPUT: true; the input reads as it did. -/
def fnSolveTurnBackSpec : ChangeSpec := { name := "fnSolveTurnBack", fn := fun _ => fun
  | [d] => { results := [.lit (.bool true)], args := [d] }
  | _ => none }
def fnSolveTurnBackRow : OpenClaim := { program := "ytklhjofhmcaflaa", sum := "9d07ee3b1233ed573cffee96514c4734ca61064216f0e8a9de219f2d91ad5805", func := "loop.example/radiointerferometer/laws.FnSolveTurnBack", spec := "fnSolveTurnBack", unfollowed := true, recurses := true, apart := false }
def FnSolveTurnBackSaid : Prop := fnSolveTurnBackRow.holds Try.pinned (OpenSpec.ofChange fnSolveTurnBackSpec)

/-- ITS FALSE NEIGHBOUR: 'it returns false'. Refute it at one input. -/
def fnSolveTurnBackWrong : ChangeSpec := { name := "fnSolveTurnBack", fn := fun _ => fun
  | [d] => { results := [.lit (.bool false)], args := [d] }
  | _ => none }
def FnSolveTurnBackWrongFalsely : Prop := fnSolveTurnBackRow.holds Try.pinned (OpenSpec.ofChange fnSolveTurnBackWrong)

/-- 'laws.FnBeam': WHATEVER THE INPUT: true; the input reads as it did. -/
def fnBeamSpec : ChangeSpec := { name := "fnBeam", fn := fun _ => fun
  | [d] => { results := [.lit (.bool true)], args := [d] }
  | _ => none }
def fnBeamRow : OpenClaim := { program := "ytklhjofhmcaflaa", sum := "9d07ee3b1233ed573cffee96514c4734ca61064216f0e8a9de219f2d91ad5805", func := "loop.example/radiointerferometer/laws.FnBeam", spec := "fnBeam", apart := false }
def FnBeamSaid : Prop := fnBeamRow.holds Try.pinned (OpenSpec.ofChange fnBeamSpec)

/-- ITS FALSE NEIGHBOUR: 'it returns false'. Refute it at one input. -/
def fnBeamWrong : ChangeSpec := { name := "fnBeam", fn := fun _ => fun
  | [d] => { results := [.lit (.bool false)], args := [d] }
  | _ => none }
def FnBeamWrongFalsely : Prop := fnBeamRow.holds Try.pinned (OpenSpec.ofChange fnBeamWrong)

/-- 'laws.FnObserveTriple': WHATEVER THE INPUT: true; the input reads as it did. -/
def fnObserveTripleSpec : ChangeSpec := { name := "fnObserveTriple", fn := fun _ => fun
  | [d1, d2] => { results := [.lit (.bool true)], args := [d1, d2] }
  | _ => none }
def fnObserveTripleRow : OpenClaim := { program := "ytklhjofhmcaflaa", sum := "9d07ee3b1233ed573cffee96514c4734ca61064216f0e8a9de219f2d91ad5805", func := "loop.example/radiointerferometer/laws.FnObserveTriple", spec := "fnObserveTriple", unfollowed := true, recurses := true, apart := false }
def FnObserveTripleSaid : Prop := fnObserveTripleRow.holds Try.pinned (OpenSpec.ofChange fnObserveTripleSpec)

/-- ITS FALSE NEIGHBOUR: 'it returns false'. Refute it at one input. -/
def fnObserveTripleWrong : ChangeSpec := { name := "fnObserveTriple", fn := fun _ => fun
  | [d1, d2] => { results := [.lit (.bool false)], args := [d1, d2] }
  | _ => none }
def FnObserveTripleWrongFalsely : Prop := fnObserveTripleRow.holds Try.pinned (OpenSpec.ofChange fnObserveTripleWrong)

/-- 'laws.FnSolveTurnOnly': WHATEVER THE INPUT: true; the input reads as it did. -/
def fnSolveTurnOnlySpec : ChangeSpec := { name := "fnSolveTurnOnly", fn := fun _ => fun
  | [d] => { results := [.lit (.bool true)], args := [d] }
  | _ => none }
def fnSolveTurnOnlyRow : OpenClaim := { program := "ytklhjofhmcaflaa", sum := "9d07ee3b1233ed573cffee96514c4734ca61064216f0e8a9de219f2d91ad5805", func := "loop.example/radiointerferometer/laws.FnSolveTurnOnly", spec := "fnSolveTurnOnly", unfollowed := true, recurses := true, apart := false }
def FnSolveTurnOnlySaid : Prop := fnSolveTurnOnlyRow.holds Try.pinned (OpenSpec.ofChange fnSolveTurnOnlySpec)

/-- ITS FALSE NEIGHBOUR: 'it returns false'. Refute it at one input. -/
def fnSolveTurnOnlyWrong : ChangeSpec := { name := "fnSolveTurnOnly", fn := fun _ => fun
  | [d] => { results := [.lit (.bool false)], args := [d] }
  | _ => none }
def FnSolveTurnOnlyWrongFalsely : Prop := fnSolveTurnOnlyRow.holds Try.pinned (OpenSpec.ofChange fnSolveTurnOnlyWrong)

/- THE SECOND FORM. 'bulk': how many values and letters a reading holds, each counted each time it is reached (what is shared counts as often as it is met; a slice's spare places count too). A statement '..UptoSaid' is the law's where the arguments, and the package variables that the reading takes, are together of bulk at most 1048576: NARROWER than '..Said'. Prove '..Said' where nothing that the law and all that it calls make is longer than what came in: it says more and counts as full. Else prove '..UptoSaid'. A law counts once. -/
mutual
def uptoBulk {H : Type} : DataW H → Nat
  | .lit (.string bytes) => bytes.length + 1
  | .lit _ => 1
  | .nil => 1
  | .ptr d => uptoBulk d + 1
  | .slice elems spare => uptoBulkAll elems + uptoBulkAll spare + 1
  | .agg parts => uptoBulkAll parts + 1
  | .iface _ d => uptoBulk d + 1
  | .map entries => uptoBulkEntries entries + 1
  | .held _ => 1
def uptoBulkAll {H : Type} : List (DataW H) → Nat
  | [] => 0
  | d :: r => uptoBulk d + uptoBulkAll r
def uptoBulkEntries {H : Type} : List (Lit × DataW H) → Nat
  | [] => 0
  | x :: r => uptoBulkEntry x + uptoBulkEntries r
def uptoBulkEntry {H : Type} : Lit × DataW H → Nat
  | (.string bytes, d) => bytes.length + uptoBulk d + 1
  | (_, d) => uptoBulk d + 1
 end
def uptoSmall : (H : Type) → List (DataW H) → Bool := fun _ ds => decide (uptoBulkAll ds ≤ 1048576)
def OpenSpec.upto (s : _root_.Go.ChangeSpec) : _root_.Go.OpenSpec := { _root_.Go.OpenSpec.ofChange s with cond := some uptoSmall }

/-- 'laws.FnExactCoverText', WHERE WHAT IT READS IS OF BULK AT MOST 1048576: true; the input reads as it did. -/
def fnExactCoverTextUptoRow : OpenClaim := { program := "ytklhjofhmcaflaa", sum := "9d07ee3b1233ed573cffee96514c4734ca61064216f0e8a9de219f2d91ad5805", func := "loop.example/radiointerferometer/laws.FnExactCoverText", spec := "fnExactCoverText", inPlace := ["internal/abi.NoEscape"], apart := false, narrowed := true }
def FnExactCoverTextUptoSaid : Prop := fnExactCoverTextUptoRow.holds Try.pinned (OpenSpec.upto fnExactCoverTextSpec)

/-- 'laws.FnCoverText', WHERE WHAT IT READS IS OF BULK AT MOST 1048576: true; the input reads as it did. -/
def fnCoverTextUptoRow : OpenClaim := { program := "ytklhjofhmcaflaa", sum := "9d07ee3b1233ed573cffee96514c4734ca61064216f0e8a9de219f2d91ad5805", func := "loop.example/radiointerferometer/laws.FnCoverText", spec := "fnCoverText", inPlace := ["internal/abi.NoEscape"], apart := false, narrowed := true }
def FnCoverTextUptoSaid : Prop := fnCoverTextUptoRow.holds Try.pinned (OpenSpec.upto fnCoverTextSpec)

/-- 'laws.FnExactObserveTriple', WHERE WHAT IT READS IS OF BULK AT MOST 1048576: true; the input reads as it did. -/
def fnExactObserveTripleUptoRow : OpenClaim := { program := "ytklhjofhmcaflaa", sum := "9d07ee3b1233ed573cffee96514c4734ca61064216f0e8a9de219f2d91ad5805", func := "loop.example/radiointerferometer/laws.FnExactObserveTriple", spec := "fnExactObserveTriple", apart := false, narrowed := true }
def FnExactObserveTripleUptoSaid : Prop := fnExactObserveTripleUptoRow.holds Try.pinned (OpenSpec.upto fnExactObserveTripleSpec)

/-- 'laws.FnObserveTurnAll', WHERE WHAT IT READS IS OF BULK AT MOST 1048576: true; the input reads as it did. -/
def fnObserveTurnAllUptoRow : OpenClaim := { program := "ytklhjofhmcaflaa", sum := "9d07ee3b1233ed573cffee96514c4734ca61064216f0e8a9de219f2d91ad5805", func := "loop.example/radiointerferometer/laws.FnObserveTurnAll", spec := "fnObserveTurnAll", unfollowed := true, recurses := true, apart := false, narrowed := true }
def FnObserveTurnAllUptoSaid : Prop := fnObserveTurnAllUptoRow.holds Try.pinned (OpenSpec.upto fnObserveTurnAllSpec)

/-- 'laws.FnObserveTurnTwice', WHERE WHAT IT READS IS OF BULK AT MOST 1048576: true; the input reads as it did. -/
def fnObserveTurnTwiceUptoRow : OpenClaim := { program := "ytklhjofhmcaflaa", sum := "9d07ee3b1233ed573cffee96514c4734ca61064216f0e8a9de219f2d91ad5805", func := "loop.example/radiointerferometer/laws.FnObserveTurnTwice", spec := "fnObserveTurnTwice", unfollowed := true, recurses := true, apart := false, narrowed := true }
def FnObserveTurnTwiceUptoSaid : Prop := fnObserveTurnTwiceUptoRow.holds Try.pinned (OpenSpec.upto fnObserveTurnTwiceSpec)

/-- 'laws.FnTripleNorm', WHERE WHAT IT READS IS OF BULK AT MOST 1048576: true; the input reads as it did. -/
def fnTripleNormUptoRow : OpenClaim := { program := "ytklhjofhmcaflaa", sum := "9d07ee3b1233ed573cffee96514c4734ca61064216f0e8a9de219f2d91ad5805", func := "loop.example/radiointerferometer/laws.FnTripleNorm", spec := "fnTripleNorm", apart := false, narrowed := true }
def FnTripleNormUptoSaid : Prop := fnTripleNormUptoRow.holds Try.pinned (OpenSpec.upto fnTripleNormSpec)

/-- 'laws.FnObserveTurn', WHERE WHAT IT READS IS OF BULK AT MOST 1048576: true; the input reads as it did. -/
def fnObserveTurnUptoRow : OpenClaim := { program := "ytklhjofhmcaflaa", sum := "9d07ee3b1233ed573cffee96514c4734ca61064216f0e8a9de219f2d91ad5805", func := "loop.example/radiointerferometer/laws.FnObserveTurn", spec := "fnObserveTurn", unfollowed := true, recurses := true, apart := false, narrowed := true }
def FnObserveTurnUptoSaid : Prop := fnObserveTurnUptoRow.holds Try.pinned (OpenSpec.upto fnObserveTurnSpec)

/-- 'laws.FnExactObserveTurn', WHERE WHAT IT READS IS OF BULK AT MOST 1048576: true; the input reads as it did. -/
def fnExactObserveTurnUptoRow : OpenClaim := { program := "ytklhjofhmcaflaa", sum := "9d07ee3b1233ed573cffee96514c4734ca61064216f0e8a9de219f2d91ad5805", func := "loop.example/radiointerferometer/laws.FnExactObserveTurn", spec := "fnExactObserveTurn", unfollowed := true, recurses := true, apart := false, narrowed := true }
def FnExactObserveTurnUptoSaid : Prop := fnExactObserveTurnUptoRow.holds Try.pinned (OpenSpec.upto fnExactObserveTurnSpec)

/-- 'laws.FnSolveTurnBack', WHERE WHAT IT READS IS OF BULK AT MOST 1048576: true; the input reads as it did. -/
def fnSolveTurnBackUptoRow : OpenClaim := { program := "ytklhjofhmcaflaa", sum := "9d07ee3b1233ed573cffee96514c4734ca61064216f0e8a9de219f2d91ad5805", func := "loop.example/radiointerferometer/laws.FnSolveTurnBack", spec := "fnSolveTurnBack", unfollowed := true, recurses := true, apart := false, narrowed := true }
def FnSolveTurnBackUptoSaid : Prop := fnSolveTurnBackUptoRow.holds Try.pinned (OpenSpec.upto fnSolveTurnBackSpec)

/-- 'laws.FnBeam', WHERE WHAT IT READS IS OF BULK AT MOST 1048576: true; the input reads as it did. -/
def fnBeamUptoRow : OpenClaim := { program := "ytklhjofhmcaflaa", sum := "9d07ee3b1233ed573cffee96514c4734ca61064216f0e8a9de219f2d91ad5805", func := "loop.example/radiointerferometer/laws.FnBeam", spec := "fnBeam", apart := false, narrowed := true }
def FnBeamUptoSaid : Prop := fnBeamUptoRow.holds Try.pinned (OpenSpec.upto fnBeamSpec)

/-- 'laws.FnObserveTriple', WHERE WHAT IT READS IS OF BULK AT MOST 1048576: true; the input reads as it did. -/
def fnObserveTripleUptoRow : OpenClaim := { program := "ytklhjofhmcaflaa", sum := "9d07ee3b1233ed573cffee96514c4734ca61064216f0e8a9de219f2d91ad5805", func := "loop.example/radiointerferometer/laws.FnObserveTriple", spec := "fnObserveTriple", unfollowed := true, recurses := true, apart := false, narrowed := true }
def FnObserveTripleUptoSaid : Prop := fnObserveTripleUptoRow.holds Try.pinned (OpenSpec.upto fnObserveTripleSpec)

/-- 'laws.FnSolveTurnOnly', WHERE WHAT IT READS IS OF BULK AT MOST 1048576: true; the input reads as it did. -/
def fnSolveTurnOnlyUptoRow : OpenClaim := { program := "ytklhjofhmcaflaa", sum := "9d07ee3b1233ed573cffee96514c4734ca61064216f0e8a9de219f2d91ad5805", func := "loop.example/radiointerferometer/laws.FnSolveTurnOnly", spec := "fnSolveTurnOnly", unfollowed := true, recurses := true, apart := false, narrowed := true }
def FnSolveTurnOnlyUptoSaid : Prop := fnSolveTurnOnlyUptoRow.holds Try.pinned (OpenSpec.upto fnSolveTurnOnlySpec)

end Rows
end Go.Proofs.Ytklhjofhmcaflaa
