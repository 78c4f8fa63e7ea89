/-
  DERIVED. GIVEN WITH THE SEED: THE CARDS: each row of YtbadeopjfmafcaaDoorRows.lean that lists a variable, with what it lists TIED to the program's text (the seventh form; the later family's looks); each row that meets fmt, with fmt's text TOLD by the authors' own Lean function (tested against real Go, not proved from fmt's source: count such statements apart). THE CARD IS WHAT COUNTS. Prove the row's statement (the work); the ties are given (YtbadeopjfmafcaaDoorTie.lean); close each card by the builder's one call (the guide's Derived/Test/ToyasCard.lean, 'card_holds'). Laid BY PROGRAM, IN A SANDBOX (cutbox-door.mjs). By AI agents, Wed Nov 11 2026. No macro, syntax, notation, axiom, sorry.
-/
import Derived.Test.YtbadeopjfmafcaaDoorRows
import GoSem.ClaimSeven
namespace Go.Proofs.YtbadeopjfmafcaaDoor
namespace Rows

/-- THE TIED CARD OF 'laws.FnExactSkyText'. -/
def fnExactSkyTextCard : Claim7 := { stood := { row := fnExactSkyTextRow, standIns := [], harness := (true, "d955b767274ed8c4d048f37150181709dcc316e057b054a10f16d2086d6b2dc5"), looks := true }, kinds := [], alts := [], laidByText := true, laidKinds := [.data, .data, .data], laidTests := true, laidLooks := .later }
def FnExactSkyTextCardSaid : Prop := Claim7.holds Tryd.pinned (.plain (OpenSpec.ofChange fnExactSkyTextSpec)) fnExactSkyTextCard

/-- THE TIED CARD OF 'laws.FnSkyTextRows'. -/
def fnSkyTextRowsCard : Claim7 := { stood := { row := fnSkyTextRowsRow, standIns := [], harness := (true, "d955b767274ed8c4d048f37150181709dcc316e057b054a10f16d2086d6b2dc5"), looks := true }, kinds := [], alts := [], laidByText := true, laidKinds := [.data, .data, .data], laidTests := true, laidLooks := .later }
def FnSkyTextRowsCardSaid : Prop := Claim7.holds Tryd.pinned (.plain (OpenSpec.ofChange fnSkyTextRowsSpec)) fnSkyTextRowsCard

/-- THE TIED CARD OF 'laws.FnExactVisText'. -/
def fnExactVisTextCard : Claim7 := { stood := { row := fnExactVisTextRow, standIns := [], harness := (true, "d955b767274ed8c4d048f37150181709dcc316e057b054a10f16d2086d6b2dc5"), looks := true }, kinds := [], alts := [], laidByText := true, laidKinds := [.data, .data, .data], laidTests := true, laidLooks := .later }
def FnExactVisTextCardSaid : Prop := Claim7.holds Tryd.pinned (.plain (OpenSpec.ofChange fnExactVisTextSpec)) fnExactVisTextCard

/-- THE TIED CARD OF 'laws.FnSkyText'. -/
def fnSkyTextCard : Claim7 := { stood := { row := fnSkyTextRow, standIns := [], harness := (true, "d955b767274ed8c4d048f37150181709dcc316e057b054a10f16d2086d6b2dc5"), looks := true }, kinds := [], alts := [], laidByText := true, laidKinds := [.data, .data, .data, .sentinel, .sentinel], laidTests := true, laidLooks := .later }
def FnSkyTextCardSaid : Prop := Claim7.holds Tryd.pinned (.plain (OpenSpec.ofChange fnSkyTextSpec)) fnSkyTextCard

/-- THE TIED CARD OF 'laws.FnExactSkyFrom'. -/
def fnExactSkyFromCard : Claim7 := { stood := { row := fnExactSkyFromRow, standIns := [], harness := (true, "d955b767274ed8c4d048f37150181709dcc316e057b054a10f16d2086d6b2dc5"), looks := true }, kinds := [], alts := [], laidByText := true, laidKinds := [.data, .data, .data, .sentinel, .sentinel], laidTests := true, laidLooks := .later }
def FnExactSkyFromCardSaid : Prop := Claim7.holds Tryd.pinned (.plain (OpenSpec.ofChange fnExactSkyFromSpec)) fnExactSkyFromCard

/-- THE TIED CARD OF 'laws.FnSkyFrom'. -/
def fnSkyFromCard : Claim7 := { stood := { row := fnSkyFromRow, standIns := [], harness := (true, "d955b767274ed8c4d048f37150181709dcc316e057b054a10f16d2086d6b2dc5"), looks := true }, kinds := [], alts := [], laidByText := true, laidKinds := [.data, .data, .data, .sentinel, .sentinel], laidTests := true, laidLooks := .later }
def FnSkyFromCardSaid : Prop := Claim7.holds Tryd.pinned (.plain (OpenSpec.ofChange fnSkyFromSpec)) fnSkyFromCard

/-- THE TIED CARD OF 'laws.FnVisText'. -/
def fnVisTextCard : Claim7 := { stood := { row := fnVisTextRow, standIns := [], harness := (true, "d955b767274ed8c4d048f37150181709dcc316e057b054a10f16d2086d6b2dc5"), looks := true }, kinds := [], alts := [], laidByText := true, laidKinds := [.data, .data, .data, .data, .sentinel, .sentinel, .pinned], laidTests := true, laidLooks := .later }
def FnVisTextCardSaid : Prop := Claim7.holds Tryd.pinned (.plain (OpenSpec.ofChange fnVisTextSpec)) fnVisTextCard

/-- THE TIED CARD OF 'laws.FnExactVisFrom'. -/
def fnExactVisFromCard : Claim7 := { stood := { row := fnExactVisFromRow, standIns := [], harness := (true, "d955b767274ed8c4d048f37150181709dcc316e057b054a10f16d2086d6b2dc5"), looks := true }, kinds := [], alts := [], laidByText := true, laidKinds := [.data, .data, .data, .data, .sentinel, .sentinel, .pinned], laidTests := true, laidLooks := .later }
def FnExactVisFromCardSaid : Prop := Claim7.holds Tryd.pinned (.plain (OpenSpec.ofChange fnExactVisFromSpec)) fnExactVisFromCard

/-- THE TIED CARD OF 'laws.FnVisFrom'. -/
def fnVisFromCard : Claim7 := { stood := { row := fnVisFromRow, standIns := [], harness := (true, "d955b767274ed8c4d048f37150181709dcc316e057b054a10f16d2086d6b2dc5"), looks := true }, kinds := [], alts := [], laidByText := true, laidKinds := [.data, .data, .data, .data, .sentinel, .sentinel, .pinned], laidTests := true, laidLooks := .later }
def FnVisFromCardSaid : Prop := Claim7.holds Tryd.pinned (.plain (OpenSpec.ofChange fnVisFromSpec)) fnVisFromCard

/-- THE SECOND FORM's CARD OF 'laws.FnExactSkyText'. -/
def fnExactSkyTextUptoCard : Claim7 := { stood := { row := fnExactSkyTextUptoRow, standIns := [], harness := (true, "d955b767274ed8c4d048f37150181709dcc316e057b054a10f16d2086d6b2dc5"), looks := true }, kinds := [], alts := [], laidByText := true, laidKinds := [.data, .data, .data], laidTests := true, laidLooks := .later }
def FnExactSkyTextUptoCardSaid : Prop := Claim7.holds Tryd.pinned (.plain (OpenSpec.upto fnExactSkyTextSpec)) fnExactSkyTextUptoCard

/-- THE SECOND FORM's CARD OF 'laws.FnSkyTextRows'. -/
def fnSkyTextRowsUptoCard : Claim7 := { stood := { row := fnSkyTextRowsUptoRow, standIns := [], harness := (true, "d955b767274ed8c4d048f37150181709dcc316e057b054a10f16d2086d6b2dc5"), looks := true }, kinds := [], alts := [], laidByText := true, laidKinds := [.data, .data, .data], laidTests := true, laidLooks := .later }
def FnSkyTextRowsUptoCardSaid : Prop := Claim7.holds Tryd.pinned (.plain (OpenSpec.upto fnSkyTextRowsSpec)) fnSkyTextRowsUptoCard

/-- THE SECOND FORM's CARD OF 'laws.FnExactVisText'. -/
def fnExactVisTextUptoCard : Claim7 := { stood := { row := fnExactVisTextUptoRow, standIns := [], harness := (true, "d955b767274ed8c4d048f37150181709dcc316e057b054a10f16d2086d6b2dc5"), looks := true }, kinds := [], alts := [], laidByText := true, laidKinds := [.data, .data, .data], laidTests := true, laidLooks := .later }
def FnExactVisTextUptoCardSaid : Prop := Claim7.holds Tryd.pinned (.plain (OpenSpec.upto fnExactVisTextSpec)) fnExactVisTextUptoCard

/-- THE SECOND FORM's CARD OF 'laws.FnSkyText'. -/
def fnSkyTextUptoCard : Claim7 := { stood := { row := fnSkyTextUptoRow, standIns := [], harness := (true, "d955b767274ed8c4d048f37150181709dcc316e057b054a10f16d2086d6b2dc5"), looks := true }, kinds := [], alts := [], laidByText := true, laidKinds := [.data, .data, .data, .sentinel, .sentinel], laidTests := true, laidLooks := .later }
def FnSkyTextUptoCardSaid : Prop := Claim7.holds Tryd.pinned (.plain (OpenSpec.upto fnSkyTextSpec)) fnSkyTextUptoCard

/-- THE SECOND FORM's CARD OF 'laws.FnExactSkyFrom'. -/
def fnExactSkyFromUptoCard : Claim7 := { stood := { row := fnExactSkyFromUptoRow, standIns := [], harness := (true, "d955b767274ed8c4d048f37150181709dcc316e057b054a10f16d2086d6b2dc5"), looks := true }, kinds := [], alts := [], laidByText := true, laidKinds := [.data, .data, .data, .sentinel, .sentinel], laidTests := true, laidLooks := .later }
def FnExactSkyFromUptoCardSaid : Prop := Claim7.holds Tryd.pinned (.plain (OpenSpec.upto fnExactSkyFromSpec)) fnExactSkyFromUptoCard

/-- THE SECOND FORM's CARD OF 'laws.FnSkyFrom'. -/
def fnSkyFromUptoCard : Claim7 := { stood := { row := fnSkyFromUptoRow, standIns := [], harness := (true, "d955b767274ed8c4d048f37150181709dcc316e057b054a10f16d2086d6b2dc5"), looks := true }, kinds := [], alts := [], laidByText := true, laidKinds := [.data, .data, .data, .sentinel, .sentinel], laidTests := true, laidLooks := .later }
def FnSkyFromUptoCardSaid : Prop := Claim7.holds Tryd.pinned (.plain (OpenSpec.upto fnSkyFromSpec)) fnSkyFromUptoCard

/-- THE SECOND FORM's CARD OF 'laws.FnVisText'. -/
def fnVisTextUptoCard : Claim7 := { stood := { row := fnVisTextUptoRow, standIns := [], harness := (true, "d955b767274ed8c4d048f37150181709dcc316e057b054a10f16d2086d6b2dc5"), looks := true }, kinds := [], alts := [], laidByText := true, laidKinds := [.data, .data, .data, .data, .sentinel, .sentinel, .pinned], laidTests := true, laidLooks := .later }
def FnVisTextUptoCardSaid : Prop := Claim7.holds Tryd.pinned (.plain (OpenSpec.upto fnVisTextSpec)) fnVisTextUptoCard

/-- THE SECOND FORM's CARD OF 'laws.FnExactVisFrom'. -/
def fnExactVisFromUptoCard : Claim7 := { stood := { row := fnExactVisFromUptoRow, standIns := [], harness := (true, "d955b767274ed8c4d048f37150181709dcc316e057b054a10f16d2086d6b2dc5"), looks := true }, kinds := [], alts := [], laidByText := true, laidKinds := [.data, .data, .data, .data, .sentinel, .sentinel, .pinned], laidTests := true, laidLooks := .later }
def FnExactVisFromUptoCardSaid : Prop := Claim7.holds Tryd.pinned (.plain (OpenSpec.upto fnExactVisFromSpec)) fnExactVisFromUptoCard

/-- THE SECOND FORM's CARD OF 'laws.FnVisFrom'. -/
def fnVisFromUptoCard : Claim7 := { stood := { row := fnVisFromUptoRow, standIns := [], harness := (true, "d955b767274ed8c4d048f37150181709dcc316e057b054a10f16d2086d6b2dc5"), looks := true }, kinds := [], alts := [], laidByText := true, laidKinds := [.data, .data, .data, .data, .sentinel, .sentinel, .pinned], laidTests := true, laidLooks := .later }
def FnVisFromUptoCardSaid : Prop := Claim7.holds Tryd.pinned (.plain (OpenSpec.upto fnVisFromSpec)) fnVisFromUptoCard
end Rows
end Go.Proofs.YtbadeopjfmafcaaDoor
