/-
  DERIVED. GIVEN WITH THE SEED: THE CARDS: each row of YtipgpafgampfbaaGreatDoorRows.lean that lists a variable, with what it lists TIED to the program's text (the seventh form; the later family's looks); each row that meets fmt, with fmt's text TOLD by the authors' own Lean function (tested against real Go, not proved from fmt's source: count such statements apart). THE CARD IS WHAT COUNTS. Prove the row's statement (the work); the ties are given (YtipgpafgampfbaaGreatDoorTie.lean); close each card by the builder's one call (the guide's Derived/Test/ToyasCard.lean, 'card_holds'). Laid BY PROGRAM, IN A SANDBOX (cutbox-door.mjs). By AI agents, Wed Nov 11 2026. No macro, syntax, notation, axiom, sorry.
-/
import Derived.Test.YtipgpafgampfbaaGreatDoorRows
import GoSem.ClaimSeven
namespace Go.Proofs.YtipgpafgampfbaaGreatDoor
namespace Rows

/-- THE TIED CARD OF 'laws.FnExecuteNo'. -/
def fnExecuteNoCard : Claim7 := { stood := { row := fnExecuteNoRow, standIns := [], harness := (true, "a9281b7c76a70995fa45c7010e48ae96d1222d86c2f78a83764db153a4e35766"), looks := true }, kinds := [], alts := [], laidByText := true, laidKinds := [.data, .data, .data, .data, .sentinel, .sentinel, .pinned], laidTests := true, laidLooks := .later }
def FnExecuteNoCardSaid : Prop := Claim7.holds Tryz.pinned (.plain (OpenSpec.ofChange fnExecuteNoSpec)) fnExecuteNoCard

/-- THE TIED CARD OF 'laws.FnExecuteTwice'. -/
def fnExecuteTwiceCard : Claim7 := { stood := { row := fnExecuteTwiceRow, standIns := [], harness := (true, "a9281b7c76a70995fa45c7010e48ae96d1222d86c2f78a83764db153a4e35766"), looks := true }, kinds := [], alts := [], laidByText := true, laidKinds := [.data, .data, .data, .data, .sentinel, .sentinel, .pinned], laidTests := true, laidLooks := .later }
def FnExecuteTwiceCardSaid : Prop := Claim7.holds Tryz.pinned (.plain (OpenSpec.ofChange fnExecuteTwiceSpec)) fnExecuteTwiceCard

/-- THE TIED CARD OF 'laws.FnExecuteWhat'. -/
def fnExecuteWhatCard : Claim7 := { stood := { row := fnExecuteWhatRow, standIns := [], harness := (true, "a9281b7c76a70995fa45c7010e48ae96d1222d86c2f78a83764db153a4e35766"), looks := true }, kinds := [], alts := [], laidByText := true, laidKinds := [.data, .data, .data, .data, .sentinel, .sentinel, .pinned], laidTests := true, laidLooks := .later }
def FnExecuteWhatCardSaid : Prop := Claim7.holds Tryz.pinned (.plain (OpenSpec.ofChange fnExecuteWhatSpec)) fnExecuteWhatCard

/-- THE TIED CARD OF 'laws.FnExecuteAnt'. -/
def fnExecuteAntCard : Claim7 := { stood := { row := fnExecuteAntRow, standIns := [], harness := (true, "a9281b7c76a70995fa45c7010e48ae96d1222d86c2f78a83764db153a4e35766"), looks := true }, kinds := [], alts := [], laidByText := true, laidKinds := [.data, .data, .data, .data, .sentinel, .sentinel, .pinned], laidTests := true, laidLooks := .later }
def FnExecuteAntCardSaid : Prop := Claim7.holds Tryz.pinned (.plain (OpenSpec.ofChange fnExecuteAntSpec)) fnExecuteAntCard

/-- THE TIED CARD OF 'laws.FnExecuteSky'. -/
def fnExecuteSkyCard : Claim7 := { stood := { row := fnExecuteSkyRow, standIns := [], harness := (true, "a9281b7c76a70995fa45c7010e48ae96d1222d86c2f78a83764db153a4e35766"), looks := true }, kinds := [], alts := [], laidByText := true, laidKinds := [.data, .data, .data, .data, .sentinel, .sentinel, .pinned], laidTests := true, laidLooks := .later }
def FnExecuteSkyCardSaid : Prop := Claim7.holds Tryz.pinned (.plain (OpenSpec.ofChange fnExecuteSkySpec)) fnExecuteSkyCard

/-- THE TIED CARD OF 'laws.FnExecuteCover'. -/
def fnExecuteCoverCard : Claim7 := { stood := { row := fnExecuteCoverRow, standIns := [], harness := (true, "a9281b7c76a70995fa45c7010e48ae96d1222d86c2f78a83764db153a4e35766"), looks := true }, kinds := [], alts := [], laidByText := true, laidKinds := [.data, .data, .data, .data, .sentinel, .sentinel, .pinned], laidTests := true, laidLooks := .later }
def FnExecuteCoverCardSaid : Prop := Claim7.holds Tryz.pinned (.plain (OpenSpec.ofChange fnExecuteCoverSpec)) fnExecuteCoverCard

/-- THE TIED CARD OF 'laws.FnExecuteClean'. -/
def fnExecuteCleanCard : Claim7 := { stood := { row := fnExecuteCleanRow, standIns := [], harness := (true, "a9281b7c76a70995fa45c7010e48ae96d1222d86c2f78a83764db153a4e35766"), looks := true }, kinds := [], alts := [], laidByText := true, laidKinds := [.data, .data, .data, .data, .sentinel, .sentinel, .pinned], laidTests := true, laidLooks := .later }
def FnExecuteCleanCardSaid : Prop := Claim7.holds Tryz.pinned (.plain (OpenSpec.ofChange fnExecuteCleanSpec)) fnExecuteCleanCard

/-- THE TIED CARD OF 'laws.FnExecutePoint'. -/
def fnExecutePointCard : Claim7 := { stood := { row := fnExecutePointRow, standIns := [], harness := (true, "a9281b7c76a70995fa45c7010e48ae96d1222d86c2f78a83764db153a4e35766"), looks := true }, kinds := [], alts := [], laidByText := true, laidKinds := [.data, .data, .data, .data, .sentinel, .sentinel, .pinned], laidTests := true, laidLooks := .later }
def FnExecutePointCardSaid : Prop := Claim7.holds Tryz.pinned (.plain (OpenSpec.ofChange fnExecutePointSpec)) fnExecutePointCard

/-- THE TIED CARD OF 'laws.FnExecuteBases'. -/
def fnExecuteBasesCard : Claim7 := { stood := { row := fnExecuteBasesRow, standIns := [], harness := (true, "a9281b7c76a70995fa45c7010e48ae96d1222d86c2f78a83764db153a4e35766"), looks := true }, kinds := [], alts := [], laidByText := true, laidKinds := [.data, .data, .data, .data, .sentinel, .sentinel, .pinned], laidTests := true, laidLooks := .later }
def FnExecuteBasesCardSaid : Prop := Claim7.holds Tryz.pinned (.plain (OpenSpec.ofChange fnExecuteBasesSpec)) fnExecuteBasesCard

/-- THE TIED CARD OF 'laws.FnExactExecute'. -/
def fnExactExecuteCard : Claim7 := { stood := { row := fnExactExecuteRow, standIns := [], harness := (true, "a9281b7c76a70995fa45c7010e48ae96d1222d86c2f78a83764db153a4e35766"), looks := true }, kinds := [], alts := [], laidByText := true, laidKinds := [.data, .data, .data, .data, .sentinel, .sentinel, .pinned], laidTests := true, laidLooks := .later }
def FnExactExecuteCardSaid : Prop := Claim7.holds Tryz.pinned (.plain (OpenSpec.ofChange fnExactExecuteSpec)) fnExactExecuteCard

/-- THE TIED CARD OF 'laws.FnExecuteNone'. -/
def fnExecuteNoneCard : Claim7 := { stood := { row := fnExecuteNoneRow, standIns := [], harness := (true, "a9281b7c76a70995fa45c7010e48ae96d1222d86c2f78a83764db153a4e35766"), looks := true }, kinds := [], alts := [], laidByText := true, laidKinds := [.data, .data, .data, .data, .sentinel, .sentinel, .pinned], laidTests := true, laidLooks := .later }
def FnExecuteNoneCardSaid : Prop := Claim7.holds Tryz.pinned (.plain (OpenSpec.ofChange fnExecuteNoneSpec)) fnExecuteNoneCard

/-- THE TIED CARD OF 'laws.FnExecuteRest'. -/
def fnExecuteRestCard : Claim7 := { stood := { row := fnExecuteRestRow, standIns := [], harness := (true, "a9281b7c76a70995fa45c7010e48ae96d1222d86c2f78a83764db153a4e35766"), looks := true }, kinds := [], alts := [], laidByText := true, laidKinds := [.data, .data, .data, .data, .sentinel, .sentinel, .pinned], laidTests := true, laidLooks := .later }
def FnExecuteRestCardSaid : Prop := Claim7.holds Tryz.pinned (.plain (OpenSpec.ofChange fnExecuteRestSpec)) fnExecuteRestCard

/-- THE SECOND FORM's CARD OF 'laws.FnExecuteNo'. -/
def fnExecuteNoUptoCard : Claim7 := { stood := { row := fnExecuteNoUptoRow, standIns := [], harness := (true, "a9281b7c76a70995fa45c7010e48ae96d1222d86c2f78a83764db153a4e35766"), looks := true }, kinds := [], alts := [], laidByText := true, laidKinds := [.data, .data, .data, .data, .sentinel, .sentinel, .pinned], laidTests := true, laidLooks := .later }
def FnExecuteNoUptoCardSaid : Prop := Claim7.holds Tryz.pinned (.plain (OpenSpec.upto fnExecuteNoSpec)) fnExecuteNoUptoCard

/-- THE SECOND FORM's CARD OF 'laws.FnExecuteTwice'. -/
def fnExecuteTwiceUptoCard : Claim7 := { stood := { row := fnExecuteTwiceUptoRow, standIns := [], harness := (true, "a9281b7c76a70995fa45c7010e48ae96d1222d86c2f78a83764db153a4e35766"), looks := true }, kinds := [], alts := [], laidByText := true, laidKinds := [.data, .data, .data, .data, .sentinel, .sentinel, .pinned], laidTests := true, laidLooks := .later }
def FnExecuteTwiceUptoCardSaid : Prop := Claim7.holds Tryz.pinned (.plain (OpenSpec.upto fnExecuteTwiceSpec)) fnExecuteTwiceUptoCard

/-- THE SECOND FORM's CARD OF 'laws.FnExecuteWhat'. -/
def fnExecuteWhatUptoCard : Claim7 := { stood := { row := fnExecuteWhatUptoRow, standIns := [], harness := (true, "a9281b7c76a70995fa45c7010e48ae96d1222d86c2f78a83764db153a4e35766"), looks := true }, kinds := [], alts := [], laidByText := true, laidKinds := [.data, .data, .data, .data, .sentinel, .sentinel, .pinned], laidTests := true, laidLooks := .later }
def FnExecuteWhatUptoCardSaid : Prop := Claim7.holds Tryz.pinned (.plain (OpenSpec.upto fnExecuteWhatSpec)) fnExecuteWhatUptoCard

/-- THE SECOND FORM's CARD OF 'laws.FnExecuteAnt'. -/
def fnExecuteAntUptoCard : Claim7 := { stood := { row := fnExecuteAntUptoRow, standIns := [], harness := (true, "a9281b7c76a70995fa45c7010e48ae96d1222d86c2f78a83764db153a4e35766"), looks := true }, kinds := [], alts := [], laidByText := true, laidKinds := [.data, .data, .data, .data, .sentinel, .sentinel, .pinned], laidTests := true, laidLooks := .later }
def FnExecuteAntUptoCardSaid : Prop := Claim7.holds Tryz.pinned (.plain (OpenSpec.upto fnExecuteAntSpec)) fnExecuteAntUptoCard

/-- THE SECOND FORM's CARD OF 'laws.FnExecuteSky'. -/
def fnExecuteSkyUptoCard : Claim7 := { stood := { row := fnExecuteSkyUptoRow, standIns := [], harness := (true, "a9281b7c76a70995fa45c7010e48ae96d1222d86c2f78a83764db153a4e35766"), looks := true }, kinds := [], alts := [], laidByText := true, laidKinds := [.data, .data, .data, .data, .sentinel, .sentinel, .pinned], laidTests := true, laidLooks := .later }
def FnExecuteSkyUptoCardSaid : Prop := Claim7.holds Tryz.pinned (.plain (OpenSpec.upto fnExecuteSkySpec)) fnExecuteSkyUptoCard

/-- THE SECOND FORM's CARD OF 'laws.FnExecuteCover'. -/
def fnExecuteCoverUptoCard : Claim7 := { stood := { row := fnExecuteCoverUptoRow, standIns := [], harness := (true, "a9281b7c76a70995fa45c7010e48ae96d1222d86c2f78a83764db153a4e35766"), looks := true }, kinds := [], alts := [], laidByText := true, laidKinds := [.data, .data, .data, .data, .sentinel, .sentinel, .pinned], laidTests := true, laidLooks := .later }
def FnExecuteCoverUptoCardSaid : Prop := Claim7.holds Tryz.pinned (.plain (OpenSpec.upto fnExecuteCoverSpec)) fnExecuteCoverUptoCard

/-- THE SECOND FORM's CARD OF 'laws.FnExecuteClean'. -/
def fnExecuteCleanUptoCard : Claim7 := { stood := { row := fnExecuteCleanUptoRow, standIns := [], harness := (true, "a9281b7c76a70995fa45c7010e48ae96d1222d86c2f78a83764db153a4e35766"), looks := true }, kinds := [], alts := [], laidByText := true, laidKinds := [.data, .data, .data, .data, .sentinel, .sentinel, .pinned], laidTests := true, laidLooks := .later }
def FnExecuteCleanUptoCardSaid : Prop := Claim7.holds Tryz.pinned (.plain (OpenSpec.upto fnExecuteCleanSpec)) fnExecuteCleanUptoCard

/-- THE SECOND FORM's CARD OF 'laws.FnExecutePoint'. -/
def fnExecutePointUptoCard : Claim7 := { stood := { row := fnExecutePointUptoRow, standIns := [], harness := (true, "a9281b7c76a70995fa45c7010e48ae96d1222d86c2f78a83764db153a4e35766"), looks := true }, kinds := [], alts := [], laidByText := true, laidKinds := [.data, .data, .data, .data, .sentinel, .sentinel, .pinned], laidTests := true, laidLooks := .later }
def FnExecutePointUptoCardSaid : Prop := Claim7.holds Tryz.pinned (.plain (OpenSpec.upto fnExecutePointSpec)) fnExecutePointUptoCard

/-- THE SECOND FORM's CARD OF 'laws.FnExecuteBases'. -/
def fnExecuteBasesUptoCard : Claim7 := { stood := { row := fnExecuteBasesUptoRow, standIns := [], harness := (true, "a9281b7c76a70995fa45c7010e48ae96d1222d86c2f78a83764db153a4e35766"), looks := true }, kinds := [], alts := [], laidByText := true, laidKinds := [.data, .data, .data, .data, .sentinel, .sentinel, .pinned], laidTests := true, laidLooks := .later }
def FnExecuteBasesUptoCardSaid : Prop := Claim7.holds Tryz.pinned (.plain (OpenSpec.upto fnExecuteBasesSpec)) fnExecuteBasesUptoCard

/-- THE SECOND FORM's CARD OF 'laws.FnExactExecute'. -/
def fnExactExecuteUptoCard : Claim7 := { stood := { row := fnExactExecuteUptoRow, standIns := [], harness := (true, "a9281b7c76a70995fa45c7010e48ae96d1222d86c2f78a83764db153a4e35766"), looks := true }, kinds := [], alts := [], laidByText := true, laidKinds := [.data, .data, .data, .data, .sentinel, .sentinel, .pinned], laidTests := true, laidLooks := .later }
def FnExactExecuteUptoCardSaid : Prop := Claim7.holds Tryz.pinned (.plain (OpenSpec.upto fnExactExecuteSpec)) fnExactExecuteUptoCard

/-- THE SECOND FORM's CARD OF 'laws.FnExecuteNone'. -/
def fnExecuteNoneUptoCard : Claim7 := { stood := { row := fnExecuteNoneUptoRow, standIns := [], harness := (true, "a9281b7c76a70995fa45c7010e48ae96d1222d86c2f78a83764db153a4e35766"), looks := true }, kinds := [], alts := [], laidByText := true, laidKinds := [.data, .data, .data, .data, .sentinel, .sentinel, .pinned], laidTests := true, laidLooks := .later }
def FnExecuteNoneUptoCardSaid : Prop := Claim7.holds Tryz.pinned (.plain (OpenSpec.upto fnExecuteNoneSpec)) fnExecuteNoneUptoCard

/-- THE SECOND FORM's CARD OF 'laws.FnExecuteRest'. -/
def fnExecuteRestUptoCard : Claim7 := { stood := { row := fnExecuteRestUptoRow, standIns := [], harness := (true, "a9281b7c76a70995fa45c7010e48ae96d1222d86c2f78a83764db153a4e35766"), looks := true }, kinds := [], alts := [], laidByText := true, laidKinds := [.data, .data, .data, .data, .sentinel, .sentinel, .pinned], laidTests := true, laidLooks := .later }
def FnExecuteRestUptoCardSaid : Prop := Claim7.holds Tryz.pinned (.plain (OpenSpec.upto fnExecuteRestSpec)) fnExecuteRestUptoCard
end Rows
end Go.Proofs.YtipgpafgampfbaaGreatDoor
