/-
  DERIVED. GIVEN WITH THE SEED: THE CARDS: each row of YtihjbbiajggcoaaDoorRows.lean that lists a variable, with what it lists TIED to the program's text (the seventh form; the later family's looks); each row that meets fmt, with fmt's text TOLD by the authors' own Lean function (tested against real Go, not proved from fmt's source: count such statements apart). THE CARD IS WHAT COUNTS. Prove the row's statement (the work); the ties are given (YtihjbbiajggcoaaDoorTie.lean); close each card by the builder's one call (the guide's Derived/Test/ToyasCard.lean, 'card_holds'). Laid BY PROGRAM, IN A SANDBOX (cutbox-door.mjs). By AI agents, Wed Nov 11 2026. No macro, syntax, notation, axiom, sorry.
-/
import Derived.Test.YtihjbbiajggcoaaDoorRows
import GoSem.ClaimSeven
namespace Go.Proofs.YtihjbbiajggcoaaDoor
namespace Rows

/-- THE TIED CARD OF 'laws.FnRaiseWhileText'. -/
def fnRaiseWhileTextCard : Claim7 := { stood := { row := fnRaiseWhileTextRow, standIns := [], harness := (true, "50ff1c540bc0adc90ee1d199184db482b3ebb071bd4196bf857d637cc4b768d1"), looks := false }, kinds := [], alts := [], laidByText := true, laidKinds := [.data, .data, .data], laidTests := true, laidLooks := .later }
def FnRaiseWhileTextCardSaid : Prop := Claim7.holds Tryd.pinned (.plain (OpenSpec.ofChange fnRaiseWhileTextSpec)) fnRaiseWhileTextCard

/-- THE TIED CARD OF 'laws.FnIsolateFault'. -/
def fnIsolateFaultCard : Claim7 := { stood := { row := fnIsolateFaultRow, standIns := [], harness := (true, "50ff1c540bc0adc90ee1d199184db482b3ebb071bd4196bf857d637cc4b768d1"), looks := false }, kinds := [], alts := [], laidByText := true, laidKinds := [.data, .data, .data], laidTests := true, laidLooks := .later }
def FnIsolateFaultCardSaid : Prop := Claim7.holds Tryd.pinned (.plain (OpenSpec.ofChange fnIsolateFaultSpec)) fnIsolateFaultCard

/-- THE SECOND FORM's CARD OF 'laws.FnRaiseWhileText'. -/
def fnRaiseWhileTextUptoCard : Claim7 := { stood := { row := fnRaiseWhileTextUptoRow, standIns := [], harness := (true, "50ff1c540bc0adc90ee1d199184db482b3ebb071bd4196bf857d637cc4b768d1"), looks := false }, kinds := [], alts := [], laidByText := true, laidKinds := [.data, .data, .data], laidTests := true, laidLooks := .later }
def FnRaiseWhileTextUptoCardSaid : Prop := Claim7.holds Tryd.pinned (.plain (OpenSpec.upto fnRaiseWhileTextSpec)) fnRaiseWhileTextUptoCard

/-- THE SECOND FORM's CARD OF 'laws.FnIsolateFault'. -/
def fnIsolateFaultUptoCard : Claim7 := { stood := { row := fnIsolateFaultUptoRow, standIns := [], harness := (true, "50ff1c540bc0adc90ee1d199184db482b3ebb071bd4196bf857d637cc4b768d1"), looks := false }, kinds := [], alts := [], laidByText := true, laidKinds := [.data, .data, .data], laidTests := true, laidLooks := .later }
def FnIsolateFaultUptoCardSaid : Prop := Claim7.holds Tryd.pinned (.plain (OpenSpec.upto fnIsolateFaultSpec)) fnIsolateFaultUptoCard
end Rows
end Go.Proofs.YtihjbbiajggcoaaDoor
