/-
  DERIVED. GIVEN WITH THE SEED: THE CARDS: each row of YthhpijmkhhdhhaaDoorRows.lean that lists a variable, with what it lists TIED to the program's text (the seventh form; the later family's looks); each row that meets fmt, with fmt's text TOLD by the authors' own Lean function (tested against real Go, not proved from fmt's source: count such statements apart). THE CARD IS WHAT COUNTS. Prove the row's statement (the work); the ties are given (YthhpijmkhhdhhaaDoorTie.lean); close each card by the builder's one call (the guide's Derived/Test/ToyasCard.lean, 'card_holds'). Laid BY PROGRAM, IN A SANDBOX (cutbox-door.mjs). By AI agents, Wed Nov 11 2026. No macro, syntax, notation, axiom, sorry.
-/
import Derived.Test.YthhpijmkhhdhhaaDoorRows
import GoSem.ClaimSeven
namespace Go.Proofs.YthhpijmkhhdhhaaDoor
namespace Rows

/-- THE TIED CARD OF 'doorsteplaw03.NumeralReads'. -/
def numeralReadsCard : Claim7 := { stood := { row := numeralReadsRow, standIns := [], harness := (true, "164def932288b8cd1df940b26dc2dd1381599c38f1e2069a7fc145c401397afb"), looks := false }, kinds := [], alts := [], laidByText := true, laidKinds := [.data, .data, .data], laidTests := true, laidLooks := .later }
def NumeralReadsCardSaid : Prop := Claim7.holds Tryd.pinned (.plain (OpenSpec.ofChange numeralReadsSpec)) numeralReadsCard

/-- THE TIED CARD OF 'doorsteplaw03.NumeralTexts'. -/
def numeralTextsCard : Claim7 := { stood := { row := numeralTextsRow, standIns := [], harness := (true, "164def932288b8cd1df940b26dc2dd1381599c38f1e2069a7fc145c401397afb"), looks := false }, kinds := [], alts := [], laidByText := true, laidKinds := [.data, .data, .data], laidTests := true, laidLooks := .later }
def NumeralTextsCardSaid : Prop := Claim7.holds Tryd.pinned (.plain (OpenSpec.ofChange numeralTextsSpec)) numeralTextsCard

/-- THE TIED CARD OF 'doorsteplaw03.NumeralSums'. -/
def numeralSumsCard : Claim7 := { stood := { row := numeralSumsRow, standIns := [], harness := (true, "164def932288b8cd1df940b26dc2dd1381599c38f1e2069a7fc145c401397afb"), looks := false }, kinds := [], alts := [], laidByText := true, laidKinds := [.data, .data, .data], laidTests := true, laidLooks := .later }
def NumeralSumsCardSaid : Prop := Claim7.holds Tryd.pinned (.plain (OpenSpec.ofChange numeralSumsSpec)) numeralSumsCard

/-- THE TIED CARD OF 'doorsteplaw09.PathKinds'. -/
def pathKindsCard : Claim7 := { stood := { row := pathKindsRow, standIns := [], harness := (true, "164def932288b8cd1df940b26dc2dd1381599c38f1e2069a7fc145c401397afb"), looks := false }, kinds := [], alts := [], laidByText := true, laidKinds := [.data, .pinned], laidTests := true, laidLooks := .later }
def PathKindsCardSaid : Prop := Claim7.holds Tryd.pinned (.plain (OpenSpec.ofChange pathKindsSpec)) pathKindsCard

/-- THE TIED CARD OF 'doorsteplaw09.PathDots'. -/
def pathDotsCard : Claim7 := { stood := { row := pathDotsRow, standIns := [], harness := (true, "164def932288b8cd1df940b26dc2dd1381599c38f1e2069a7fc145c401397afb"), looks := false }, kinds := [], alts := [], laidByText := true, laidKinds := [.data, .pinned], laidTests := true, laidLooks := .later }
def PathDotsCardSaid : Prop := Claim7.holds Tryd.pinned (.plain (OpenSpec.ofChange pathDotsSpec)) pathDotsCard

/-- THE TIED CARD OF 'doorsteplaw09.PathCuts'. -/
def pathCutsCard : Claim7 := { stood := { row := pathCutsRow, standIns := [], harness := (true, "164def932288b8cd1df940b26dc2dd1381599c38f1e2069a7fc145c401397afb"), looks := false }, kinds := [], alts := [], laidByText := true, laidKinds := [.data, .pinned], laidTests := true, laidLooks := .later }
def PathCutsCardSaid : Prop := Claim7.holds Tryd.pinned (.plain (OpenSpec.ofChange pathCutsSpec)) pathCutsCard

/-- THE TIED CARD OF 'doorsteplaw45.EventsRead'. -/
def eventsReadCard : Claim7 := { stood := { row := eventsReadRow, standIns := [], harness := (true, "164def932288b8cd1df940b26dc2dd1381599c38f1e2069a7fc145c401397afb"), looks := false }, kinds := [], alts := [], laidByText := true, laidKinds := [.data, .data, .data], laidTests := true, laidLooks := .later }
def EventsReadCardSaid : Prop := Claim7.holds Tryd.pinned (.plain (OpenSpec.ofChange eventsReadSpec)) eventsReadCard

/-- THE TIED CARD OF 'doorsteplaw45.EventsWrite'. -/
def eventsWriteCard : Claim7 := { stood := { row := eventsWriteRow, standIns := [], harness := (true, "164def932288b8cd1df940b26dc2dd1381599c38f1e2069a7fc145c401397afb"), looks := false }, kinds := [], alts := [], laidByText := true, laidKinds := [.data, .data, .data], laidTests := true, laidLooks := .later }
def EventsWriteCardSaid : Prop := Claim7.holds Tryd.pinned (.plain (OpenSpec.ofChange eventsWriteSpec)) eventsWriteCard

/-- THE TIED CARD OF 'doorsteplaw45.EventsCount'. -/
def eventsCountCard : Claim7 := { stood := { row := eventsCountRow, standIns := [], harness := (true, "164def932288b8cd1df940b26dc2dd1381599c38f1e2069a7fc145c401397afb"), looks := false }, kinds := [], alts := [], laidByText := true, laidKinds := [.data, .data, .data], laidTests := true, laidLooks := .later }
def EventsCountCardSaid : Prop := Claim7.holds Tryd.pinned (.plain (OpenSpec.ofChange eventsCountSpec)) eventsCountCard

/-- THE TIED CARD OF 'doorsteplaw08.HostKinds'. -/
def hostKindsCard : Claim7 := { stood := { row := hostKindsRow, standIns := [], harness := (true, "164def932288b8cd1df940b26dc2dd1381599c38f1e2069a7fc145c401397afb"), looks := false }, kinds := [], alts := [], laidByText := true, laidKinds := [.data, .data, .data, .data, .pinned], laidTests := true, laidLooks := .later }
def HostKindsCardSaid : Prop := Claim7.holds Tryd.pinned (.plain (OpenSpec.ofChange hostKindsSpec)) hostKindsCard

/-- THE TIED CARD OF 'doorsteplaw08.HostUnder'. -/
def hostUnderCard : Claim7 := { stood := { row := hostUnderRow, standIns := [], harness := (true, "164def932288b8cd1df940b26dc2dd1381599c38f1e2069a7fc145c401397afb"), looks := false }, kinds := [], alts := [], laidByText := true, laidKinds := [.data, .data, .data, .data, .pinned], laidTests := true, laidLooks := .later }
def HostUnderCardSaid : Prop := Claim7.holds Tryd.pinned (.plain (OpenSpec.ofChange hostUnderSpec)) hostUnderCard

/-- THE TIED CARD OF 'doorsteplaw08.HostReads'. -/
def hostReadsCard : Claim7 := { stood := { row := hostReadsRow, standIns := [], harness := (true, "164def932288b8cd1df940b26dc2dd1381599c38f1e2069a7fc145c401397afb"), looks := false }, kinds := [], alts := [], laidByText := true, laidKinds := [.data, .data, .data, .data, .pinned], laidTests := true, laidLooks := .later }
def HostReadsCardSaid : Prop := Claim7.holds Tryd.pinned (.plain (OpenSpec.ofChange hostReadsSpec)) hostReadsCard

/-- THE TIED CARD OF 'doorsteplaw08.HostWrites'. -/
def hostWritesCard : Claim7 := { stood := { row := hostWritesRow, standIns := [], harness := (true, "164def932288b8cd1df940b26dc2dd1381599c38f1e2069a7fc145c401397afb"), looks := false }, kinds := [], alts := [], laidByText := true, laidKinds := [.data, .data, .data, .data, .pinned], laidTests := true, laidLooks := .later }
def HostWritesCardSaid : Prop := Claim7.holds Tryd.pinned (.plain (OpenSpec.ofChange hostWritesSpec)) hostWritesCard

/-- THE SECOND FORM's CARD OF 'doorsteplaw03.NumeralReads'. -/
def numeralReadsUptoCard : Claim7 := { stood := { row := numeralReadsUptoRow, standIns := [], harness := (true, "164def932288b8cd1df940b26dc2dd1381599c38f1e2069a7fc145c401397afb"), looks := false }, kinds := [], alts := [], laidByText := true, laidKinds := [.data, .data, .data], laidTests := true, laidLooks := .later }
def NumeralReadsUptoCardSaid : Prop := Claim7.holds Tryd.pinned (.plain (OpenSpec.upto numeralReadsSpec)) numeralReadsUptoCard

/-- THE SECOND FORM's CARD OF 'doorsteplaw03.NumeralTexts'. -/
def numeralTextsUptoCard : Claim7 := { stood := { row := numeralTextsUptoRow, standIns := [], harness := (true, "164def932288b8cd1df940b26dc2dd1381599c38f1e2069a7fc145c401397afb"), looks := false }, kinds := [], alts := [], laidByText := true, laidKinds := [.data, .data, .data], laidTests := true, laidLooks := .later }
def NumeralTextsUptoCardSaid : Prop := Claim7.holds Tryd.pinned (.plain (OpenSpec.upto numeralTextsSpec)) numeralTextsUptoCard

/-- THE SECOND FORM's CARD OF 'doorsteplaw03.NumeralSums'. -/
def numeralSumsUptoCard : Claim7 := { stood := { row := numeralSumsUptoRow, standIns := [], harness := (true, "164def932288b8cd1df940b26dc2dd1381599c38f1e2069a7fc145c401397afb"), looks := false }, kinds := [], alts := [], laidByText := true, laidKinds := [.data, .data, .data], laidTests := true, laidLooks := .later }
def NumeralSumsUptoCardSaid : Prop := Claim7.holds Tryd.pinned (.plain (OpenSpec.upto numeralSumsSpec)) numeralSumsUptoCard

/-- THE SECOND FORM's CARD OF 'doorsteplaw09.PathKinds'. -/
def pathKindsUptoCard : Claim7 := { stood := { row := pathKindsUptoRow, standIns := [], harness := (true, "164def932288b8cd1df940b26dc2dd1381599c38f1e2069a7fc145c401397afb"), looks := false }, kinds := [], alts := [], laidByText := true, laidKinds := [.data, .pinned], laidTests := true, laidLooks := .later }
def PathKindsUptoCardSaid : Prop := Claim7.holds Tryd.pinned (.plain (OpenSpec.upto pathKindsSpec)) pathKindsUptoCard

/-- THE SECOND FORM's CARD OF 'doorsteplaw09.PathDots'. -/
def pathDotsUptoCard : Claim7 := { stood := { row := pathDotsUptoRow, standIns := [], harness := (true, "164def932288b8cd1df940b26dc2dd1381599c38f1e2069a7fc145c401397afb"), looks := false }, kinds := [], alts := [], laidByText := true, laidKinds := [.data, .pinned], laidTests := true, laidLooks := .later }
def PathDotsUptoCardSaid : Prop := Claim7.holds Tryd.pinned (.plain (OpenSpec.upto pathDotsSpec)) pathDotsUptoCard

/-- THE SECOND FORM's CARD OF 'doorsteplaw09.PathCuts'. -/
def pathCutsUptoCard : Claim7 := { stood := { row := pathCutsUptoRow, standIns := [], harness := (true, "164def932288b8cd1df940b26dc2dd1381599c38f1e2069a7fc145c401397afb"), looks := false }, kinds := [], alts := [], laidByText := true, laidKinds := [.data, .pinned], laidTests := true, laidLooks := .later }
def PathCutsUptoCardSaid : Prop := Claim7.holds Tryd.pinned (.plain (OpenSpec.upto pathCutsSpec)) pathCutsUptoCard

/-- THE SECOND FORM's CARD OF 'doorsteplaw45.EventsRead'. -/
def eventsReadUptoCard : Claim7 := { stood := { row := eventsReadUptoRow, standIns := [], harness := (true, "164def932288b8cd1df940b26dc2dd1381599c38f1e2069a7fc145c401397afb"), looks := false }, kinds := [], alts := [], laidByText := true, laidKinds := [.data, .data, .data], laidTests := true, laidLooks := .later }
def EventsReadUptoCardSaid : Prop := Claim7.holds Tryd.pinned (.plain (OpenSpec.upto eventsReadSpec)) eventsReadUptoCard

/-- THE SECOND FORM's CARD OF 'doorsteplaw45.EventsWrite'. -/
def eventsWriteUptoCard : Claim7 := { stood := { row := eventsWriteUptoRow, standIns := [], harness := (true, "164def932288b8cd1df940b26dc2dd1381599c38f1e2069a7fc145c401397afb"), looks := false }, kinds := [], alts := [], laidByText := true, laidKinds := [.data, .data, .data], laidTests := true, laidLooks := .later }
def EventsWriteUptoCardSaid : Prop := Claim7.holds Tryd.pinned (.plain (OpenSpec.upto eventsWriteSpec)) eventsWriteUptoCard

/-- THE SECOND FORM's CARD OF 'doorsteplaw45.EventsCount'. -/
def eventsCountUptoCard : Claim7 := { stood := { row := eventsCountUptoRow, standIns := [], harness := (true, "164def932288b8cd1df940b26dc2dd1381599c38f1e2069a7fc145c401397afb"), looks := false }, kinds := [], alts := [], laidByText := true, laidKinds := [.data, .data, .data], laidTests := true, laidLooks := .later }
def EventsCountUptoCardSaid : Prop := Claim7.holds Tryd.pinned (.plain (OpenSpec.upto eventsCountSpec)) eventsCountUptoCard

/-- THE SECOND FORM's CARD OF 'doorsteplaw08.HostKinds'. -/
def hostKindsUptoCard : Claim7 := { stood := { row := hostKindsUptoRow, standIns := [], harness := (true, "164def932288b8cd1df940b26dc2dd1381599c38f1e2069a7fc145c401397afb"), looks := false }, kinds := [], alts := [], laidByText := true, laidKinds := [.data, .data, .data, .data, .pinned], laidTests := true, laidLooks := .later }
def HostKindsUptoCardSaid : Prop := Claim7.holds Tryd.pinned (.plain (OpenSpec.upto hostKindsSpec)) hostKindsUptoCard

/-- THE SECOND FORM's CARD OF 'doorsteplaw08.HostUnder'. -/
def hostUnderUptoCard : Claim7 := { stood := { row := hostUnderUptoRow, standIns := [], harness := (true, "164def932288b8cd1df940b26dc2dd1381599c38f1e2069a7fc145c401397afb"), looks := false }, kinds := [], alts := [], laidByText := true, laidKinds := [.data, .data, .data, .data, .pinned], laidTests := true, laidLooks := .later }
def HostUnderUptoCardSaid : Prop := Claim7.holds Tryd.pinned (.plain (OpenSpec.upto hostUnderSpec)) hostUnderUptoCard

/-- THE SECOND FORM's CARD OF 'doorsteplaw08.HostReads'. -/
def hostReadsUptoCard : Claim7 := { stood := { row := hostReadsUptoRow, standIns := [], harness := (true, "164def932288b8cd1df940b26dc2dd1381599c38f1e2069a7fc145c401397afb"), looks := false }, kinds := [], alts := [], laidByText := true, laidKinds := [.data, .data, .data, .data, .pinned], laidTests := true, laidLooks := .later }
def HostReadsUptoCardSaid : Prop := Claim7.holds Tryd.pinned (.plain (OpenSpec.upto hostReadsSpec)) hostReadsUptoCard

/-- THE SECOND FORM's CARD OF 'doorsteplaw08.HostWrites'. -/
def hostWritesUptoCard : Claim7 := { stood := { row := hostWritesUptoRow, standIns := [], harness := (true, "164def932288b8cd1df940b26dc2dd1381599c38f1e2069a7fc145c401397afb"), looks := false }, kinds := [], alts := [], laidByText := true, laidKinds := [.data, .data, .data, .data, .pinned], laidTests := true, laidLooks := .later }
def HostWritesUptoCardSaid : Prop := Claim7.holds Tryd.pinned (.plain (OpenSpec.upto hostWritesSpec)) hostWritesUptoCard
end Rows
end Go.Proofs.YthhpijmkhhdhhaaDoor
