/-
  DERIVED. GIVEN WITH THE SEED: THE CARDS: each row of YtnllkgjmoipgbaaGreatDoorRows.lean that lists a variable, with what it lists TIED to the program's text (the seventh form; the later family's looks); each row that meets fmt, with fmt's text TOLD by the authors' own Lean function (tested against real Go, not proved from fmt's source: count such statements apart). THE CARD IS WHAT COUNTS. Prove the row's statement (the work); the ties are given (YtnllkgjmoipgbaaGreatDoorTie.lean); close each card by the builder's one call (the guide's Derived/Test/ToyasCard.lean, 'card_holds'). Laid BY PROGRAM, IN A SANDBOX (cutbox-door.mjs). By AI agents, Wed Nov 11 2026. No macro, syntax, notation, axiom, sorry.
-/
import Derived.Test.YtnllkgjmoipgbaaGreatDoorRows
import GoSem.ClaimSeven
namespace Go.Proofs.YtnllkgjmoipgbaaGreatDoor
namespace Rows

/-- THE TIED CARD OF 'phosphorlaw24.BusNobody'. -/
def busNobodyCard : Claim7 := { stood := { row := busNobodyRow, standIns := [], harness := (true, "bd220f6371e34b9b9e24540febcd677c8de7384c4fae0106b73b2fe369ca2ce1"), looks := true }, kinds := [], alts := [], laidByText := true, laidKinds := [.handle], laidTests := true, laidLooks := .later }
def BusNobodyCardSaid : Prop := Claim7.holds Tryz.pinned (.plain (OpenSpec.ofChange busNobodySpec)) busNobodyCard

/-- THE TIED CARD OF 'phosphorlaw24.BusRam'. -/
def busRamCard : Claim7 := { stood := { row := busRamRow, standIns := [], harness := (true, "bd220f6371e34b9b9e24540febcd677c8de7384c4fae0106b73b2fe369ca2ce1"), looks := true }, kinds := [], alts := [], laidByText := true, laidKinds := [.handle], laidTests := true, laidLooks := .later }
def BusRamCardSaid : Prop := Claim7.holds Tryz.pinned (.plain (OpenSpec.ofChange busRamSpec)) busRamCard

/-- THE TIED CARD OF 'phosphorlaw24.BusStatus'. -/
def busStatusCard : Claim7 := { stood := { row := busStatusRow, standIns := [], harness := (true, "bd220f6371e34b9b9e24540febcd677c8de7384c4fae0106b73b2fe369ca2ce1"), looks := true }, kinds := [], alts := [], laidByText := true, laidKinds := [.handle], laidTests := true, laidLooks := .later }
def BusStatusCardSaid : Prop := Claim7.holds Tryz.pinned (.plain (OpenSpec.ofChange busStatusSpec)) busStatusCard

/-- THE TIED CARD OF 'phosphorlaw24.BusPicture'. -/
def busPictureCard : Claim7 := { stood := { row := busPictureRow, standIns := [], harness := (true, "bd220f6371e34b9b9e24540febcd677c8de7384c4fae0106b73b2fe369ca2ce1"), looks := true }, kinds := [], alts := [], laidByText := true, laidKinds := [.handle], laidTests := true, laidLooks := .later }
def BusPictureCardSaid : Prop := Claim7.holds Tryz.pinned (.plain (OpenSpec.ofChange busPictureSpec)) busPictureCard

/-- THE TIED CARD OF 'phosphorlaw24.BusHolds'. -/
def busHoldsCard : Claim7 := { stood := { row := busHoldsRow, standIns := [], harness := (true, "bd220f6371e34b9b9e24540febcd677c8de7384c4fae0106b73b2fe369ca2ce1"), looks := true }, kinds := [], alts := [], laidByText := true, laidKinds := [.handle], laidTests := true, laidLooks := .later }
def BusHoldsCardSaid : Prop := Claim7.holds Tryz.pinned (.plain (OpenSpec.ofChange busHoldsSpec)) busHoldsCard

/-- THE TIED CARD OF 'phosphorlaw24.BusClock'. -/
def busClockCard : Claim7 := { stood := { row := busClockRow, standIns := [], harness := (true, "bd220f6371e34b9b9e24540febcd677c8de7384c4fae0106b73b2fe369ca2ce1"), looks := true }, kinds := [], alts := [], laidByText := true, laidKinds := [.handle], laidTests := true, laidLooks := .later }
def BusClockCardSaid : Prop := Claim7.holds Tryz.pinned (.plain (OpenSpec.ofChange busClockSpec)) busClockCard

/-- THE TIED CARD OF 'phosphorlaw24.BusPlays'. -/
def busPlaysCard : Claim7 := { stood := { row := busPlaysRow, standIns := [], harness := (true, "bd220f6371e34b9b9e24540febcd677c8de7384c4fae0106b73b2fe369ca2ce1"), looks := true }, kinds := [], alts := [], laidByText := true, laidKinds := [.handle], laidTests := true, laidLooks := .later }
def BusPlaysCardSaid : Prop := Claim7.holds Tryz.pinned (.plain (OpenSpec.ofChange busPlaysSpec)) busPlaysCard

/-- THE TIED CARD OF 'phosphorlaw25.CpuSums'. -/
def cpuSumsCard : Claim7 := { stood := { row := cpuSumsRow, standIns := [], harness := (true, "bd220f6371e34b9b9e24540febcd677c8de7384c4fae0106b73b2fe369ca2ce1"), looks := true }, kinds := [], alts := [], laidByText := true, laidKinds := [.handle], laidTests := true, laidLooks := .later }
def CpuSumsCardSaid : Prop := Claim7.holds Tryz.pinned (.plain (OpenSpec.ofChange cpuSumsSpec)) cpuSumsCard

/-- THE TIED CARD OF 'phosphorlaw25.CpuCalls'. -/
def cpuCallsCard : Claim7 := { stood := { row := cpuCallsRow, standIns := [], harness := (true, "bd220f6371e34b9b9e24540febcd677c8de7384c4fae0106b73b2fe369ca2ce1"), looks := true }, kinds := [], alts := [], laidByText := true, laidKinds := [.handle], laidTests := true, laidLooks := .later }
def CpuCallsCardSaid : Prop := Claim7.holds Tryz.pinned (.plain (OpenSpec.ofChange cpuCallsSpec)) cpuCallsCard

/-- THE TIED CARD OF 'phosphorlaw25.CpuMoves'. -/
def cpuMovesCard : Claim7 := { stood := { row := cpuMovesRow, standIns := [], harness := (true, "bd220f6371e34b9b9e24540febcd677c8de7384c4fae0106b73b2fe369ca2ce1"), looks := true }, kinds := [], alts := [], laidByText := true, laidKinds := [.handle], laidTests := true, laidLooks := .later }
def CpuMovesCardSaid : Prop := Claim7.holds Tryz.pinned (.plain (OpenSpec.ofChange cpuMovesSpec)) cpuMovesCard

/-- THE TIED CARD OF 'phosphorlaw25.CpuTakes'. -/
def cpuTakesCard : Claim7 := { stood := { row := cpuTakesRow, standIns := [], harness := (true, "bd220f6371e34b9b9e24540febcd677c8de7384c4fae0106b73b2fe369ca2ce1"), looks := true }, kinds := [], alts := [], laidByText := true, laidKinds := [.handle], laidTests := true, laidLooks := .later }
def CpuTakesCardSaid : Prop := Claim7.holds Tryz.pinned (.plain (OpenSpec.ofChange cpuTakesSpec)) cpuTakesCard

/-- THE TIED CARD OF 'phosphorlaw25.CpuBranches'. -/
def cpuBranchesCard : Claim7 := { stood := { row := cpuBranchesRow, standIns := [], harness := (true, "bd220f6371e34b9b9e24540febcd677c8de7384c4fae0106b73b2fe369ca2ce1"), looks := true }, kinds := [], alts := [], laidByText := true, laidKinds := [.handle], laidTests := true, laidLooks := .later }
def CpuBranchesCardSaid : Prop := Claim7.holds Tryz.pinned (.plain (OpenSpec.ofChange cpuBranchesSpec)) cpuBranchesCard

/-- THE TIED CARD OF 'phosphorlaw25.CpuBits'. -/
def cpuBitsCard : Claim7 := { stood := { row := cpuBitsRow, standIns := [], harness := (true, "bd220f6371e34b9b9e24540febcd677c8de7384c4fae0106b73b2fe369ca2ce1"), looks := true }, kinds := [], alts := [], laidByText := true, laidKinds := [.handle], laidTests := true, laidLooks := .later }
def CpuBitsCardSaid : Prop := Claim7.holds Tryz.pinned (.plain (OpenSpec.ofChange cpuBitsSpec)) cpuBitsCard

/-- THE TIED CARD OF 'phosphorlaw25.CpuCounts'. -/
def cpuCountsCard : Claim7 := { stood := { row := cpuCountsRow, standIns := [], harness := (true, "bd220f6371e34b9b9e24540febcd677c8de7384c4fae0106b73b2fe369ca2ce1"), looks := true }, kinds := [], alts := [], laidByText := true, laidKinds := [.handle], laidTests := true, laidLooks := .later }
def CpuCountsCardSaid : Prop := Claim7.holds Tryz.pinned (.plain (OpenSpec.ofChange cpuCountsSpec)) cpuCountsCard

/-- THE TIED CARD OF 'phosphorlaw25.CpuPicture'. -/
def cpuPictureCard : Claim7 := { stood := { row := cpuPictureRow, standIns := [], harness := (true, "bd220f6371e34b9b9e24540febcd677c8de7384c4fae0106b73b2fe369ca2ce1"), looks := true }, kinds := [], alts := [], laidByText := true, laidKinds := [.handle], laidTests := true, laidLooks := .later }
def CpuPictureCardSaid : Prop := Claim7.holds Tryz.pinned (.plain (OpenSpec.ofChange cpuPictureSpec)) cpuPictureCard

/-- THE TIED CARD OF 'phosphorlaw25.CpuSteps'. -/
def cpuStepsCard : Claim7 := { stood := { row := cpuStepsRow, standIns := [], harness := (true, "bd220f6371e34b9b9e24540febcd677c8de7384c4fae0106b73b2fe369ca2ce1"), looks := true }, kinds := [], alts := [], laidByText := true, laidKinds := [.handle], laidTests := true, laidLooks := .later }
def CpuStepsCardSaid : Prop := Claim7.holds Tryz.pinned (.plain (OpenSpec.ofChange cpuStepsSpec)) cpuStepsCard

/-- THE TIED CARD OF 'phosphorlaw25.CpuSpeeds'. -/
def cpuSpeedsCard : Claim7 := { stood := { row := cpuSpeedsRow, standIns := [], harness := (true, "bd220f6371e34b9b9e24540febcd677c8de7384c4fae0106b73b2fe369ca2ce1"), looks := true }, kinds := [], alts := [], laidByText := true, laidKinds := [.handle], laidTests := true, laidLooks := .later }
def CpuSpeedsCardSaid : Prop := Claim7.holds Tryz.pinned (.plain (OpenSpec.ofChange cpuSpeedsSpec)) cpuSpeedsCard

/-- THE TIED CARD OF 'phosphorlaw25.CpuStarts'. -/
def cpuStartsCard : Claim7 := { stood := { row := cpuStartsRow, standIns := [], harness := (true, "bd220f6371e34b9b9e24540febcd677c8de7384c4fae0106b73b2fe369ca2ce1"), looks := true }, kinds := [], alts := [], laidByText := true, laidKinds := [.handle], laidTests := true, laidLooks := .later }
def CpuStartsCardSaid : Prop := Claim7.holds Tryz.pinned (.plain (OpenSpec.ofChange cpuStartsSpec)) cpuStartsCard

/-- THE SECOND FORM's CARD OF 'phosphorlaw24.BusNobody'. -/
def busNobodyUptoCard : Claim7 := { stood := { row := busNobodyUptoRow, standIns := [], harness := (true, "bd220f6371e34b9b9e24540febcd677c8de7384c4fae0106b73b2fe369ca2ce1"), looks := true }, kinds := [], alts := [], laidByText := true, laidKinds := [.handle], laidTests := true, laidLooks := .later }
def BusNobodyUptoCardSaid : Prop := Claim7.holds Tryz.pinned (.plain (OpenSpec.upto busNobodySpec)) busNobodyUptoCard

/-- THE SECOND FORM's CARD OF 'phosphorlaw24.BusRam'. -/
def busRamUptoCard : Claim7 := { stood := { row := busRamUptoRow, standIns := [], harness := (true, "bd220f6371e34b9b9e24540febcd677c8de7384c4fae0106b73b2fe369ca2ce1"), looks := true }, kinds := [], alts := [], laidByText := true, laidKinds := [.handle], laidTests := true, laidLooks := .later }
def BusRamUptoCardSaid : Prop := Claim7.holds Tryz.pinned (.plain (OpenSpec.upto busRamSpec)) busRamUptoCard

/-- THE SECOND FORM's CARD OF 'phosphorlaw24.BusStatus'. -/
def busStatusUptoCard : Claim7 := { stood := { row := busStatusUptoRow, standIns := [], harness := (true, "bd220f6371e34b9b9e24540febcd677c8de7384c4fae0106b73b2fe369ca2ce1"), looks := true }, kinds := [], alts := [], laidByText := true, laidKinds := [.handle], laidTests := true, laidLooks := .later }
def BusStatusUptoCardSaid : Prop := Claim7.holds Tryz.pinned (.plain (OpenSpec.upto busStatusSpec)) busStatusUptoCard

/-- THE SECOND FORM's CARD OF 'phosphorlaw24.BusPicture'. -/
def busPictureUptoCard : Claim7 := { stood := { row := busPictureUptoRow, standIns := [], harness := (true, "bd220f6371e34b9b9e24540febcd677c8de7384c4fae0106b73b2fe369ca2ce1"), looks := true }, kinds := [], alts := [], laidByText := true, laidKinds := [.handle], laidTests := true, laidLooks := .later }
def BusPictureUptoCardSaid : Prop := Claim7.holds Tryz.pinned (.plain (OpenSpec.upto busPictureSpec)) busPictureUptoCard

/-- THE SECOND FORM's CARD OF 'phosphorlaw24.BusHolds'. -/
def busHoldsUptoCard : Claim7 := { stood := { row := busHoldsUptoRow, standIns := [], harness := (true, "bd220f6371e34b9b9e24540febcd677c8de7384c4fae0106b73b2fe369ca2ce1"), looks := true }, kinds := [], alts := [], laidByText := true, laidKinds := [.handle], laidTests := true, laidLooks := .later }
def BusHoldsUptoCardSaid : Prop := Claim7.holds Tryz.pinned (.plain (OpenSpec.upto busHoldsSpec)) busHoldsUptoCard

/-- THE SECOND FORM's CARD OF 'phosphorlaw24.BusClock'. -/
def busClockUptoCard : Claim7 := { stood := { row := busClockUptoRow, standIns := [], harness := (true, "bd220f6371e34b9b9e24540febcd677c8de7384c4fae0106b73b2fe369ca2ce1"), looks := true }, kinds := [], alts := [], laidByText := true, laidKinds := [.handle], laidTests := true, laidLooks := .later }
def BusClockUptoCardSaid : Prop := Claim7.holds Tryz.pinned (.plain (OpenSpec.upto busClockSpec)) busClockUptoCard

/-- THE SECOND FORM's CARD OF 'phosphorlaw24.BusPlays'. -/
def busPlaysUptoCard : Claim7 := { stood := { row := busPlaysUptoRow, standIns := [], harness := (true, "bd220f6371e34b9b9e24540febcd677c8de7384c4fae0106b73b2fe369ca2ce1"), looks := true }, kinds := [], alts := [], laidByText := true, laidKinds := [.handle], laidTests := true, laidLooks := .later }
def BusPlaysUptoCardSaid : Prop := Claim7.holds Tryz.pinned (.plain (OpenSpec.upto busPlaysSpec)) busPlaysUptoCard

/-- THE SECOND FORM's CARD OF 'phosphorlaw25.CpuSums'. -/
def cpuSumsUptoCard : Claim7 := { stood := { row := cpuSumsUptoRow, standIns := [], harness := (true, "bd220f6371e34b9b9e24540febcd677c8de7384c4fae0106b73b2fe369ca2ce1"), looks := true }, kinds := [], alts := [], laidByText := true, laidKinds := [.handle], laidTests := true, laidLooks := .later }
def CpuSumsUptoCardSaid : Prop := Claim7.holds Tryz.pinned (.plain (OpenSpec.upto cpuSumsSpec)) cpuSumsUptoCard

/-- THE SECOND FORM's CARD OF 'phosphorlaw25.CpuCalls'. -/
def cpuCallsUptoCard : Claim7 := { stood := { row := cpuCallsUptoRow, standIns := [], harness := (true, "bd220f6371e34b9b9e24540febcd677c8de7384c4fae0106b73b2fe369ca2ce1"), looks := true }, kinds := [], alts := [], laidByText := true, laidKinds := [.handle], laidTests := true, laidLooks := .later }
def CpuCallsUptoCardSaid : Prop := Claim7.holds Tryz.pinned (.plain (OpenSpec.upto cpuCallsSpec)) cpuCallsUptoCard

/-- THE SECOND FORM's CARD OF 'phosphorlaw25.CpuMoves'. -/
def cpuMovesUptoCard : Claim7 := { stood := { row := cpuMovesUptoRow, standIns := [], harness := (true, "bd220f6371e34b9b9e24540febcd677c8de7384c4fae0106b73b2fe369ca2ce1"), looks := true }, kinds := [], alts := [], laidByText := true, laidKinds := [.handle], laidTests := true, laidLooks := .later }
def CpuMovesUptoCardSaid : Prop := Claim7.holds Tryz.pinned (.plain (OpenSpec.upto cpuMovesSpec)) cpuMovesUptoCard

/-- THE SECOND FORM's CARD OF 'phosphorlaw25.CpuTakes'. -/
def cpuTakesUptoCard : Claim7 := { stood := { row := cpuTakesUptoRow, standIns := [], harness := (true, "bd220f6371e34b9b9e24540febcd677c8de7384c4fae0106b73b2fe369ca2ce1"), looks := true }, kinds := [], alts := [], laidByText := true, laidKinds := [.handle], laidTests := true, laidLooks := .later }
def CpuTakesUptoCardSaid : Prop := Claim7.holds Tryz.pinned (.plain (OpenSpec.upto cpuTakesSpec)) cpuTakesUptoCard

/-- THE SECOND FORM's CARD OF 'phosphorlaw25.CpuBranches'. -/
def cpuBranchesUptoCard : Claim7 := { stood := { row := cpuBranchesUptoRow, standIns := [], harness := (true, "bd220f6371e34b9b9e24540febcd677c8de7384c4fae0106b73b2fe369ca2ce1"), looks := true }, kinds := [], alts := [], laidByText := true, laidKinds := [.handle], laidTests := true, laidLooks := .later }
def CpuBranchesUptoCardSaid : Prop := Claim7.holds Tryz.pinned (.plain (OpenSpec.upto cpuBranchesSpec)) cpuBranchesUptoCard

/-- THE SECOND FORM's CARD OF 'phosphorlaw25.CpuBits'. -/
def cpuBitsUptoCard : Claim7 := { stood := { row := cpuBitsUptoRow, standIns := [], harness := (true, "bd220f6371e34b9b9e24540febcd677c8de7384c4fae0106b73b2fe369ca2ce1"), looks := true }, kinds := [], alts := [], laidByText := true, laidKinds := [.handle], laidTests := true, laidLooks := .later }
def CpuBitsUptoCardSaid : Prop := Claim7.holds Tryz.pinned (.plain (OpenSpec.upto cpuBitsSpec)) cpuBitsUptoCard

/-- THE SECOND FORM's CARD OF 'phosphorlaw25.CpuCounts'. -/
def cpuCountsUptoCard : Claim7 := { stood := { row := cpuCountsUptoRow, standIns := [], harness := (true, "bd220f6371e34b9b9e24540febcd677c8de7384c4fae0106b73b2fe369ca2ce1"), looks := true }, kinds := [], alts := [], laidByText := true, laidKinds := [.handle], laidTests := true, laidLooks := .later }
def CpuCountsUptoCardSaid : Prop := Claim7.holds Tryz.pinned (.plain (OpenSpec.upto cpuCountsSpec)) cpuCountsUptoCard

/-- THE SECOND FORM's CARD OF 'phosphorlaw25.CpuPicture'. -/
def cpuPictureUptoCard : Claim7 := { stood := { row := cpuPictureUptoRow, standIns := [], harness := (true, "bd220f6371e34b9b9e24540febcd677c8de7384c4fae0106b73b2fe369ca2ce1"), looks := true }, kinds := [], alts := [], laidByText := true, laidKinds := [.handle], laidTests := true, laidLooks := .later }
def CpuPictureUptoCardSaid : Prop := Claim7.holds Tryz.pinned (.plain (OpenSpec.upto cpuPictureSpec)) cpuPictureUptoCard

/-- THE SECOND FORM's CARD OF 'phosphorlaw25.CpuSteps'. -/
def cpuStepsUptoCard : Claim7 := { stood := { row := cpuStepsUptoRow, standIns := [], harness := (true, "bd220f6371e34b9b9e24540febcd677c8de7384c4fae0106b73b2fe369ca2ce1"), looks := true }, kinds := [], alts := [], laidByText := true, laidKinds := [.handle], laidTests := true, laidLooks := .later }
def CpuStepsUptoCardSaid : Prop := Claim7.holds Tryz.pinned (.plain (OpenSpec.upto cpuStepsSpec)) cpuStepsUptoCard

/-- THE SECOND FORM's CARD OF 'phosphorlaw25.CpuSpeeds'. -/
def cpuSpeedsUptoCard : Claim7 := { stood := { row := cpuSpeedsUptoRow, standIns := [], harness := (true, "bd220f6371e34b9b9e24540febcd677c8de7384c4fae0106b73b2fe369ca2ce1"), looks := true }, kinds := [], alts := [], laidByText := true, laidKinds := [.handle], laidTests := true, laidLooks := .later }
def CpuSpeedsUptoCardSaid : Prop := Claim7.holds Tryz.pinned (.plain (OpenSpec.upto cpuSpeedsSpec)) cpuSpeedsUptoCard

/-- THE SECOND FORM's CARD OF 'phosphorlaw25.CpuStarts'. -/
def cpuStartsUptoCard : Claim7 := { stood := { row := cpuStartsUptoRow, standIns := [], harness := (true, "bd220f6371e34b9b9e24540febcd677c8de7384c4fae0106b73b2fe369ca2ce1"), looks := true }, kinds := [], alts := [], laidByText := true, laidKinds := [.handle], laidTests := true, laidLooks := .later }
def CpuStartsUptoCardSaid : Prop := Claim7.holds Tryz.pinned (.plain (OpenSpec.upto cpuStartsSpec)) cpuStartsUptoCard
end Rows
end Go.Proofs.YtnllkgjmoipgbaaGreatDoor
