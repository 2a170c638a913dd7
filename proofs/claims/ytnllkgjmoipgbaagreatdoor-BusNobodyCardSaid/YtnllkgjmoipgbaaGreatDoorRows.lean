/-
  NARROWER THAN 'FOR EVERY INPUT', by the rows' own cells (each row's printed sentence says how): BusNobody: laid · BusRam: laid · BusStatus: laid · BusPicture: laid · BusHolds: laid · BusClock: laid · BusPlays: laid · CpuSums: laid · CpuCalls: laid · CpuMoves: laid · CpuTakes: laid · CpuBranches: laid · CpuBits: laid · CpuCounts: laid · CpuPicture: laid · CpuSteps: laid · CpuSpeeds: laid · CpuStarts: laid.
  DERIVED. THE GIVEN ROWS OF THIS SEAT. 18 by the template 'for every input the law returns true; each argument reads behind the call as it read before'; 0 by the template 'total and deterministic' (their statements: YtnllkgjmoipgbaaGreatDoorTotals.lean).
  GIVEN WITH THE SEED: the statements are not yours to turn. If you find one false, say at which input.
  Laid BY PROGRAM, IN A SANDBOX (cutbox-rows.mjs): the forced cells as the released guide's own fill.sh prints them over the translation aacfa8be8eb957e3… (all of the seat's roots in one cut). By AI agents, Wed Nov 11 2026. No macro, syntax, notation, axiom, sorry.
-/
import Derived.Test.YtnllkgjmoipgbaaGreatDoorChecked
import GoSem.Claim
import GoSem.ClaimJoined
import GoSem.ClaimMapViews
import Derived.JoinedTies
import Derived.KernelRfl
namespace Go.Proofs.YtnllkgjmoipgbaaGreatDoor
/- THE CELL 'sum', in the pinned program and in every row, IS THE sha256 OF THE DUMP (.gsa) THAT YtnllkgjmoipgbaaGreatDoorProg.lean LOADS. Nothing in Lean hashes anything: it is a label: what it is worth is what the hold of that sum in a sandbox is worth. -/
noncomputable def Tryz.pinned : Pinned := { name := "ytnllkgjmoipgbaagreatdoor", sum := "aacfa8be8eb957e338431886da7d443f7aa2c09ed90137d75bdbf1d31ba0ff76", checked := Tryz.checked }
namespace Rows
def none {H : Type} : Left H := { results := [], args := [] }

/- WHAT THE LISTED PACKAGE-LEVEL VARIABLES READ AS WHEN THE CALL BEGINS. Each datum BY PROGRAM (the guide's laid-datum.mjs) off the statement by which the dump's own 'gosem.cut.vars' lays the variable. In a bare row this is a premise. The card (YtnllkgjmoipgbaaGreatDoorCards.lean) ties it to the program's text. -/
def laid_errors_errorType {H : Type} : DataW H := .iface "internal/reflectlite.rtype" (.agg [.ptr (.lit (.string [101, 114, 114, 111, 114]))])

/-- 'phosphorlaw24.BusNobody': WHATEVER THE INPUT: true; the input reads as it did. -/
def busNobodySpec : ChangeSpec := { name := "busNobody", fn := fun _ => fun
  | [d1, d2] => { results := [.lit (.bool true)], args := [d1, d2] }
  | _ => none }
def busNobodyRow : OpenClaim := { program := "ytnllkgjmoipgbaagreatdoor", sum := "aacfa8be8eb957e338431886da7d443f7aa2c09ed90137d75bdbf1d31ba0ff76", func := "phosphor/phosphorlaw24.BusNobody", spec := "busNobody", inPlace := ["internal/reflectlite.ValueOf", "(internal/reflectlite.Value).Type", "(internal/reflectlite.Value).IsNil", "internal/reflectlite.TypeOf", "(internal/reflectlite.Value).Elem", "(internal/reflectlite.Value).Set"], unfollowed := true, recurses := true, named := ["errors.errorType"], apart := false, laid := [("errors.errorType", laid_errors_errorType)] }
def BusNobodySaid : Prop := busNobodyRow.holds Tryz.pinned (OpenSpec.ofChange busNobodySpec)

/-- ITS FALSE NEIGHBOUR: 'it returns false'. Refute it at one input. -/
def busNobodyWrong : ChangeSpec := { name := "busNobody", fn := fun _ => fun
  | [d1, d2] => { results := [.lit (.bool false)], args := [d1, d2] }
  | _ => none }
def BusNobodyWrongFalsely : Prop := busNobodyRow.holds Tryz.pinned (OpenSpec.ofChange busNobodyWrong)

/-- 'phosphorlaw24.BusRam': WHATEVER THE INPUT: true; the input reads as it did. -/
def busRamSpec : ChangeSpec := { name := "busRam", fn := fun _ => fun
  | [d1, d2, d3] => { results := [.lit (.bool true)], args := [d1, d2, d3] }
  | _ => none }
def busRamRow : OpenClaim := { program := "ytnllkgjmoipgbaagreatdoor", sum := "aacfa8be8eb957e338431886da7d443f7aa2c09ed90137d75bdbf1d31ba0ff76", func := "phosphor/phosphorlaw24.BusRam", spec := "busRam", inPlace := ["internal/reflectlite.ValueOf", "(internal/reflectlite.Value).Type", "(internal/reflectlite.Value).IsNil", "internal/reflectlite.TypeOf", "(internal/reflectlite.Value).Elem", "(internal/reflectlite.Value).Set"], unfollowed := true, recurses := true, named := ["errors.errorType"], apart := false, laid := [("errors.errorType", laid_errors_errorType)] }
def BusRamSaid : Prop := busRamRow.holds Tryz.pinned (OpenSpec.ofChange busRamSpec)

/-- ITS FALSE NEIGHBOUR: 'it returns false'. Refute it at one input. -/
def busRamWrong : ChangeSpec := { name := "busRam", fn := fun _ => fun
  | [d1, d2, d3] => { results := [.lit (.bool false)], args := [d1, d2, d3] }
  | _ => none }
def BusRamWrongFalsely : Prop := busRamRow.holds Tryz.pinned (OpenSpec.ofChange busRamWrong)

/-- 'phosphorlaw24.BusStatus': WHATEVER THE INPUT: true; the input reads as it did. -/
def busStatusSpec : ChangeSpec := { name := "busStatus", fn := fun _ => fun
  | [d1, d2] => { results := [.lit (.bool true)], args := [d1, d2] }
  | _ => none }
def busStatusRow : OpenClaim := { program := "ytnllkgjmoipgbaagreatdoor", sum := "aacfa8be8eb957e338431886da7d443f7aa2c09ed90137d75bdbf1d31ba0ff76", func := "phosphor/phosphorlaw24.BusStatus", spec := "busStatus", inPlace := ["internal/reflectlite.ValueOf", "(internal/reflectlite.Value).Type", "(internal/reflectlite.Value).IsNil", "internal/reflectlite.TypeOf", "(internal/reflectlite.Value).Elem", "(internal/reflectlite.Value).Set"], unfollowed := true, recurses := true, named := ["errors.errorType"], apart := false, laid := [("errors.errorType", laid_errors_errorType)] }
def BusStatusSaid : Prop := busStatusRow.holds Tryz.pinned (OpenSpec.ofChange busStatusSpec)

/-- ITS FALSE NEIGHBOUR: 'it returns false'. Refute it at one input. -/
def busStatusWrong : ChangeSpec := { name := "busStatus", fn := fun _ => fun
  | [d1, d2] => { results := [.lit (.bool false)], args := [d1, d2] }
  | _ => none }
def BusStatusWrongFalsely : Prop := busStatusRow.holds Tryz.pinned (OpenSpec.ofChange busStatusWrong)

/-- 'phosphorlaw24.BusPicture': WHATEVER THE INPUT: true; the input reads as it did. -/
def busPictureSpec : ChangeSpec := { name := "busPicture", fn := fun _ => fun
  | [d1, d2, d3] => { results := [.lit (.bool true)], args := [d1, d2, d3] }
  | _ => none }
def busPictureRow : OpenClaim := { program := "ytnllkgjmoipgbaagreatdoor", sum := "aacfa8be8eb957e338431886da7d443f7aa2c09ed90137d75bdbf1d31ba0ff76", func := "phosphor/phosphorlaw24.BusPicture", spec := "busPicture", inPlace := ["internal/reflectlite.ValueOf", "(internal/reflectlite.Value).Type", "(internal/reflectlite.Value).IsNil", "internal/reflectlite.TypeOf", "(internal/reflectlite.Value).Elem", "(internal/reflectlite.Value).Set"], unfollowed := true, recurses := true, named := ["errors.errorType"], apart := false, laid := [("errors.errorType", laid_errors_errorType)] }
def BusPictureSaid : Prop := busPictureRow.holds Tryz.pinned (OpenSpec.ofChange busPictureSpec)

/-- ITS FALSE NEIGHBOUR: 'it returns false'. Refute it at one input. -/
def busPictureWrong : ChangeSpec := { name := "busPicture", fn := fun _ => fun
  | [d1, d2, d3] => { results := [.lit (.bool false)], args := [d1, d2, d3] }
  | _ => none }
def BusPictureWrongFalsely : Prop := busPictureRow.holds Tryz.pinned (OpenSpec.ofChange busPictureWrong)

/-- 'phosphorlaw24.BusHolds': WHATEVER THE INPUT: true; the input reads as it did. -/
def busHoldsSpec : ChangeSpec := { name := "busHolds", fn := fun _ => fun
  | [d1, d2, d3] => { results := [.lit (.bool true)], args := [d1, d2, d3] }
  | _ => none }
def busHoldsRow : OpenClaim := { program := "ytnllkgjmoipgbaagreatdoor", sum := "aacfa8be8eb957e338431886da7d443f7aa2c09ed90137d75bdbf1d31ba0ff76", func := "phosphor/phosphorlaw24.BusHolds", spec := "busHolds", inPlace := ["internal/reflectlite.ValueOf", "(internal/reflectlite.Value).Type", "(internal/reflectlite.Value).IsNil", "internal/reflectlite.TypeOf", "(internal/reflectlite.Value).Elem", "(internal/reflectlite.Value).Set"], unfollowed := true, recurses := true, named := ["errors.errorType"], apart := false, laid := [("errors.errorType", laid_errors_errorType)] }
def BusHoldsSaid : Prop := busHoldsRow.holds Tryz.pinned (OpenSpec.ofChange busHoldsSpec)

/-- ITS FALSE NEIGHBOUR: 'it returns false'. Refute it at one input. -/
def busHoldsWrong : ChangeSpec := { name := "busHolds", fn := fun _ => fun
  | [d1, d2, d3] => { results := [.lit (.bool false)], args := [d1, d2, d3] }
  | _ => none }
def BusHoldsWrongFalsely : Prop := busHoldsRow.holds Tryz.pinned (OpenSpec.ofChange busHoldsWrong)

/-- 'phosphorlaw24.BusClock': WHATEVER THE INPUT: true; the input reads as it did. -/
def busClockSpec : ChangeSpec := { name := "busClock", fn := fun _ => fun
  | [d1, d2, d3] => { results := [.lit (.bool true)], args := [d1, d2, d3] }
  | _ => none }
def busClockRow : OpenClaim := { program := "ytnllkgjmoipgbaagreatdoor", sum := "aacfa8be8eb957e338431886da7d443f7aa2c09ed90137d75bdbf1d31ba0ff76", func := "phosphor/phosphorlaw24.BusClock", spec := "busClock", inPlace := ["internal/reflectlite.ValueOf", "(internal/reflectlite.Value).Type", "(internal/reflectlite.Value).IsNil", "internal/reflectlite.TypeOf", "(internal/reflectlite.Value).Elem", "(internal/reflectlite.Value).Set"], unfollowed := true, recurses := true, named := ["errors.errorType"], apart := false, laid := [("errors.errorType", laid_errors_errorType)] }
def BusClockSaid : Prop := busClockRow.holds Tryz.pinned (OpenSpec.ofChange busClockSpec)

/-- ITS FALSE NEIGHBOUR: 'it returns false'. Refute it at one input. -/
def busClockWrong : ChangeSpec := { name := "busClock", fn := fun _ => fun
  | [d1, d2, d3] => { results := [.lit (.bool false)], args := [d1, d2, d3] }
  | _ => none }
def BusClockWrongFalsely : Prop := busClockRow.holds Tryz.pinned (OpenSpec.ofChange busClockWrong)

/-- 'phosphorlaw24.BusPlays': WHATEVER THE INPUT: true; the input reads as it did. -/
def busPlaysSpec : ChangeSpec := { name := "busPlays", fn := fun _ => fun
  | [d1, d2, d3] => { results := [.lit (.bool true)], args := [d1, d2, d3] }
  | _ => none }
def busPlaysRow : OpenClaim := { program := "ytnllkgjmoipgbaagreatdoor", sum := "aacfa8be8eb957e338431886da7d443f7aa2c09ed90137d75bdbf1d31ba0ff76", func := "phosphor/phosphorlaw24.BusPlays", spec := "busPlays", inPlace := ["internal/reflectlite.ValueOf", "(internal/reflectlite.Value).Type", "(internal/reflectlite.Value).IsNil", "internal/reflectlite.TypeOf", "(internal/reflectlite.Value).Elem", "(internal/reflectlite.Value).Set"], unfollowed := true, recurses := true, named := ["errors.errorType"], apart := false, laid := [("errors.errorType", laid_errors_errorType)] }
def BusPlaysSaid : Prop := busPlaysRow.holds Tryz.pinned (OpenSpec.ofChange busPlaysSpec)

/-- ITS FALSE NEIGHBOUR: 'it returns false'. Refute it at one input. -/
def busPlaysWrong : ChangeSpec := { name := "busPlays", fn := fun _ => fun
  | [d1, d2, d3] => { results := [.lit (.bool false)], args := [d1, d2, d3] }
  | _ => none }
def BusPlaysWrongFalsely : Prop := busPlaysRow.holds Tryz.pinned (OpenSpec.ofChange busPlaysWrong)

/-- 'phosphorlaw25.CpuSums': WHATEVER THE INPUT: true; the input reads as it did. -/
def cpuSumsSpec : ChangeSpec := { name := "cpuSums", fn := fun _ => fun
  | [d1, d2, d3] => { results := [.lit (.bool true)], args := [d1, d2, d3] }
  | _ => none }
def cpuSumsRow : OpenClaim := { program := "ytnllkgjmoipgbaagreatdoor", sum := "aacfa8be8eb957e338431886da7d443f7aa2c09ed90137d75bdbf1d31ba0ff76", func := "phosphor/phosphorlaw25.CpuSums", spec := "cpuSums", inPlace := ["internal/reflectlite.ValueOf", "(internal/reflectlite.Value).Type", "(internal/reflectlite.Value).IsNil", "internal/reflectlite.TypeOf", "(internal/reflectlite.Value).Elem", "(internal/reflectlite.Value).Set"], unfollowed := true, recurses := true, named := ["errors.errorType"], apart := false, laid := [("errors.errorType", laid_errors_errorType)] }
def CpuSumsSaid : Prop := cpuSumsRow.holds Tryz.pinned (OpenSpec.ofChange cpuSumsSpec)

/-- ITS FALSE NEIGHBOUR: 'it returns false'. Refute it at one input. -/
def cpuSumsWrong : ChangeSpec := { name := "cpuSums", fn := fun _ => fun
  | [d1, d2, d3] => { results := [.lit (.bool false)], args := [d1, d2, d3] }
  | _ => none }
def CpuSumsWrongFalsely : Prop := cpuSumsRow.holds Tryz.pinned (OpenSpec.ofChange cpuSumsWrong)

/-- 'phosphorlaw25.CpuCalls': WHATEVER THE INPUT: true; the input reads as it did. -/
def cpuCallsSpec : ChangeSpec := { name := "cpuCalls", fn := fun _ => fun
  | [d1, d2, d3] => { results := [.lit (.bool true)], args := [d1, d2, d3] }
  | _ => none }
def cpuCallsRow : OpenClaim := { program := "ytnllkgjmoipgbaagreatdoor", sum := "aacfa8be8eb957e338431886da7d443f7aa2c09ed90137d75bdbf1d31ba0ff76", func := "phosphor/phosphorlaw25.CpuCalls", spec := "cpuCalls", inPlace := ["internal/reflectlite.ValueOf", "(internal/reflectlite.Value).Type", "(internal/reflectlite.Value).IsNil", "internal/reflectlite.TypeOf", "(internal/reflectlite.Value).Elem", "(internal/reflectlite.Value).Set"], unfollowed := true, recurses := true, named := ["errors.errorType"], apart := false, laid := [("errors.errorType", laid_errors_errorType)] }
def CpuCallsSaid : Prop := cpuCallsRow.holds Tryz.pinned (OpenSpec.ofChange cpuCallsSpec)

/-- ITS FALSE NEIGHBOUR: 'it returns false'. Refute it at one input. -/
def cpuCallsWrong : ChangeSpec := { name := "cpuCalls", fn := fun _ => fun
  | [d1, d2, d3] => { results := [.lit (.bool false)], args := [d1, d2, d3] }
  | _ => none }
def CpuCallsWrongFalsely : Prop := cpuCallsRow.holds Tryz.pinned (OpenSpec.ofChange cpuCallsWrong)

/-- 'phosphorlaw25.CpuMoves': WHATEVER THE INPUT: true; the input reads as it did. -/
def cpuMovesSpec : ChangeSpec := { name := "cpuMoves", fn := fun _ => fun
  | [d1, d2, d3] => { results := [.lit (.bool true)], args := [d1, d2, d3] }
  | _ => none }
def cpuMovesRow : OpenClaim := { program := "ytnllkgjmoipgbaagreatdoor", sum := "aacfa8be8eb957e338431886da7d443f7aa2c09ed90137d75bdbf1d31ba0ff76", func := "phosphor/phosphorlaw25.CpuMoves", spec := "cpuMoves", inPlace := ["internal/reflectlite.ValueOf", "(internal/reflectlite.Value).Type", "(internal/reflectlite.Value).IsNil", "internal/reflectlite.TypeOf", "(internal/reflectlite.Value).Elem", "(internal/reflectlite.Value).Set"], unfollowed := true, recurses := true, named := ["errors.errorType"], apart := false, laid := [("errors.errorType", laid_errors_errorType)] }
def CpuMovesSaid : Prop := cpuMovesRow.holds Tryz.pinned (OpenSpec.ofChange cpuMovesSpec)

/-- ITS FALSE NEIGHBOUR: 'it returns false'. Refute it at one input. -/
def cpuMovesWrong : ChangeSpec := { name := "cpuMoves", fn := fun _ => fun
  | [d1, d2, d3] => { results := [.lit (.bool false)], args := [d1, d2, d3] }
  | _ => none }
def CpuMovesWrongFalsely : Prop := cpuMovesRow.holds Tryz.pinned (OpenSpec.ofChange cpuMovesWrong)

/-- 'phosphorlaw25.CpuTakes': WHATEVER THE INPUT: true; the input reads as it did. -/
def cpuTakesSpec : ChangeSpec := { name := "cpuTakes", fn := fun _ => fun
  | [d1, d2, d3] => { results := [.lit (.bool true)], args := [d1, d2, d3] }
  | _ => none }
def cpuTakesRow : OpenClaim := { program := "ytnllkgjmoipgbaagreatdoor", sum := "aacfa8be8eb957e338431886da7d443f7aa2c09ed90137d75bdbf1d31ba0ff76", func := "phosphor/phosphorlaw25.CpuTakes", spec := "cpuTakes", inPlace := ["internal/reflectlite.ValueOf", "(internal/reflectlite.Value).Type", "(internal/reflectlite.Value).IsNil", "internal/reflectlite.TypeOf", "(internal/reflectlite.Value).Elem", "(internal/reflectlite.Value).Set"], unfollowed := true, recurses := true, named := ["errors.errorType"], apart := false, laid := [("errors.errorType", laid_errors_errorType)] }
def CpuTakesSaid : Prop := cpuTakesRow.holds Tryz.pinned (OpenSpec.ofChange cpuTakesSpec)

/-- ITS FALSE NEIGHBOUR: 'it returns false'. Refute it at one input. -/
def cpuTakesWrong : ChangeSpec := { name := "cpuTakes", fn := fun _ => fun
  | [d1, d2, d3] => { results := [.lit (.bool false)], args := [d1, d2, d3] }
  | _ => none }
def CpuTakesWrongFalsely : Prop := cpuTakesRow.holds Tryz.pinned (OpenSpec.ofChange cpuTakesWrong)

/-- 'phosphorlaw25.CpuBranches': WHATEVER THE INPUT: true; the input reads as it did. -/
def cpuBranchesSpec : ChangeSpec := { name := "cpuBranches", fn := fun _ => fun
  | [d1, d2, d3] => { results := [.lit (.bool true)], args := [d1, d2, d3] }
  | _ => none }
def cpuBranchesRow : OpenClaim := { program := "ytnllkgjmoipgbaagreatdoor", sum := "aacfa8be8eb957e338431886da7d443f7aa2c09ed90137d75bdbf1d31ba0ff76", func := "phosphor/phosphorlaw25.CpuBranches", spec := "cpuBranches", inPlace := ["internal/reflectlite.ValueOf", "(internal/reflectlite.Value).Type", "(internal/reflectlite.Value).IsNil", "internal/reflectlite.TypeOf", "(internal/reflectlite.Value).Elem", "(internal/reflectlite.Value).Set"], unfollowed := true, recurses := true, named := ["errors.errorType"], apart := false, laid := [("errors.errorType", laid_errors_errorType)] }
def CpuBranchesSaid : Prop := cpuBranchesRow.holds Tryz.pinned (OpenSpec.ofChange cpuBranchesSpec)

/-- ITS FALSE NEIGHBOUR: 'it returns false'. Refute it at one input. -/
def cpuBranchesWrong : ChangeSpec := { name := "cpuBranches", fn := fun _ => fun
  | [d1, d2, d3] => { results := [.lit (.bool false)], args := [d1, d2, d3] }
  | _ => none }
def CpuBranchesWrongFalsely : Prop := cpuBranchesRow.holds Tryz.pinned (OpenSpec.ofChange cpuBranchesWrong)

/-- 'phosphorlaw25.CpuBits': WHATEVER THE INPUT: true; the input reads as it did. -/
def cpuBitsSpec : ChangeSpec := { name := "cpuBits", fn := fun _ => fun
  | [d1, d2, d3] => { results := [.lit (.bool true)], args := [d1, d2, d3] }
  | _ => none }
def cpuBitsRow : OpenClaim := { program := "ytnllkgjmoipgbaagreatdoor", sum := "aacfa8be8eb957e338431886da7d443f7aa2c09ed90137d75bdbf1d31ba0ff76", func := "phosphor/phosphorlaw25.CpuBits", spec := "cpuBits", inPlace := ["internal/reflectlite.ValueOf", "(internal/reflectlite.Value).Type", "(internal/reflectlite.Value).IsNil", "internal/reflectlite.TypeOf", "(internal/reflectlite.Value).Elem", "(internal/reflectlite.Value).Set"], unfollowed := true, recurses := true, named := ["errors.errorType"], apart := false, laid := [("errors.errorType", laid_errors_errorType)] }
def CpuBitsSaid : Prop := cpuBitsRow.holds Tryz.pinned (OpenSpec.ofChange cpuBitsSpec)

/-- ITS FALSE NEIGHBOUR: 'it returns false'. Refute it at one input. -/
def cpuBitsWrong : ChangeSpec := { name := "cpuBits", fn := fun _ => fun
  | [d1, d2, d3] => { results := [.lit (.bool false)], args := [d1, d2, d3] }
  | _ => none }
def CpuBitsWrongFalsely : Prop := cpuBitsRow.holds Tryz.pinned (OpenSpec.ofChange cpuBitsWrong)

/-- 'phosphorlaw25.CpuCounts': WHATEVER THE INPUT: true; the input reads as it did. -/
def cpuCountsSpec : ChangeSpec := { name := "cpuCounts", fn := fun _ => fun
  | [d] => { results := [.lit (.bool true)], args := [d] }
  | _ => none }
def cpuCountsRow : OpenClaim := { program := "ytnllkgjmoipgbaagreatdoor", sum := "aacfa8be8eb957e338431886da7d443f7aa2c09ed90137d75bdbf1d31ba0ff76", func := "phosphor/phosphorlaw25.CpuCounts", spec := "cpuCounts", inPlace := ["internal/reflectlite.ValueOf", "(internal/reflectlite.Value).Type", "(internal/reflectlite.Value).IsNil", "internal/reflectlite.TypeOf", "(internal/reflectlite.Value).Elem", "(internal/reflectlite.Value).Set"], unfollowed := true, recurses := true, named := ["errors.errorType"], apart := false, laid := [("errors.errorType", laid_errors_errorType)] }
def CpuCountsSaid : Prop := cpuCountsRow.holds Tryz.pinned (OpenSpec.ofChange cpuCountsSpec)

/-- ITS FALSE NEIGHBOUR: 'it returns false'. Refute it at one input. -/
def cpuCountsWrong : ChangeSpec := { name := "cpuCounts", fn := fun _ => fun
  | [d] => { results := [.lit (.bool false)], args := [d] }
  | _ => none }
def CpuCountsWrongFalsely : Prop := cpuCountsRow.holds Tryz.pinned (OpenSpec.ofChange cpuCountsWrong)

/-- 'phosphorlaw25.CpuPicture': WHATEVER THE INPUT: true; the input reads as it did. -/
def cpuPictureSpec : ChangeSpec := { name := "cpuPicture", fn := fun _ => fun
  | [d1, d2, d3] => { results := [.lit (.bool true)], args := [d1, d2, d3] }
  | _ => none }
def cpuPictureRow : OpenClaim := { program := "ytnllkgjmoipgbaagreatdoor", sum := "aacfa8be8eb957e338431886da7d443f7aa2c09ed90137d75bdbf1d31ba0ff76", func := "phosphor/phosphorlaw25.CpuPicture", spec := "cpuPicture", inPlace := ["internal/reflectlite.ValueOf", "(internal/reflectlite.Value).Type", "(internal/reflectlite.Value).IsNil", "internal/reflectlite.TypeOf", "(internal/reflectlite.Value).Elem", "(internal/reflectlite.Value).Set"], unfollowed := true, recurses := true, named := ["errors.errorType"], apart := false, laid := [("errors.errorType", laid_errors_errorType)] }
def CpuPictureSaid : Prop := cpuPictureRow.holds Tryz.pinned (OpenSpec.ofChange cpuPictureSpec)

/-- ITS FALSE NEIGHBOUR: 'it returns false'. Refute it at one input. -/
def cpuPictureWrong : ChangeSpec := { name := "cpuPicture", fn := fun _ => fun
  | [d1, d2, d3] => { results := [.lit (.bool false)], args := [d1, d2, d3] }
  | _ => none }
def CpuPictureWrongFalsely : Prop := cpuPictureRow.holds Tryz.pinned (OpenSpec.ofChange cpuPictureWrong)

/-- 'phosphorlaw25.CpuSteps': WHATEVER THE INPUT: true; the input reads as it did. -/
def cpuStepsSpec : ChangeSpec := { name := "cpuSteps", fn := fun _ => fun
  | [d1, d2] => { results := [.lit (.bool true)], args := [d1, d2] }
  | _ => none }
def cpuStepsRow : OpenClaim := { program := "ytnllkgjmoipgbaagreatdoor", sum := "aacfa8be8eb957e338431886da7d443f7aa2c09ed90137d75bdbf1d31ba0ff76", func := "phosphor/phosphorlaw25.CpuSteps", spec := "cpuSteps", inPlace := ["internal/reflectlite.ValueOf", "(internal/reflectlite.Value).Type", "(internal/reflectlite.Value).IsNil", "internal/reflectlite.TypeOf", "(internal/reflectlite.Value).Elem", "(internal/reflectlite.Value).Set"], unfollowed := true, recurses := true, named := ["errors.errorType"], apart := false, laid := [("errors.errorType", laid_errors_errorType)] }
def CpuStepsSaid : Prop := cpuStepsRow.holds Tryz.pinned (OpenSpec.ofChange cpuStepsSpec)

/-- ITS FALSE NEIGHBOUR: 'it returns false'. Refute it at one input. -/
def cpuStepsWrong : ChangeSpec := { name := "cpuSteps", fn := fun _ => fun
  | [d1, d2] => { results := [.lit (.bool false)], args := [d1, d2] }
  | _ => none }
def CpuStepsWrongFalsely : Prop := cpuStepsRow.holds Tryz.pinned (OpenSpec.ofChange cpuStepsWrong)

/-- 'phosphorlaw25.CpuSpeeds': WHATEVER THE INPUT: true; the input reads as it did. -/
def cpuSpeedsSpec : ChangeSpec := { name := "cpuSpeeds", fn := fun _ => fun
  | [d1, d2] => { results := [.lit (.bool true)], args := [d1, d2] }
  | _ => none }
def cpuSpeedsRow : OpenClaim := { program := "ytnllkgjmoipgbaagreatdoor", sum := "aacfa8be8eb957e338431886da7d443f7aa2c09ed90137d75bdbf1d31ba0ff76", func := "phosphor/phosphorlaw25.CpuSpeeds", spec := "cpuSpeeds", inPlace := ["internal/reflectlite.ValueOf", "(internal/reflectlite.Value).Type", "(internal/reflectlite.Value).IsNil", "internal/reflectlite.TypeOf", "(internal/reflectlite.Value).Elem", "(internal/reflectlite.Value).Set"], unfollowed := true, recurses := true, named := ["errors.errorType"], apart := false, laid := [("errors.errorType", laid_errors_errorType)] }
def CpuSpeedsSaid : Prop := cpuSpeedsRow.holds Tryz.pinned (OpenSpec.ofChange cpuSpeedsSpec)

/-- ITS FALSE NEIGHBOUR: 'it returns false'. Refute it at one input. -/
def cpuSpeedsWrong : ChangeSpec := { name := "cpuSpeeds", fn := fun _ => fun
  | [d1, d2] => { results := [.lit (.bool false)], args := [d1, d2] }
  | _ => none }
def CpuSpeedsWrongFalsely : Prop := cpuSpeedsRow.holds Tryz.pinned (OpenSpec.ofChange cpuSpeedsWrong)

/-- 'phosphorlaw25.CpuStarts': WHATEVER THE INPUT: true; the input reads as it did. -/
def cpuStartsSpec : ChangeSpec := { name := "cpuStarts", fn := fun _ => fun
  | [d1, d2, d3] => { results := [.lit (.bool true)], args := [d1, d2, d3] }
  | _ => none }
def cpuStartsRow : OpenClaim := { program := "ytnllkgjmoipgbaagreatdoor", sum := "aacfa8be8eb957e338431886da7d443f7aa2c09ed90137d75bdbf1d31ba0ff76", func := "phosphor/phosphorlaw25.CpuStarts", spec := "cpuStarts", inPlace := ["internal/reflectlite.ValueOf", "(internal/reflectlite.Value).Type", "(internal/reflectlite.Value).IsNil", "internal/reflectlite.TypeOf", "(internal/reflectlite.Value).Elem", "(internal/reflectlite.Value).Set"], unfollowed := true, recurses := true, named := ["errors.errorType"], apart := false, laid := [("errors.errorType", laid_errors_errorType)] }
def CpuStartsSaid : Prop := cpuStartsRow.holds Tryz.pinned (OpenSpec.ofChange cpuStartsSpec)

/-- ITS FALSE NEIGHBOUR: 'it returns false'. Refute it at one input. -/
def cpuStartsWrong : ChangeSpec := { name := "cpuStarts", fn := fun _ => fun
  | [d1, d2, d3] => { results := [.lit (.bool false)], args := [d1, d2, d3] }
  | _ => none }
def CpuStartsWrongFalsely : Prop := cpuStartsRow.holds Tryz.pinned (OpenSpec.ofChange cpuStartsWrong)

/- THE SECOND FORM. 'bulk': how many values and letters a reading holds, each counted each time it is reached (what is shared counts as often as it is met; a slice's spare places count too). A statement '..UptoSaid' is the law's where the arguments, and the package variables that the reading takes, are together of bulk at most 1048576: NARROWER than '..Said'. Prove '..Said' where nothing that the law and all that it calls make is longer than what came in: it says more and counts as full. Else prove '..UptoSaid'. A law counts once. -/
mutual
def uptoBulk {H : Type} : DataW H → Nat
  | .lit (.string bytes) => bytes.length + 1
  | .lit _ => 1
  | .nil => 1
  | .ptr d => uptoBulk d + 1
  | .slice elems spare => uptoBulkAll elems + uptoBulkAll spare + 1
  | .agg parts => uptoBulkAll parts + 1
  | .iface _ d => uptoBulk d + 1
  | .map entries => uptoBulkEntries entries + 1
  | .held _ => 1
def uptoBulkAll {H : Type} : List (DataW H) → Nat
  | [] => 0
  | d :: r => uptoBulk d + uptoBulkAll r
def uptoBulkEntries {H : Type} : List (Lit × DataW H) → Nat
  | [] => 0
  | x :: r => uptoBulkEntry x + uptoBulkEntries r
def uptoBulkEntry {H : Type} : Lit × DataW H → Nat
  | (.string bytes, d) => bytes.length + uptoBulk d + 1
  | (_, d) => uptoBulk d + 1
 end
def uptoSmall : (H : Type) → List (DataW H) → Bool := fun _ ds => decide (uptoBulkAll ds ≤ 1048576)
def OpenSpec.upto (s : _root_.Go.ChangeSpec) : _root_.Go.OpenSpec := { _root_.Go.OpenSpec.ofChange s with cond := some uptoSmall }

/-- 'phosphorlaw24.BusNobody', WHERE WHAT IT READS IS OF BULK AT MOST 1048576: true; the input reads as it did. -/
def busNobodyUptoRow : OpenClaim := { program := "ytnllkgjmoipgbaagreatdoor", sum := "aacfa8be8eb957e338431886da7d443f7aa2c09ed90137d75bdbf1d31ba0ff76", func := "phosphor/phosphorlaw24.BusNobody", spec := "busNobody", inPlace := ["internal/reflectlite.ValueOf", "(internal/reflectlite.Value).Type", "(internal/reflectlite.Value).IsNil", "internal/reflectlite.TypeOf", "(internal/reflectlite.Value).Elem", "(internal/reflectlite.Value).Set"], unfollowed := true, recurses := true, named := ["errors.errorType"], apart := false, laid := [("errors.errorType", laid_errors_errorType)], narrowed := true }
def BusNobodyUptoSaid : Prop := busNobodyUptoRow.holds Tryz.pinned (OpenSpec.upto busNobodySpec)

/-- 'phosphorlaw24.BusRam', WHERE WHAT IT READS IS OF BULK AT MOST 1048576: true; the input reads as it did. -/
def busRamUptoRow : OpenClaim := { program := "ytnllkgjmoipgbaagreatdoor", sum := "aacfa8be8eb957e338431886da7d443f7aa2c09ed90137d75bdbf1d31ba0ff76", func := "phosphor/phosphorlaw24.BusRam", spec := "busRam", inPlace := ["internal/reflectlite.ValueOf", "(internal/reflectlite.Value).Type", "(internal/reflectlite.Value).IsNil", "internal/reflectlite.TypeOf", "(internal/reflectlite.Value).Elem", "(internal/reflectlite.Value).Set"], unfollowed := true, recurses := true, named := ["errors.errorType"], apart := false, laid := [("errors.errorType", laid_errors_errorType)], narrowed := true }
def BusRamUptoSaid : Prop := busRamUptoRow.holds Tryz.pinned (OpenSpec.upto busRamSpec)

/-- 'phosphorlaw24.BusStatus', WHERE WHAT IT READS IS OF BULK AT MOST 1048576: true; the input reads as it did. -/
def busStatusUptoRow : OpenClaim := { program := "ytnllkgjmoipgbaagreatdoor", sum := "aacfa8be8eb957e338431886da7d443f7aa2c09ed90137d75bdbf1d31ba0ff76", func := "phosphor/phosphorlaw24.BusStatus", spec := "busStatus", inPlace := ["internal/reflectlite.ValueOf", "(internal/reflectlite.Value).Type", "(internal/reflectlite.Value).IsNil", "internal/reflectlite.TypeOf", "(internal/reflectlite.Value).Elem", "(internal/reflectlite.Value).Set"], unfollowed := true, recurses := true, named := ["errors.errorType"], apart := false, laid := [("errors.errorType", laid_errors_errorType)], narrowed := true }
def BusStatusUptoSaid : Prop := busStatusUptoRow.holds Tryz.pinned (OpenSpec.upto busStatusSpec)

/-- 'phosphorlaw24.BusPicture', WHERE WHAT IT READS IS OF BULK AT MOST 1048576: true; the input reads as it did. -/
def busPictureUptoRow : OpenClaim := { program := "ytnllkgjmoipgbaagreatdoor", sum := "aacfa8be8eb957e338431886da7d443f7aa2c09ed90137d75bdbf1d31ba0ff76", func := "phosphor/phosphorlaw24.BusPicture", spec := "busPicture", inPlace := ["internal/reflectlite.ValueOf", "(internal/reflectlite.Value).Type", "(internal/reflectlite.Value).IsNil", "internal/reflectlite.TypeOf", "(internal/reflectlite.Value).Elem", "(internal/reflectlite.Value).Set"], unfollowed := true, recurses := true, named := ["errors.errorType"], apart := false, laid := [("errors.errorType", laid_errors_errorType)], narrowed := true }
def BusPictureUptoSaid : Prop := busPictureUptoRow.holds Tryz.pinned (OpenSpec.upto busPictureSpec)

/-- 'phosphorlaw24.BusHolds', WHERE WHAT IT READS IS OF BULK AT MOST 1048576: true; the input reads as it did. -/
def busHoldsUptoRow : OpenClaim := { program := "ytnllkgjmoipgbaagreatdoor", sum := "aacfa8be8eb957e338431886da7d443f7aa2c09ed90137d75bdbf1d31ba0ff76", func := "phosphor/phosphorlaw24.BusHolds", spec := "busHolds", inPlace := ["internal/reflectlite.ValueOf", "(internal/reflectlite.Value).Type", "(internal/reflectlite.Value).IsNil", "internal/reflectlite.TypeOf", "(internal/reflectlite.Value).Elem", "(internal/reflectlite.Value).Set"], unfollowed := true, recurses := true, named := ["errors.errorType"], apart := false, laid := [("errors.errorType", laid_errors_errorType)], narrowed := true }
def BusHoldsUptoSaid : Prop := busHoldsUptoRow.holds Tryz.pinned (OpenSpec.upto busHoldsSpec)

/-- 'phosphorlaw24.BusClock', WHERE WHAT IT READS IS OF BULK AT MOST 1048576: true; the input reads as it did. -/
def busClockUptoRow : OpenClaim := { program := "ytnllkgjmoipgbaagreatdoor", sum := "aacfa8be8eb957e338431886da7d443f7aa2c09ed90137d75bdbf1d31ba0ff76", func := "phosphor/phosphorlaw24.BusClock", spec := "busClock", inPlace := ["internal/reflectlite.ValueOf", "(internal/reflectlite.Value).Type", "(internal/reflectlite.Value).IsNil", "internal/reflectlite.TypeOf", "(internal/reflectlite.Value).Elem", "(internal/reflectlite.Value).Set"], unfollowed := true, recurses := true, named := ["errors.errorType"], apart := false, laid := [("errors.errorType", laid_errors_errorType)], narrowed := true }
def BusClockUptoSaid : Prop := busClockUptoRow.holds Tryz.pinned (OpenSpec.upto busClockSpec)

/-- 'phosphorlaw24.BusPlays', WHERE WHAT IT READS IS OF BULK AT MOST 1048576: true; the input reads as it did. -/
def busPlaysUptoRow : OpenClaim := { program := "ytnllkgjmoipgbaagreatdoor", sum := "aacfa8be8eb957e338431886da7d443f7aa2c09ed90137d75bdbf1d31ba0ff76", func := "phosphor/phosphorlaw24.BusPlays", spec := "busPlays", inPlace := ["internal/reflectlite.ValueOf", "(internal/reflectlite.Value).Type", "(internal/reflectlite.Value).IsNil", "internal/reflectlite.TypeOf", "(internal/reflectlite.Value).Elem", "(internal/reflectlite.Value).Set"], unfollowed := true, recurses := true, named := ["errors.errorType"], apart := false, laid := [("errors.errorType", laid_errors_errorType)], narrowed := true }
def BusPlaysUptoSaid : Prop := busPlaysUptoRow.holds Tryz.pinned (OpenSpec.upto busPlaysSpec)

/-- 'phosphorlaw25.CpuSums', WHERE WHAT IT READS IS OF BULK AT MOST 1048576: true; the input reads as it did. -/
def cpuSumsUptoRow : OpenClaim := { program := "ytnllkgjmoipgbaagreatdoor", sum := "aacfa8be8eb957e338431886da7d443f7aa2c09ed90137d75bdbf1d31ba0ff76", func := "phosphor/phosphorlaw25.CpuSums", spec := "cpuSums", inPlace := ["internal/reflectlite.ValueOf", "(internal/reflectlite.Value).Type", "(internal/reflectlite.Value).IsNil", "internal/reflectlite.TypeOf", "(internal/reflectlite.Value).Elem", "(internal/reflectlite.Value).Set"], unfollowed := true, recurses := true, named := ["errors.errorType"], apart := false, laid := [("errors.errorType", laid_errors_errorType)], narrowed := true }
def CpuSumsUptoSaid : Prop := cpuSumsUptoRow.holds Tryz.pinned (OpenSpec.upto cpuSumsSpec)

/-- 'phosphorlaw25.CpuCalls', WHERE WHAT IT READS IS OF BULK AT MOST 1048576: true; the input reads as it did. -/
def cpuCallsUptoRow : OpenClaim := { program := "ytnllkgjmoipgbaagreatdoor", sum := "aacfa8be8eb957e338431886da7d443f7aa2c09ed90137d75bdbf1d31ba0ff76", func := "phosphor/phosphorlaw25.CpuCalls", spec := "cpuCalls", inPlace := ["internal/reflectlite.ValueOf", "(internal/reflectlite.Value).Type", "(internal/reflectlite.Value).IsNil", "internal/reflectlite.TypeOf", "(internal/reflectlite.Value).Elem", "(internal/reflectlite.Value).Set"], unfollowed := true, recurses := true, named := ["errors.errorType"], apart := false, laid := [("errors.errorType", laid_errors_errorType)], narrowed := true }
def CpuCallsUptoSaid : Prop := cpuCallsUptoRow.holds Tryz.pinned (OpenSpec.upto cpuCallsSpec)

/-- 'phosphorlaw25.CpuMoves', WHERE WHAT IT READS IS OF BULK AT MOST 1048576: true; the input reads as it did. -/
def cpuMovesUptoRow : OpenClaim := { program := "ytnllkgjmoipgbaagreatdoor", sum := "aacfa8be8eb957e338431886da7d443f7aa2c09ed90137d75bdbf1d31ba0ff76", func := "phosphor/phosphorlaw25.CpuMoves", spec := "cpuMoves", inPlace := ["internal/reflectlite.ValueOf", "(internal/reflectlite.Value).Type", "(internal/reflectlite.Value).IsNil", "internal/reflectlite.TypeOf", "(internal/reflectlite.Value).Elem", "(internal/reflectlite.Value).Set"], unfollowed := true, recurses := true, named := ["errors.errorType"], apart := false, laid := [("errors.errorType", laid_errors_errorType)], narrowed := true }
def CpuMovesUptoSaid : Prop := cpuMovesUptoRow.holds Tryz.pinned (OpenSpec.upto cpuMovesSpec)

/-- 'phosphorlaw25.CpuTakes', WHERE WHAT IT READS IS OF BULK AT MOST 1048576: true; the input reads as it did. -/
def cpuTakesUptoRow : OpenClaim := { program := "ytnllkgjmoipgbaagreatdoor", sum := "aacfa8be8eb957e338431886da7d443f7aa2c09ed90137d75bdbf1d31ba0ff76", func := "phosphor/phosphorlaw25.CpuTakes", spec := "cpuTakes", inPlace := ["internal/reflectlite.ValueOf", "(internal/reflectlite.Value).Type", "(internal/reflectlite.Value).IsNil", "internal/reflectlite.TypeOf", "(internal/reflectlite.Value).Elem", "(internal/reflectlite.Value).Set"], unfollowed := true, recurses := true, named := ["errors.errorType"], apart := false, laid := [("errors.errorType", laid_errors_errorType)], narrowed := true }
def CpuTakesUptoSaid : Prop := cpuTakesUptoRow.holds Tryz.pinned (OpenSpec.upto cpuTakesSpec)

/-- 'phosphorlaw25.CpuBranches', WHERE WHAT IT READS IS OF BULK AT MOST 1048576: true; the input reads as it did. -/
def cpuBranchesUptoRow : OpenClaim := { program := "ytnllkgjmoipgbaagreatdoor", sum := "aacfa8be8eb957e338431886da7d443f7aa2c09ed90137d75bdbf1d31ba0ff76", func := "phosphor/phosphorlaw25.CpuBranches", spec := "cpuBranches", inPlace := ["internal/reflectlite.ValueOf", "(internal/reflectlite.Value).Type", "(internal/reflectlite.Value).IsNil", "internal/reflectlite.TypeOf", "(internal/reflectlite.Value).Elem", "(internal/reflectlite.Value).Set"], unfollowed := true, recurses := true, named := ["errors.errorType"], apart := false, laid := [("errors.errorType", laid_errors_errorType)], narrowed := true }
def CpuBranchesUptoSaid : Prop := cpuBranchesUptoRow.holds Tryz.pinned (OpenSpec.upto cpuBranchesSpec)

/-- 'phosphorlaw25.CpuBits', WHERE WHAT IT READS IS OF BULK AT MOST 1048576: true; the input reads as it did. -/
def cpuBitsUptoRow : OpenClaim := { program := "ytnllkgjmoipgbaagreatdoor", sum := "aacfa8be8eb957e338431886da7d443f7aa2c09ed90137d75bdbf1d31ba0ff76", func := "phosphor/phosphorlaw25.CpuBits", spec := "cpuBits", inPlace := ["internal/reflectlite.ValueOf", "(internal/reflectlite.Value).Type", "(internal/reflectlite.Value).IsNil", "internal/reflectlite.TypeOf", "(internal/reflectlite.Value).Elem", "(internal/reflectlite.Value).Set"], unfollowed := true, recurses := true, named := ["errors.errorType"], apart := false, laid := [("errors.errorType", laid_errors_errorType)], narrowed := true }
def CpuBitsUptoSaid : Prop := cpuBitsUptoRow.holds Tryz.pinned (OpenSpec.upto cpuBitsSpec)

/-- 'phosphorlaw25.CpuCounts', WHERE WHAT IT READS IS OF BULK AT MOST 1048576: true; the input reads as it did. -/
def cpuCountsUptoRow : OpenClaim := { program := "ytnllkgjmoipgbaagreatdoor", sum := "aacfa8be8eb957e338431886da7d443f7aa2c09ed90137d75bdbf1d31ba0ff76", func := "phosphor/phosphorlaw25.CpuCounts", spec := "cpuCounts", inPlace := ["internal/reflectlite.ValueOf", "(internal/reflectlite.Value).Type", "(internal/reflectlite.Value).IsNil", "internal/reflectlite.TypeOf", "(internal/reflectlite.Value).Elem", "(internal/reflectlite.Value).Set"], unfollowed := true, recurses := true, named := ["errors.errorType"], apart := false, laid := [("errors.errorType", laid_errors_errorType)], narrowed := true }
def CpuCountsUptoSaid : Prop := cpuCountsUptoRow.holds Tryz.pinned (OpenSpec.upto cpuCountsSpec)

/-- 'phosphorlaw25.CpuPicture', WHERE WHAT IT READS IS OF BULK AT MOST 1048576: true; the input reads as it did. -/
def cpuPictureUptoRow : OpenClaim := { program := "ytnllkgjmoipgbaagreatdoor", sum := "aacfa8be8eb957e338431886da7d443f7aa2c09ed90137d75bdbf1d31ba0ff76", func := "phosphor/phosphorlaw25.CpuPicture", spec := "cpuPicture", inPlace := ["internal/reflectlite.ValueOf", "(internal/reflectlite.Value).Type", "(internal/reflectlite.Value).IsNil", "internal/reflectlite.TypeOf", "(internal/reflectlite.Value).Elem", "(internal/reflectlite.Value).Set"], unfollowed := true, recurses := true, named := ["errors.errorType"], apart := false, laid := [("errors.errorType", laid_errors_errorType)], narrowed := true }
def CpuPictureUptoSaid : Prop := cpuPictureUptoRow.holds Tryz.pinned (OpenSpec.upto cpuPictureSpec)

/-- 'phosphorlaw25.CpuSteps', WHERE WHAT IT READS IS OF BULK AT MOST 1048576: true; the input reads as it did. -/
def cpuStepsUptoRow : OpenClaim := { program := "ytnllkgjmoipgbaagreatdoor", sum := "aacfa8be8eb957e338431886da7d443f7aa2c09ed90137d75bdbf1d31ba0ff76", func := "phosphor/phosphorlaw25.CpuSteps", spec := "cpuSteps", inPlace := ["internal/reflectlite.ValueOf", "(internal/reflectlite.Value).Type", "(internal/reflectlite.Value).IsNil", "internal/reflectlite.TypeOf", "(internal/reflectlite.Value).Elem", "(internal/reflectlite.Value).Set"], unfollowed := true, recurses := true, named := ["errors.errorType"], apart := false, laid := [("errors.errorType", laid_errors_errorType)], narrowed := true }
def CpuStepsUptoSaid : Prop := cpuStepsUptoRow.holds Tryz.pinned (OpenSpec.upto cpuStepsSpec)

/-- 'phosphorlaw25.CpuSpeeds', WHERE WHAT IT READS IS OF BULK AT MOST 1048576: true; the input reads as it did. -/
def cpuSpeedsUptoRow : OpenClaim := { program := "ytnllkgjmoipgbaagreatdoor", sum := "aacfa8be8eb957e338431886da7d443f7aa2c09ed90137d75bdbf1d31ba0ff76", func := "phosphor/phosphorlaw25.CpuSpeeds", spec := "cpuSpeeds", inPlace := ["internal/reflectlite.ValueOf", "(internal/reflectlite.Value).Type", "(internal/reflectlite.Value).IsNil", "internal/reflectlite.TypeOf", "(internal/reflectlite.Value).Elem", "(internal/reflectlite.Value).Set"], unfollowed := true, recurses := true, named := ["errors.errorType"], apart := false, laid := [("errors.errorType", laid_errors_errorType)], narrowed := true }
def CpuSpeedsUptoSaid : Prop := cpuSpeedsUptoRow.holds Tryz.pinned (OpenSpec.upto cpuSpeedsSpec)

/-- 'phosphorlaw25.CpuStarts', WHERE WHAT IT READS IS OF BULK AT MOST 1048576: true; the input reads as it did. -/
def cpuStartsUptoRow : OpenClaim := { program := "ytnllkgjmoipgbaagreatdoor", sum := "aacfa8be8eb957e338431886da7d443f7aa2c09ed90137d75bdbf1d31ba0ff76", func := "phosphor/phosphorlaw25.CpuStarts", spec := "cpuStarts", inPlace := ["internal/reflectlite.ValueOf", "(internal/reflectlite.Value).Type", "(internal/reflectlite.Value).IsNil", "internal/reflectlite.TypeOf", "(internal/reflectlite.Value).Elem", "(internal/reflectlite.Value).Set"], unfollowed := true, recurses := true, named := ["errors.errorType"], apart := false, laid := [("errors.errorType", laid_errors_errorType)], narrowed := true }
def CpuStartsUptoSaid : Prop := cpuStartsUptoRow.holds Tryz.pinned (OpenSpec.upto cpuStartsSpec)

end Rows
end Go.Proofs.YtnllkgjmoipgbaaGreatDoor
