/- Contracts of the program's functions, and what they rest on, part 4: each function's call returns what its plain form says; no condition but those typed. -/
import Derived.Test.YtnllkgjmoipgbaaGreatDoorK3
import Derived.Test.YtnllkgjmoipgbaaGreatDoorTie
import Derived.Test.YtnllkgjmoipgbaaGreatDoorCards
import Derived.SevenTiedAt
-- StartC
namespace Go.Proofs.YtnllkgjmoipgbaaGreatDoor
open Go Go.RowKit
set_option maxRecDepth 100000
theorem start_mainIs : Tryz.prog.mainIs = some (true, "bd220f6371e34b9b9e24540febcd677c8de7384c4fae0106b73b2fe369ca2ce1".toList) := by
  unfold Program.mainIs
  rw [show Tryz.prog.initOrder = String.ofList _ from rfl, String.toList_ofList]
  kernel_rfl
theorem start_looks : Tryz.prog.looks [] = true := by kernel_rfl
end Go.Proofs.YtnllkgjmoipgbaaGreatDoor
