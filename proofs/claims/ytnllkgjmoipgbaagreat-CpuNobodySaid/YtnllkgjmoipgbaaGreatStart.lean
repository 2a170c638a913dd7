/- What the program's start words say: looked at once, behind a name, for all rows of a seat of many roots (their plain evaluation, within 'joinedFacts', outgrows the kernel's memory). -/
import Derived.Test.YtnllkgjmoipgbaaGreatRows
import Derived.WalkKit
import Derived.ProofKit
import Derived.ChangeOld
import Derived.SizedLaws
namespace Go.Proofs.YtnllkgjmoipgbaaGreat
open Go Go.RowKit
set_option maxRecDepth 100000
theorem start_words : ∃ r, behindMainWord (wordsSigns Tryz.prog.initOrder.toList) = "cut".toList :: r := by
  rw [show Tryz.prog.initOrder = String.ofList _ from rfl, String.toList_ofList]
  exact ⟨_, rfl⟩
theorem start_laysLater : Tryz.prog.laysLater = false := by kernel_rfl
theorem start_bearsReflect : Tryz.prog.bearsReflect = false := by kernel_rfl
theorem start_doorFits : Tryz.prog.doorFits [] = true := by kernel_rfl

section
variable (P : Program) (r : List (List Char)) (h : behindMainWord (wordsSigns P.initOrder.toList) = "cut".toList :: r)
theorem start_strip : stripLifts liftWords ("cut".toList :: r) = ([], "cut".toList :: r) := by kernel_rfl
include h
theorem liftsFinal_of : P.liftsFinal = false := by
  unfold Program.liftsFinal Program.headLifts
  rw [h]
  kernel_rfl
theorem mayEnter_of (h1 : P.laysLater = false) (h2 : P.bearsReflect = false) (h3 : P.doorFits [] = true) : P.mayEnter = true := by
  unfold Program.mayEnter
  rw [h]
  simp only [start_strip, h1, h2, h3]
  kernel_rfl
theorem make_of : P.make = some .cut := by
  unfold Program.make
  rw [h]
  kernel_rfl
end
theorem start_liftsFinal : Tryz.prog.liftsFinal = false := let ⟨r, h⟩ := start_words; liftsFinal_of _ r h
theorem start_mayEnter : Tryz.prog.mayEnter = true := let ⟨r, h⟩ := start_words; mayEnter_of _ r h start_laysLater start_bearsReflect start_doorFits
theorem start_make : Tryz.prog.make = some .cut := let ⟨r, h⟩ := start_words; make_of _ r h
end Go.Proofs.YtnllkgjmoipgbaaGreat
