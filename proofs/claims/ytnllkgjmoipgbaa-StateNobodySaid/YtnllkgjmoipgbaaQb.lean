/- A region that draws its order, whose callees allocate blocks of their own: walked once, in the class 'nothing old has turned'. -/
import Derived.Test.YtnllkgjmoipgbaaBase
import Derived.Deep.QuietTactic
import Derived.Laws.Rows
namespace Go.Proofs.Ytnllkgjmoipgbaa
open Go Go.RowKit
set_option linter.unusedSimpArgs false
set_option linter.unusedVariables false

theorem wp_region_under {P : Program} {id : Nat} {Q : Exit → Act → World → Prop} {a : Act} {W : World} {l : List Oper} (hm : P.follows .mixedOrders = true) (hB : Region.lexB .any l.toArray = true)
    (h : wpQuiet P l.toArray (fun w' => Below W.heap.size W w') (fun a' => ∀ w', Below W.heap.size W w' → Q .normal a' w') l a) : (Code.region id l.toArray true).wp P Q a W :=
  wp_region_quiet (C := fun w' => Below W.heap.size W w') hm hB (below_drewN (Below.refl _ _) 1) (by simpa using h)

/-- A callee's contract, met in a world of the class. -/
theorem calls_under {P : Program} {f : FuncId} {args : Array Value} {W w : World} {v : Value} (hw : Below W.heap.size W w)
    (h : Calls P f args w fun e w' => e = .returned v ∧ Below w.heap.size w w') : Calls P f args w fun e w' => e = .returned v ∧ Below W.heap.size W w' :=
  h.mono fun _ _ ⟨he, hb⟩ => ⟨he, hw.trans (hb.mono hw.size)⟩

theorem calls_under_same {P : Program} {f : FuncId} {args : Array Value} {W w : World} {v : Value} (hw : Below W.heap.size W w)
    (h : Calls P f args w fun e w' => e = .returned v ∧ w = w') : Calls P f args w fun e w' => e = .returned v ∧ Below W.heap.size W w' :=
  h.mono fun _ _ ⟨he, hb⟩ => ⟨he, hb ▸ hw⟩

/-- A whole array or struct, out of a block. -/
theorem quiet_load_row {P : Program} {o : Oper} {a : Act} {C : World → Prop} {w : World} (ty : TypeId) (x : Operand) (ho : o.op = .load ty x)
    (g : Nat) (hx : a.eval x = .pointer (some ⟨g, 0, none⟩)) (t : TypeId) (cs : Array Value) (d : TypeDesc) (hg : Blk w g cs t)
    (hu : P.underlying ty = some d) (hd : (match d with | .struct _ | .array _ _ => true | _ => false) = true) (hi : (P.info? ty).map (·.size) = some cs.size) : o.quietAt P a C w (.agg cs) := by
  unfold Oper.quietAt execOp
  simp only [ho, hx, Instr.loadAt, Instr.sureAddr, Sem.run_bind, Sem.run_pure, Result.andThen_ok, run_loadVar_row w g t ty cs (0, 0) d hg hu hd hi]
  exact ⟨rfl, rfl⟩

end Go.Proofs.Ytnllkgjmoipgbaa
