/- Structs that are built of parts, as operations: their values are known. -/
import Derived.Test.YtnllkgjmoipgbaaMid
import Derived.Laws.Tables
namespace Go.Proofs.Ytnllkgjmoipgbaa
open Go Go.RowKit
set_option linter.unusedSimpArgs false
set_option linter.unusedVariables false
set_option maxRecDepth 100000

/-- A struct is built: its value is known. -/
theorem wpList_built {P : Program} {w : World} {a : Act} {Q : Exit → Act → World → Prop} {ops : Array Oper} {rest : List Oper} {o : Oper} (hg : o.guard = none) (t : TypeId) (parts : Array (Nat × Operand)) (ho : o.op = .build t parts)
    {vs : Array (Nat × Value)} {v : Value} (hc : (Instr.build t vs).run P w = .ok v w) (he : (parts.map fun (i, x) => (i, a.eval x)) = vs)
    (h : wpList P ops Q rest (a.put o.dst v) w) : wpList P ops Q (o :: rest) a w :=
  wpList_plain hg fun _ hK => by
    subst he
    unfold Oper.wp execOp
    simp only [ho, Sem.run_bind, hc, Result.andThen_ok]
    exact hK _ _ h
theorem laidL_cons (x : Value) : ∀ (vs cs : List Value) (o : Nat), laidL (x :: cs) (o + 1) vs = x :: laidL cs o vs
  | [], _, _ => rfl
  | v :: r, cs, o => by rw [laidL, laidL, List.set_cons_succ, laidL_cons x r]
theorem fold_laid : ∀ (l : List Value) (k off : Nat) (cs : List Value), (l.zipIdx k).foldl (fun (cs : Array Value) (p : Value × Nat) => cs.setIfInBounds (off + p.2) p.1) cs.toArray = (laidL cs (off + k) l).toArray
  | [], _, _, _ => rfl
  | v :: r, k, off, cs => by
    rw [List.zipIdx_cons, List.foldl_cons, laidL]
    simp only [List.setIfInBounds_toArray]
    rw [fold_laid r (k + 1) off, Nat.add_assoc]
theorem fill_step {place : Nat → Option (Nat × Nat)} {cs vs : List Value} {i off size : Nat} {v : Value} {rest : List (Nat × Value)} (hp : place i = some (off, size)) (hv : v.cells = vs.toArray) (hs : vs.length = size) (ho : off + size ≤ cs.length) :
    Instr.fill place cs.toArray ((i, v) :: rest) = Instr.fill place (laidL cs off vs).toArray rest := by
  rw [Instr.fill, hp]
  simp only [hv]
  rw [if_neg (by simp [hs]; omega)]
  congr 1
  have := fold_laid vs 0 off cs
  rw [Nat.add_zero] at this
  rw [← this]
  simp
theorem built_struct {P : Program} {t : TypeId} {it : TypeInfo} {fields : Array Field} {z : Value} {places : List (Nat × Nat)} {parts : List (Nat × Value)} (h1 : P.info? t = some it) (h2 : P.underlying t = some (.struct fields)) (h3 : it.zero = some z)
    (h4 : (fields.toList.mapM fun f => (P.info? f.type).map fun i => (f.offset, i.size)) = some places) : P.built t parts = Instr.fill (places.toArray[·]?) z.cells parts := by
  simp [Program.built, h1, h2, h3, h4]
/-- A struct of no parts: its zero. -/
theorem run_build_zero {P : Program} {t : TypeId} {z : Value} (hs : ∃ fs, P.underlying t = some (.struct fs) ∧ ((fs.toList.mapM fun f => (P.info? f.type).map fun i => (f.offset, i.size)).isSome = true)) (hz : (P.info? t).map (·.zero) = some (some z)) (hc : z.cells.size = z.cells.size) {cs : Array Value} (he : z = .agg cs) (w : World) :
    (Instr.build t #[]).run P w = .ok (.agg cs) w := by
  subst he
  refine run_build w _ _ _ ?_
  obtain ⟨it, hi, hz'⟩ := Option.map_eq_some_iff.1 hz
  obtain ⟨fs, h2, h4⟩ := hs
  obtain ⟨pl, hpl⟩ := Option.isSome_iff_exists.1 h4
  rw [built_struct hi h2 hz' hpl]
  rfl
end Go.Proofs.Ytnllkgjmoipgbaa
