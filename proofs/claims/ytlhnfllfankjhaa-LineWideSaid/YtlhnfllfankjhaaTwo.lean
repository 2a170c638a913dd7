/- Two objects of one video memory: the program's, and the reference's. -/
import Derived.Test.YtlhnfllfankjhaaDmaT
namespace Go.Proofs.Ytlhnfllfankjhaa
open Go Go.RowKit
set_option linter.unusedSimpArgs false
set_option linter.unusedVariables false

structure Two (W w : World) (p g q h : Nat) (V : VS) : Prop where
  x : VAt 69 w p g V
  y : VAt 66 w q h V
  pq : p ≠ q
  ph : p ≠ h
  gq : g ≠ q
  gh : g ≠ h
  bp : W.heap.size < p
  bg : W.heap.size < g
  bq : W.heap.size < q
  bh : W.heap.size < h
  below : Below W.heap.size W w

theorem Two.yKept {W w w1 : World} {p g q h : Nat} {V : VS} (T : Two W w p g q h V) {S : List Nat} (t : Tr S w w1) (hS : ∀ k ∈ S, k = p ∨ k = g) : VAt 66 w1 q h V :=
  T.y.tr t (fun hm => by rcases hS _ hm with e | e; exact T.pq e.symm; exact T.gq e.symm) (fun hm => by rcases hS _ hm with e | e; exact T.ph e.symm; exact T.gh e.symm)
theorem Two.next {W w w1 w2 : World} {p g q h : Nat} {V V' : VS} (T : Two W w p g q h V) {S S' : List Nat} (t1 : Tr S w w1) (hS : ∀ k ∈ S, k = p ∨ k = g) (t2 : Tr S' w1 w2) (hS' : ∀ k ∈ S', k = q ∨ k = h)
    (x1 : VAt 69 w1 p g V') (y2 : VAt 66 w2 q h V') : Two W w2 p g q h V' :=
  ⟨x1.tr t2 (fun hm => by rcases hS' _ hm with e | e; exact T.pq e; exact T.ph e) (fun hm => by rcases hS' _ hm with e | e; exact T.gq e; exact T.gh e), y2, T.pq, T.ph, T.gq, T.gh, T.bp, T.bg, T.bq, T.bh,
    Tr.below (Tr.below T.below t1 (Nat.le_refl _) (fun b hb => by rcases hS _ hb with e | e; exact e ▸ Nat.le_of_lt T.bp; exact e ▸ Nat.le_of_lt T.bg)) t2 (Nat.le_refl _) (fun b hb => by rcases hS' _ hb with e | e; exact e ▸ Nat.le_of_lt T.bq; exact e ▸ Nat.le_of_lt T.bh)⟩
theorem Two.of_below {W w w1 : World} {p g q h : Nat} {V : VS} (T : Two W w p g q h V) (hb : Below w.heap.size w w1) : Two W w1 p g q h V :=
  ⟨T.x.below hb, T.y.below hb, T.pq, T.ph, T.gq, T.gh, T.bp, T.bg, T.bq, T.bh, T.below.trans (hb.mono T.below.size)⟩
theorem Two.kept {W w w1 w2 : World} {p g q h : Nat} {V : VS} (T : Two W w p g q h V) {S S' : List Nat} (t1 : Tr S w w1) (hS : ∀ k ∈ S, k = p ∨ k = g) (t2 : Tr S' w1 w2) (hS' : ∀ k ∈ S', k = q ∨ k = h)
    {b : Nat} {cs : Array Value} {t : TypeId} (A : Blk w b cs t) (hb : b ≤ W.heap.size) : Blk w2 b cs t := by
  have := T.bp; have := T.bg; have := T.bq; have := T.bh
  exact (A.tr t1 (fun hm => by rcases hS _ hm with e | e <;> omega)).tr t2 (fun hm => by rcases hS' _ hm with e | e <;> omega)
theorem four_of {α : Type} {zs : List α} (h : zs.length = 4) : ∃ a b c d, zs = [a, b, c, d] := by
  match zs, h with
  | [a, b, c, d], _ => exact ⟨a, b, c, d, rfl⟩
theorem wf_i64 {x : Int} (h : (Lit.int .i64 x).wf = true) : -9223372036854775808 ≤ x ∧ x ≤ 9223372036854775807 := by
  have h1 : (decide (IntKind.i64.min ≤ x) && decide (x ≤ IntKind.i64.max)) = true := h
  have e1 : IntKind.i64.min = -9223372036854775808 := by decide
  have e2 : IntKind.i64.max = 9223372036854775807 := by decide
  rw [e1, e2, Bool.and_eq_true, decide_eq_true_eq, decide_eq_true_eq] at h1
  exact h1

end Go.Proofs.Ytlhnfllfankjhaa
