/- Two objects of one video memory: the program's, and the reference's. -/
import Derived.Test.YtlhnfllfankjhaaActs
namespace Go.Proofs.Ytlhnfllfankjhaa
open Go Go.RowKit
set_option linter.unusedSimpArgs false
set_option linter.unusedVariables false

structure Duo (W w : World) (p g q h : Nat) (V : VS) : Prop where
  x : VAt 69 w p g V
  y : VAt 66 w q h V
  pq : p ≠ q
  ph : p ≠ h
  gq : g ≠ q
  gh : g ≠ h
  bp : W.heap.size ≤ p
  bg : W.heap.size ≤ g
  bq : W.heap.size ≤ q
  bh : W.heap.size ≤ h
  below : Below W.heap.size W w

theorem Duo.yKept {W w w1 : World} {p g q h : Nat} {V : VS} (T : Duo W w p g q h V) {S : List Nat} (t : Tr S w w1) (hS : ∀ k ∈ S, k = p ∨ k = g) : VAt 66 w1 q h V :=
  T.y.tr t (fun hm => by rcases hS _ hm with e | e; exact T.pq e.symm; exact T.gq e.symm) (fun hm => by rcases hS _ hm with e | e; exact T.ph e.symm; exact T.gh e.symm)
theorem Duo.next {W w w1 w2 : World} {p g q h : Nat} {V V' : VS} (T : Duo W w p g q h V) {S S' : List Nat} (t1 : Tr S w w1) (hS : ∀ k ∈ S, k = p ∨ k = g) (t2 : Tr S' w1 w2) (hS' : ∀ k ∈ S', k = q ∨ k = h)
    (x1 : VAt 69 w1 p g V') (y2 : VAt 66 w2 q h V') : Duo W w2 p g q h V' :=
  ⟨x1.tr t2 (fun hm => by rcases hS' _ hm with e | e; exact T.pq e; exact T.ph e) (fun hm => by rcases hS' _ hm with e | e; exact T.gq e; exact T.gh e), y2, T.pq, T.ph, T.gq, T.gh, T.bp, T.bg, T.bq, T.bh,
    Tr.below (Tr.below T.below t1 (Nat.le_refl _) (fun b hb => by rcases hS _ hb with e | e; exact e ▸ T.bp; exact e ▸ T.bg)) t2 (Nat.le_refl _) (fun b hb => by rcases hS' _ hb with e | e; exact e ▸ T.bq; exact e ▸ T.bh)⟩
theorem Duo.of_below {W w w1 : World} {p g q h : Nat} {V : VS} (T : Duo W w p g q h V) (hb : Below w.heap.size w w1) : Duo W w1 p g q h V :=
  ⟨T.x.below hb, T.y.below hb, T.pq, T.ph, T.gq, T.gh, T.bp, T.bg, T.bq, T.bh, T.below.trans (hb.mono T.below.size)⟩
theorem Duo.of_new {W w w1 w2 : World} {p g q h : Nat} {V : VS} (hb : Below W.heap.size W w) (hx : VAt 69 w1 p g V) (hb1 : Below w.heap.size w w1) (hp : w.heap.size ≤ p) (hg : w.heap.size ≤ g)
    (hy : VAt 66 w2 q h V) (hb2 : Below w1.heap.size w1 w2) (hq : w1.heap.size ≤ q) (hh : w1.heap.size ≤ h) : Duo W w2 p g q h V := by
  have l1 := hx.lt
  have s0 := hb.size
  have s1 := hb1.size
  exact ⟨hx.below hb2, hy, by omega, by omega, by omega, by omega, by omega, by omega, by omega, by omega, (hb.trans (hb1.mono s0)).trans (hb2.mono (by omega))⟩
theorem Duo.drewN {W w : World} {p g q h : Nat} {V : VS} (T : Duo W w p g q h V) (n : Nat) : Duo W (w.drewN n) p g q h V := T.of_below (below_drewN (Below.refl _ _) n)
/-- A block that is none of the four. -/
theorem Duo.kept {W w w1 w2 : World} {p g q h : Nat} {V : VS} (T : Duo W w p g q h V) {S S' : List Nat} (t1 : Tr S w w1) (hS : ∀ k ∈ S, k = p ∨ k = g) (t2 : Tr S' w1 w2) (hS' : ∀ k ∈ S', k = q ∨ k = h)
    {b : Nat} {cs : Array Value} {t : TypeId} (A : Blk w b cs t) (hp : b ≠ p) (hg : b ≠ g) (hq : b ≠ q) (hh : b ≠ h) : Blk w2 b cs t :=
  (A.tr t1 (fun hm => by rcases hS _ hm with e | e; exact hp e; exact hg e)).tr t2 (fun hm => by rcases hS' _ hm with e | e; exact hq e; exact hh e)

end Go.Proofs.Ytlhnfllfankjhaa
