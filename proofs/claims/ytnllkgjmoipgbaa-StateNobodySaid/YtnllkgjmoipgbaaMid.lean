/- Parts of a block: rows in the middle of an object, read and written. -/
import Derived.Test.YtnllkgjmoipgbaaVs
import Derived.Test.YtnllkgjmoipgbaaRl
import Derived.Test.YtnllkgjmoipgbaaQb
import Derived.Deep.MidRow
namespace Go.Proofs.Ytnllkgjmoipgbaa
open Go Go.RowKit
set_option linter.unusedSimpArgs false
set_option linter.unusedVariables false

theorem range_of_blk {w : World} {b : Nat} {cs : List Value} {t : TypeId} (h : Blk w b cs.toArray t) : w.rangeAt b 0 cs := fun j v hv => by
  rw [Nat.zero_add, Blk.cell h]; simpa using hv
theorem there_of_blk {w : World} {b : Nat} {cs : List Value} {t : TypeId} (h : Blk w b cs.toArray t) {o n : Nat} (hn : o + n ≤ cs.length) : w.there b o n := fun j hj => by
  refine ⟨?_, Blk.free h _⟩
  rw [Blk.cell h]; simp; omega
theorem range_split {w : World} {b o : Nat} {xs ys : List Value} (h : w.rangeAt b o (xs ++ ys)) {n : Nat} (hn : xs.length = n) : w.rangeAt b o xs ∧ w.rangeAt b (o + n) ys := by
  subst hn
  refine ⟨fun j v hv => h j v ?_, fun j v hv => ?_⟩
  · rw [List.getElem?_append_left (List.getElem?_eq_some_iff.1 hv).1]; exact hv
  · have := h (xs.length + j) v (by rw [List.getElem?_append_right (by omega)]; simpa using hv)
    rw [← Nat.add_assoc] at this; exact this
theorem range_join {w : World} {b o n : Nat} {xs ys : List Value} (h1 : w.rangeAt b o xs) (hn : xs.length = n) (h2 : w.rangeAt b (o + n) ys) : w.rangeAt b o (xs ++ ys) := by
  subst hn
  intro j v hv
  by_cases hj : j < xs.length
  · rw [List.getElem?_append_left hj] at hv; exact h1 j v hv
  · rw [List.getElem?_append_right (by omega)] at hv
    have := h2 _ v hv
    rwa [show o + xs.length + (j - xs.length) = o + j by omega] at this
theorem range_one {w : World} {b o : Nat} {v : Value} (h : w.rangeAt b o [v]) : w.cell? ⟨b, o, none⟩ = some v := h 0 v rfl
theorem range_cons {w : World} {b o : Nat} {v : Value} {ys : List Value} (h : w.rangeAt b o (v :: ys)) : w.cell? ⟨b, o, none⟩ = some v ∧ w.rangeAt b (o + 1) ys :=
  ⟨h 0 v rfl, (range_split (xs := [v]) h rfl).2⟩
theorem range_nth {α : Type} {f : α → Value} {w : World} {b o : Nat} {xs : List α} (h : w.rangeAt b o (xs.map f)) (d : α) {j : Nat} (hj : j < xs.length) : w.cell? ⟨b, o + j, none⟩ = some (f (nth d xs j)) :=
  h j _ (by rw [List.getElem?_map, List.getElem?_eq_getElem hj, nth_lt hj]; rfl)
theorem range_int {w : World} {b o : Nat} {xs : List Int} (h : w.rangeAt b o (xs.map (Value.int .i64))) {j : Nat} (hj : j < xs.length) : w.cell? ⟨b, o + j, none⟩ = some (.int .i64 (nth 0 xs j)) := range_nth h 0 hj
theorem range_below {w w' : World} {b o : Nat} {cs : List Value} (h : w.rangeAt b o cs) (hb : Below w.heap.size w w') : w'.rangeAt b o cs := fun j v hv => by
  have := h j v hv
  rw [hb.cell (World.block_lt_of_cell? w _ this)]; exact this
theorem range_tr {w w' : World} {S : List Nat} {b o : Nat} {cs : List Value} (h : w.rangeAt b o cs) (hb : Tr S w w') (hn : b ∉ S) : w'.rangeAt b o cs := fun j v hv => by
  have h1 := h j v hv
  have hl : b < w.heap.size := World.block_lt_of_cell? w ⟨b, o + j, none⟩ h1
  have e : w'.heap[b]? = w.heap[b]? := hb.block b hl hn
  have : w'.cell? ⟨b, o + j, none⟩ = w.cell? ⟨b, o + j, none⟩ := by simp [World.cell?, e]
  rw [this]; exact h1
theorem there_below {w w' : World} {b o n : Nat} (h : w.there b o n) (hb : Below w.heap.size w w') : w'.there b o n := fun j hj => by
  obtain ⟨h1, h2⟩ := h j hj
  obtain ⟨v, hv⟩ := Option.isSome_iff_exists.1 h1
  have hl := World.block_lt_of_cell? w _ hv
  exact ⟨by rw [hb.cell hl]; exact h1, by rw [hb.frozen hl]; exact h2⟩
theorem there_tr {w w' : World} {S : List Nat} {b o n : Nat} (h : w.there b o n) (hb : Tr S w w') (hn : b ∉ S) : w'.there b o n := fun j hj => by
  obtain ⟨h1, h2⟩ := h j hj
  obtain ⟨v, hv⟩ := Option.isSome_iff_exists.1 h1
  have hl : b < w.heap.size := World.block_lt_of_cell? w ⟨b, o + j, none⟩ hv
  have e : w'.heap[b]? = w.heap[b]? := hb.block b hl hn
  have e1 : w'.cell? ⟨b, o + j, none⟩ = w.cell? ⟨b, o + j, none⟩ := by simp [World.cell?, e]
  have e2 : w'.frozen? ⟨b, o + j, none⟩ = w.frozen? ⟨b, o + j, none⟩ := by simp [World.frozen?, e]
  exact ⟨by rw [e1]; exact h1, by rw [e2]; exact h2⟩

/-- What a row that is written over leaves. -/
def laidL : List Value → Nat → List Value → List Value
  | cs, _, [] => cs
  | cs, o, v :: r => laidL (cs.set o v) (o + 1) r
theorem laidL_length : ∀ (vs cs : List Value) (o : Nat), (laidL cs o vs).length = cs.length
  | [], _, _ => rfl
  | v :: r, cs, o => by rw [laidL, laidL_length r]; simp
theorem laidL_mid : ∀ (vs pr xs bs : List Value), xs.length = vs.length → laidL (pr ++ (xs ++ bs)) pr.length vs = pr ++ (vs ++ bs)
  | [], pr, xs, bs, h => by rw [List.length_eq_zero_iff.1 h]; rfl
  | v :: r, pr, [], bs, h => by simp at h
  | v :: r, pr, x :: xs, bs, h => by
    rw [laidL]
    have e : (pr ++ (x :: xs ++ bs)).set pr.length v = (pr ++ [v]) ++ (xs ++ bs) := by
      rw [List.set_append_right _ _ (Nat.le_refl _)]; simp
    rw [e]
    have := laidL_mid r (pr ++ [v]) xs bs (by simpa using h)
    rw [List.length_append, List.length_singleton] at this
    rw [this]; simp
theorem Blk.laid : ∀ (vs : List Value) {w : World} {b : Nat} {cs : List Value} {t : TypeId} (o : Nat), Blk w b cs.toArray t → Blk (w.setCells b o vs) b (laidL cs o vs).toArray t
  | [], _, _, _, _, _, h => h
  | v :: r, w, b, cs, t, o, h => by
    rw [World.setCells, laidL]
    refine Blk.laid r (o + 1) ?_
    have := Blk.set (i := o) h v
    rwa [List.setIfInBounds_toArray] at this
theorem Blk.laid_other : ∀ (vs : List Value) {w : World} {b g : Nat} {cs : Array Value} {t : TypeId} (o : Nat), Blk w b cs t → b ≠ g → Blk (w.setCells g o vs) b cs t
  | [], _, _, _, _, _, _, h, _ => h
  | v :: r, w, b, g, cs, t, o, h, hn => by rw [World.setCells]; exact Blk.laid_other r (o + 1) (Blk.other h _ hn) hn
theorem below_laid {B : Nat} : ∀ (vs : List Value) {a w : World} {g : Nat} (o : Nat), Below B a w → B ≤ g → Below B a (w.setCells g o vs)
  | [], _, _, _, _, h, _ => h
  | v :: r, a, w, g, o, h, hg => by rw [World.setCells]; exact below_laid r (o + 1) (h.setCell (by simpa using hg) _) hg
theorem Tr.laid {S : List Nat} : ∀ (vs : List Value) {a w : World} {g : Nat} (o : Nat), Tr S a w → g ∈ S → Tr S a (w.setCells g o vs)
  | [], _, _, _, _, h, _ => h
  | v :: r, a, w, g, o, h, hg => by rw [World.setCells]; exact Tr.laid r (o + 1) (h.setCell _ hg _) hg

/-- A row out of the middle of a block, at the head of a region that draws its order. -/
theorem mid_upon {P : Program} {o : Oper} {a : Act} {D : World → Prop} {w : World} (ty : TypeId) (x : Operand) (ho : o.op = .load ty x)
    (g off : Nat) (hx : a.eval x = .pointer (some ⟨g, off, none⟩)) (cs : List Value) (d : TypeDesc) (hg : w.rangeAt g off cs)
    (hu : P.underlying ty = some d) (hd : d.isRow = true) (hi : (P.info? ty).map (·.size) = some cs.length) (hD : D w) : lUpon P D (.agg cs.toArray) ((execOp a.eval o).run P w) := by
  unfold execOp
  simp only [ho, hx, Instr.loadAt, Instr.sureAddr, Sem.run_bind, Sem.run_pure, Result.andThen_ok, run_loadVar_mid w g off ty cs d hg hu hd hi, lUpon]
  exact ⟨hD, trivial⟩
theorem quiet_load_mid {P : Program} {o : Oper} {a : Act} {C : World → Prop} {w : World} (ty : TypeId) (x : Operand) (ho : o.op = .load ty x)
    (g off : Nat) (hx : a.eval x = .pointer (some ⟨g, off, none⟩)) (cs : List Value) (d : TypeDesc) (hg : w.rangeAt g off cs)
    (hu : P.underlying ty = some d) (hd : d.isRow = true) (hi : (P.info? ty).map (·.size) = some cs.length) : o.quietAt P a C w (.agg cs.toArray) := by
  unfold Oper.quietAt execOp
  simp only [ho, hx, Instr.loadAt, Instr.sureAddr, Sem.run_bind, Sem.run_pure, Result.andThen_ok, run_loadVar_mid w g off ty cs d hg hu hd hi]
  exact ⟨rfl, rfl⟩
/-- Ints, as cells of a list. -/
def intsC (xs : List Int) : List Value := xs.map (Value.int .i64)
theorem intsC_length (xs : List Int) : (intsC xs).length = xs.length := by simp [intsC]
theorem cellsI_of (xs : List Int) : cellsI xs = (intsC xs).toArray := rfl
theorem aggI_of (xs : List Int) : aggI xs = .agg (intsC xs).toArray := rfl
theorem range_ints {w : World} {b o : Nat} {xs : List Int} (h : w.rangeAt b o (intsC xs)) {j : Nat} (hj : j < xs.length) : w.cell? ⟨b, o + j, none⟩ = some (.int .i64 (nth 0 xs j)) := range_int h hj
end Go.Proofs.Ytnllkgjmoipgbaa
