/- Arrays of numbers, by value and in memory. -/
import Derived.Test.YtnllkgjmoipgbaaGreatSl
import Derived.Deep.RegionHeld3
import Derived.Deep.DrawnRows
import Derived.Deep.MidRow
namespace Go.Proofs.YtnllkgjmoipgbaaGreat
open Go Go.RowKit
set_option linter.unusedSimpArgs false
set_option linter.unusedVariables false

theorem heap_setRow_ne (w : World) (g k : Nat) (cs : Array Value) (h : k ≠ g) : (w.setRow g cs).heap[k]? = w.heap[k]? := by
  unfold World.setRow
  rw [Array.getElem?_modify, if_neg (Ne.symm h)]
theorem size_setRow (w : World) (g : Nat) (cs : Array Value) : (w.setRow g cs).heap.size = w.heap.size := by unfold World.setRow; simp
theorem Blk.setRow {w : World} {b : Nat} {cs : Array Value} {t : TypeId} (h : Blk w b cs t) (cs' : Array Value) : Blk (w.setRow b cs') b cs' t := setRow_heap w b cs cs' t (0, 0) h
theorem Blk.setRow_other {w : World} {b g : Nat} {cs : Array Value} {t : TypeId} (h : Blk w b cs t) (cs' : Array Value) (hne : b ≠ g) : Blk (w.setRow g cs') b cs t := by
  unfold Blk at *; rw [heap_setRow_ne _ _ _ _ hne]; exact h
theorem below_setRow {B : Nat} {a w : World} (h : Below B a w) {g : Nat} (hg : B ≤ g) (cs : Array Value) : Below B a (w.setRow g cs) :=
  ⟨h.os, h.tape, h.output, by rw [size_setRow]; exact h.size, fun k hk => by rw [heap_setRow_ne _ _ _ _ (by omega)]; exact h.block k hk⟩

/-- An array of whole numbers, by value. -/
def aggI (xs : List Int) : Value := .agg (xs.map (Value.int .i64)).toArray
/-- Its cells. -/
def cellsI (xs : List Int) : Array Value := (xs.map (Value.int .i64)).toArray
theorem aggI_eq (xs : List Int) : aggI xs = .agg (cellsI xs) := rfl
theorem cellsI_size (xs : List Int) : (cellsI xs).size = xs.length := by simp [cellsI]
theorem cellsI_one (xs : List Int) : (cellsI xs).all (·.oneCell') = true := by
  rw [Array.all_eq_true_iff_forall_mem]; intro v hv
  simp [cellsI] at hv; obtain ⟨x, _, rfl⟩ := hv; rfl
theorem BlkL.int {w : World} {b : Nat} {xs : List Int} {t : TypeId} (h : BlkL (Value.int .i64) w b xs t) : Blk w b (cellsI xs) t := h
theorem Blk.toL {w : World} {b : Nat} {xs : List Int} {t : TypeId} (h : Blk w b (cellsI xs) t) : BlkL (Value.int .i64) w b xs t := h
/-- n zeros, behind a name. -/
def zeros (n : Nat) : List Int := List.replicate n 0
theorem zeros_length (n : Nat) : (zeros n).length = n := by simp [zeros]
theorem nth_zeros (n i : Nat) : nth 0 (zeros n) i = 0 := by
  by_cases h : i < n
  · rw [nth_lt (by simpa [zeros] using h)]; simp [zeros]
  · rw [nth_ge (by simpa [zeros] using h)]
theorem nth_set_eq {α : Type} {d : α} {xs : List α} {i : Nat} {y : α} (h : i < xs.length) : nth d (xs.set i y) i = y := by
  rw [nth_lt (by simpa using h)]; simp
theorem nth_set_ne {α : Type} {d : α} {xs : List α} {i j : Nat} {y : α} (h : i ≠ j) : nth d (xs.set i y) j = nth d xs j := by
  simp only [nth, List.getD_eq_getElem?_getD, List.getElem?_set_ne h]
theorem BlkL.at {w : World} {b : Nat} {xs : List Int} {t : TypeId} (h : BlkL (Value.int .i64) w b xs t) {i : Nat} (hi : i < xs.length) : w.cell? ⟨b, i, none⟩ = some (.int .i64 (nth 0 xs i)) := h.cell 0 hi

/-- What a call leaves whose one result is an array, or a struct, of its own. -/
theorem ret_row {P : Program} {fn : Func} {R : Ending → World → Prop} {a : Act} {w : World} {p : Tmp} {ty t : TypeId} {g : Nat} {cs : Array Value} {d : TypeDesc} (h : fn.results = #[.cell p ty])
    (hp : a.tmps.getD p undef = .pointer (some ⟨g, 0, none⟩)) (hg : Blk w g cs t) (hu : P.underlying ty = some d) (hd : (match d with | .struct _ | .array _ _ => true | _ => false) = true) (hi : (P.info? ty).map (·.size) = some cs.size)
    (hdf : a.defers = []) (hR : R (.returned (.agg cs)) w) : bodyPost P fn R .ret a w :=
  bodyPost_ret (results_cell_row h a.tmps w g t cs (0, 0) d hp hg hu hd hi) hdf hR

end Go.Proofs.YtnllkgjmoipgbaaGreat
