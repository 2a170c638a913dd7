/- Small lemmas for all walks of this work: worlds, endings, quiet calls. -/
import Derived.Test.YtnllkgjmoipgbaaGreatRows
import Derived.Test.YtnllkgjmoipgbaaGreatInts
import Derived.WalkKit
import Derived.Deep.QuietTactic
import Derived.BigQuiet
import Derived.Lib.Hide
import Derived.Lib.SmallJoins
import Derived.Deep.DeepCutAuto
import Derived.Deep.LoopGhost
namespace Go.Proofs.YtnllkgjmoipgbaaGreat
open Go Go.RowKit

theorem quiet_same {P : Program} {f : FuncId} {args : Array Value} {w : World} {n : Nat} {v : Value}
    (h : Calls P f args (w.drewN n) fun e w' => e = .returned v ∧ w.drewN n = w') : Calls P f args (w.drewN n) fun e w'' => e = .returned v ∧ ∃ m, w'' = w.drewN m :=
  h.mono fun _ _ ⟨he, hm⟩ => ⟨he, n, hm.symm⟩

theorem ret_int {k : IntKind} {a b : Int} (h : a = b) : Ending.returned (.int k a) = .returned (.int k b) := by rw [h]
theorem ret_bool {a b : Bool} (h : a = b) : Ending.returned (.bool a) = .returned (.bool b) := by rw [h]
theorem tup2 {k k' : IntKind} {a b c d : Int} (h : a = c) (h' : b = d) : Ending.returned (.tuple #[.int k a, .int k' b]) = .returned (.tuple #[.int k c, .int k' d]) := by rw [h, h']

theorem below_drewN {B : Nat} {a w : World} (h : Below B a w) (n : Nat) : Below B a (w.drewN n) := ⟨h.os, h.tape, h.output, h.size, h.block⟩
theorem below_alloc' {B : Nat} {a w : World} (h : Below B a w) (o : Obj) (hB : B ≤ w.heap.size) : Below B a (w.alloc o) := h.alloc hB o
/-- What was there before a call that leaves all that was there, is there behind it. -/
theorem bcell {W w1 : World} (hb : Below W.heap.size W w1) : (∀ b o, b < W.heap.size → w1.cell? ⟨b, o, none⟩ = W.cell? ⟨b, o, none⟩) ∧ (∀ b o, b < W.heap.size → w1.frozen? ⟨b, o, none⟩ = W.frozen? ⟨b, o, none⟩) :=
  ⟨fun b o h => hb.cell (p := ⟨b, o, none⟩) h, fun b o h => hb.frozen (p := ⟨b, o, none⟩) h⟩

/-- A block as it is: its cells; they may be written. -/
def Blk (w : World) (b : Nat) (cs : Array Value) (t : TypeId) : Prop := w.heap[b]? = some (.cells cs t (0, 0))
theorem Blk.lt {w : World} {b : Nat} {cs : Array Value} {t : TypeId} (h : Blk w b cs t) : b < w.heap.size := by
  unfold Blk at h
  rcases Nat.lt_or_ge b w.heap.size with hl | hl
  · exact hl
  · rw [Array.getElem?_eq_none hl] at h; cases h
theorem Blk.cell {w : World} {b : Nat} {cs : Array Value} {t : TypeId} (h : Blk w b cs t) (i : Nat) : w.cell? ⟨b, i, none⟩ = cs[i]? := by simp [World.cell?, show w.heap[b]? = _ from h]
theorem Blk.free {w : World} {b : Nat} {cs : Array Value} {t : TypeId} (h : Blk w b cs t) (i : Nat) : w.frozen? ⟨b, i, none⟩ = false := by simp [World.frozen?, show w.heap[b]? = _ from h]
theorem Blk.new (w : World) (cs : Array Value) (t : TypeId) : Blk (w.alloc (.cells cs t)) w.heap.size cs t := by unfold Blk; show (w.heap.push _)[w.heap.size]? = _; simp
theorem Blk.alloc {w : World} {b : Nat} {cs : Array Value} {t : TypeId} (h : Blk w b cs t) (o : Obj) : Blk (w.alloc o) b cs t := by
  have hl := h.lt
  unfold Blk at *; rw [Below.heap_alloc _ _ _ hl]; exact h
theorem Blk.drewN {w : World} {b : Nat} {cs : Array Value} {t : TypeId} (h : Blk w b cs t) (n : Nat) : Blk (w.drewN n) b cs t := h
theorem Blk.drew {w : World} {b : Nat} {cs : Array Value} {t : TypeId} (h : Blk w b cs t) : Blk w.drew b cs t := h
theorem Blk.below {w w' : World} {b : Nat} {cs : Array Value} {t : TypeId} (h : Blk w b cs t) (hb : Below w.heap.size w w') : Blk w' b cs t := by
  have hl := h.lt
  unfold Blk at *; rw [hb.block b hl]; exact h
theorem Blk.set {w : World} {b i : Nat} {cs : Array Value} {t : TypeId} (h : Blk w b cs t) (v : Value) : Blk (w.setCell ⟨b, i, none⟩ v) b (cs.setIfInBounds i v) t := Go.Joins.block_setCell h v
theorem Blk.other {w : World} {b i b' : Nat} {cs : Array Value} {t : TypeId} (h : Blk w b cs t) (v : Value) (hne : b ≠ b') : Blk (w.setCell ⟨b', i, none⟩ v) b cs t := by
  unfold Blk at *; rw [Below.heap_setCell _ _ _ _ hne]; exact h

theorem Blk.grown {w w' : World} {b : Nat} {cs : Array Value} {t : TypeId} {row : Option Nat} (h : Blk w b cs t) (hg : w.grownBy w' row) (hne : some b ≠ row) : Blk w' b cs t := by
  have hl := h.lt
  unfold Blk at *; rw [hg.block b hl hne]; exact h

/-- A slice of the call's own: its elements, each of one cell. -/
def Own {α : Type} (f : α → Value) (w : World) (base : Nat) (e : TypeId) (v : Value) (xs : List α) : Prop := w.ownsRow base e 1 v xs.length (xs.map f)
theorem own_block_ge {w : World} {base : Nat} {e : TypeId} {size n : Nat} {v : Value} {xs : List Value} (h : w.ownsRow base e size v n xs) : ∀ b, v.ownBlock = some b → base ≤ b := by
  rcases h with ⟨_, ⟨rfl, _⟩ | ⟨g, cap, cur, rfl, hb, _⟩⟩
  · intro b hb; simp [Value.ownBlock] at hb
  · intro b hb'; simp [Value.ownBlock] at hb'; omega
theorem Own.ge {α : Type} {f : α → Value} {w : World} {base : Nat} {e : TypeId} {v : Value} {xs : List α} (h : Own f w base e v xs) : ∀ b, v.ownBlock = some b → base ≤ b := own_block_ge h

theorem Own.alloc {α : Type} {f : α → Value} {w : World} {base : Nat} {e : TypeId} {v : Value} {xs : List α} (h : Own f w base e v xs) (o : Obj) : Own f (w.alloc o) base e v xs := World.ownsRow.alloc h o
theorem Own.drewN {α : Type} {f : α → Value} {w : World} {base : Nat} {e : TypeId} {v : Value} {xs : List α} (h : Own f w base e v xs) (n : Nat) : Own f (w.drewN n) base e v xs := h

/-- 'append(out, x)': one element of one cell, onto a slice of the call's own. -/
theorem wpList_app1 {P : Program} {α : Type} {f : α → Value} {w : World} {ops : Array Oper} {rest : List Oper} {o : Oper} {a : Act} {Q : Exit → Act → World → Prop} (hgd : o.guard = none) (s x : Operand) (t : TypeId)
    (ho : o.op = .call { callee := .builtin .append, args := #[s, x], argTypes := #[t, t] })
    (base : Nat) (e : TypeId) (i : TypeInfo) (z : Value) (bytes : Nat) (ht : P.underlying t = some (.slice e)) (hi : P.info? e = some i) (hz : i.zero = some z)
    (hsize : i.size = 1) (hby : i.bytes = bytes) (hzs : z.cells.size = 1) (v : Value) (xs : List α) (hs : a.eval s = v) (hown : Own f w base e v xs)
    (g c : Nat) (y : α) (hx : a.eval x = .slice (some ⟨g, 0, none⟩) 1 c) (hy : w.cell? ⟨g, 0, none⟩ = some (f y)) (h1 : (f y).oneCell' = true)
    (hb0 : 0 < bytes) (hbytes : (xs.length + 1) * bytes ≤ 140737488355328) (hbase : base ≤ w.heap.size)
    (h : ∀ v' w', Own f w' base e v' (xs ++ [y]) → w.grownBy w' v.ownBlock → wpList P ops Q rest (a.put o.dst v') w') : wpList P ops Q (o :: rest) a w := by
  have h63 : xs.length + 1 ≤ maxLen := by
    unfold maxLen
    have := Nat.le_trans (Nat.le_mul_of_pos_right (xs.length + 1) hb0) hbytes
    omega
  refine wpList_append_own w hgd s x t ho base e i z 1 bytes ht hi hz hsize hby hzs (by decide) v xs.length (xs.map f) hs hown ⟨g, 0, none⟩ 1 c [f y] hx rfl ?_ (by simpa using h1) h63 hbytes hbase ?_
  · intro j u hu
    rcases j with _ | j
    · simp at hu; subst hu; exact hy
    · simp at hu
  · intro v' w' ho' hg' _
    exact h v' w' (by unfold Own; simpa using ho') hg'

/-- A block whose cells encode a list. -/
def BlkL {α : Type} (f : α → Value) (w : World) (b : Nat) (xs : List α) (t : TypeId) : Prop := Blk w b (xs.map f).toArray t
theorem BlkL.cell {α : Type} {f : α → Value} {w : World} {b : Nat} {xs : List α} {t : TypeId} (h : BlkL f w b xs t) (d : α) {i : Nat} (hi : i < xs.length) : w.cell? ⟨b, i, none⟩ = some (f (xs.getD i d)) := by
  rw [Blk.cell h]; simp [List.getD_eq_getElem?_getD, hi]
theorem BlkL.set {α : Type} {f : α → Value} {w : World} {b i : Nat} {xs : List α} {t : TypeId} (h : BlkL f w b xs t) (y : α) : BlkL f (w.setCell ⟨b, i, none⟩ (f y)) b (xs.set i y) t := by
  have := Blk.set (i := i) h (f y)
  unfold BlkL; simpa using this
theorem BlkL.of_made {α : Type} {f : α → Value} {w : World} {d : α} {n g : Nat} {t : TypeId} (h : Blk w g (madeCells #[f d] n) t) : BlkL f w g (List.replicate n d) t := by
  have e : madeCells #[f d] n = ((List.replicate n d).map f).toArray := by
    apply Array.ext'; rw [toList_madeCells_one]; simp
  unfold BlkL; rw [← e]; exact h
theorem Blk.new' (w : World) (cs : Array Value) (t : TypeId) {n : Nat} (h : n = w.heap.size) : Blk (w.alloc (.cells cs t)) n cs t := by subst h; exact Blk.new w cs t
theorem BlkL.made {α : Type} {f : α → Value} (w : World) (d : α) (n : Nat) (t : TypeId) {g : Nat} (hg : g = w.heap.size) : BlkL f (w.alloc (.cells (madeCells #[f d] n) t)) g (List.replicate n d) t := by
  subst hg
  have e : madeCells #[f d] n = ((List.replicate n d).map f).toArray := by
    apply Array.ext'; rw [toList_madeCells_one]; simp
  unfold BlkL; rw [e]; exact Blk.new _ _ _

theorem w64_65536 (n : Int) : wrap64 n % 65536 = n % 65536 := w64_mod n 65536 (by decide)
theorem add_w64_65536 (a n : Int) : (a + wrap64 n) % 65536 = (a + n) % 65536 := by
  have := w64_65536 n; omega

end Go.Proofs.YtnllkgjmoipgbaaGreat
