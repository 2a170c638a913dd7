/- Video memory as plain data, and its object in the heap; worlds in which no block but some has turned. -/
import Derived.Test.YtnllkgjmoipgbaaArr
import Derived.Below
namespace Go.Proofs.Ytnllkgjmoipgbaa
open Go Go.RowKit
set_option linter.unusedSimpArgs false
set_option linter.unusedVariables false

/-- No block that was there has turned, but those of a list. -/
structure Tr (S : List Nat) (w w' : World) : Prop where
  os : w'.os = w.os
  tape : w'.tape = w.tape
  output : w'.output = w.output
  size : w.heap.size ≤ w'.heap.size
  block : ∀ k, k < w.heap.size → k ∉ S → w'.heap[k]? = w.heap[k]?

theorem Tr.refl (S : List Nat) (w : World) : Tr S w w := ⟨rfl, rfl, rfl, Nat.le_refl _, fun _ _ _ => rfl⟩
theorem Tr.trans {S : List Nat} {a b c : World} (h : Tr S a b) (k : Tr S b c) : Tr S a c :=
  ⟨k.os.trans h.os, k.tape.trans h.tape, k.output.trans h.output, Nat.le_trans h.size k.size, fun i hi hn => (k.block i (Nat.lt_of_lt_of_le hi h.size) hn).trans (h.block i hi hn)⟩
theorem Tr.mono {S S' : List Nat} {a b : World} (h : Tr S a b) (hS : ∀ k ∈ S, k ∈ S') : Tr S' a b :=
  ⟨h.os, h.tape, h.output, h.size, fun i hi hn => h.block i hi (fun hm => hn (hS i hm))⟩
theorem Tr.setCell {S : List Nat} {a w : World} (h : Tr S a w) {b : Nat} (i : Nat) (hb : b ∈ S) (v : Value) : Tr S a (w.setCell ⟨b, i, none⟩ v) :=
  h.trans ⟨rfl, rfl, rfl, by simp [World.setCell], fun k _ hn => Below.heap_setCell _ _ _ _ (fun he => hn (he ▸ hb))⟩
theorem Tr.drewN {S : List Nat} {a w : World} (h : Tr S a w) (n : Nat) : Tr S a (w.drewN n) := ⟨h.os, h.tape, h.output, h.size, h.block⟩
theorem Tr.drew {S : List Nat} {a w : World} (h : Tr S a w) : Tr S a w.drew := ⟨h.os, h.tape, h.output, h.size, h.block⟩
theorem Tr.alloc {S : List Nat} {a w : World} (h : Tr S a w) (o : Obj) : Tr S a (w.alloc o) :=
  h.trans ⟨rfl, rfl, rfl, ((Below.refl w.heap.size w).alloc (Nat.le_refl _) o).size, fun k hk _ => Below.heap_alloc _ _ _ hk⟩
theorem Tr.of_below {S : List Nat} {a w w' : World} (h : Tr S a w) (hb : Below w.heap.size w w') : Tr S a w' :=
  h.trans ⟨hb.os, hb.tape, hb.output, hb.size, fun k hk _ => hb.block k hk⟩
theorem Tr.of_below0 {S : List Nat} {w w' : World} (hb : Below w.heap.size w w') : Tr S w w' := (Tr.refl S w).of_below hb
theorem Tr.setRow {S : List Nat} {a w : World} (h : Tr S a w) {b : Nat} (hb : a.heap.size ≤ b) (cs : Array Value) : Tr S a (w.setRow b cs) :=
  ⟨h.os, h.tape, h.output, by rw [size_setRow]; exact h.size, fun k hk hn => (heap_setRow_ne _ _ _ _ (by omega)).trans (h.block k hk hn)⟩
/-- What a call left that may turn blocks of the call's own alone. -/
theorem Tr.below {S : List Nat} {B : Nat} {a w w' : World} (h : Below B a w) (k : Tr S w w') (hB : B ≤ a.heap.size) (hS : ∀ b ∈ S, B ≤ b) : Below B a w' :=
  ⟨k.os.trans h.os, k.tape.trans h.tape, k.output.trans h.output, Nat.le_trans h.size k.size, fun i hi =>
    (k.block i (Nat.lt_of_lt_of_le hi (Nat.le_trans hB h.size)) (fun hm => by have := hS i hm; omega)).trans (h.block i hi)⟩
theorem Tr.to_below {S : List Nat} {B : Nat} {w w' : World} (k : Tr S w w') (hB : B ≤ w.heap.size) (hS : ∀ b ∈ S, B ≤ b) : Below B w w' := Tr.below (Below.refl _ _) k hB hS
theorem Blk.tr {S : List Nat} {w w' : World} {b : Nat} {cs : Array Value} {t : TypeId} (h : Blk w b cs t) (k : Tr S w w') (hn : b ∉ S) : Blk w' b cs t := by
  have hl := h.lt
  unfold Blk at *; rw [k.block b hl hn]; exact h

/-- Video memory: its words, and its ports. -/
structure VS where
  W : List Int
  wr : Int
  rd : Int
  st : Int
  lo : Int
  bu : Int

def VS.word (V : VS) (p : Int) : Int := if p % 65536 < 32768 then nth 0 V.W (p % 65536).toNat else 0
def VS.poke (V : VS) (p w : Int) : VS := if p % 65536 < 32768 then { V with W := V.W.set (p % 65536).toNat (w % 65536) } else V
def VS.setWr (V : VS) (p : Int) : VS := { V with wr := p % 65536 }
def VS.setRd (V : VS) (p : Int) : VS := { V with rd := p % 65536, bu := V.word p }
def VS.setSt (V : VS) (n : Int) : VS := { V with st := n % 65536 }
def VS.putLo (V : VS) (b : Int) : VS := { V with lo := b % 256 }
def VS.putHi (V : VS) (b : Int) : VS := (V.poke V.wr (V.lo + 256 * (b % 256))).setWr (V.wr + V.st)
def VS.put (V : VS) (high : Bool) (b : Int) : VS := if high then V.putHi b else V.putLo b
def VS.get (V : VS) (high : Bool) : Int := if high then V.bu / 256 else V.bu % 256
def VS.got (V : VS) (high : Bool) : VS := if high then V.setRd (V.rd + V.st) else V
def VS.new : VS := ⟨zeros 32768, 0, 0, 1, 0, 0⟩

structure VS.Ok (V : VS) : Prop where
  len : V.W.length = 32768
  each : ∀ i, 0 ≤ nth 0 V.W i ∧ nth 0 V.W i < 65536
  wr : 0 ≤ V.wr ∧ V.wr < 65536
  rd : 0 ≤ V.rd ∧ V.rd < 65536
  st : 0 ≤ V.st ∧ V.st < 65536
  lo : 0 ≤ V.lo ∧ V.lo < 256
  bu : 0 ≤ V.bu ∧ V.bu < 65536

theorem VS.Ok.new : VS.new.Ok := by
  refine ⟨zeros_length _, fun i => ?_, by decide, by decide, by decide, by decide, by decide⟩
  have h : nth 0 VS.new.W i = 0 := nth_zeros 32768 i
  rw [h]; decide
theorem VS.Ok.word {V : VS} (h : V.Ok) (p : Int) : 0 ≤ V.word p ∧ V.word p < 65536 := by
  unfold VS.word; split
  · exact h.each _
  · decide
theorem VS.Ok.poke {V : VS} (h : V.Ok) (p w : Int) : (V.poke p w).Ok := by
  unfold VS.poke; split
  · rename_i hp
    refine ⟨by simpa using h.len, fun i => ?_, h.wr, h.rd, h.st, h.lo, h.bu⟩
    show 0 ≤ nth 0 (V.W.set _ _) i ∧ _
    by_cases hi : (p % 65536).toNat = i
    · subst hi; rw [nth_set_eq (by rw [h.len]; omega)]; omega
    · rw [nth_set_ne hi]; exact h.each i
  · exact h
theorem VS.Ok.setWr {V : VS} (h : V.Ok) (p : Int) : (V.setWr p).Ok := ⟨h.len, h.each, by unfold VS.setWr; simp only; omega, h.rd, h.st, h.lo, h.bu⟩
theorem VS.Ok.setRd {V : VS} (h : V.Ok) (p : Int) : (V.setRd p).Ok := ⟨h.len, h.each, h.wr, by unfold VS.setRd; simp only; omega, h.st, h.lo, h.word p⟩
theorem VS.Ok.setSt {V : VS} (h : V.Ok) (p : Int) : (V.setSt p).Ok := ⟨h.len, h.each, h.wr, h.rd, by unfold VS.setSt; simp only; omega, h.lo, h.bu⟩
theorem VS.Ok.putLo {V : VS} (h : V.Ok) (p : Int) : (V.putLo p).Ok := ⟨h.len, h.each, h.wr, h.rd, h.st, by unfold VS.putLo; simp only; omega, h.bu⟩
theorem VS.Ok.putHi {V : VS} (h : V.Ok) (b : Int) : (V.putHi b).Ok := (h.poke _ _).setWr _
theorem VS.Ok.put {V : VS} (h : V.Ok) (hi : Bool) (b : Int) : (V.put hi b).Ok := by unfold VS.put; split; exact h.putHi b; exact h.putLo b
theorem VS.Ok.got {V : VS} (h : V.Ok) (hi : Bool) : (V.got hi).Ok := by unfold VS.got; split; exact h.setRd _; exact h

/-- Its struct's cells; c: the words' capacity. -/
def VS.cells (V : VS) (g c : Nat) : Array Value := #[.slice (some ⟨g, 0, none⟩) 32768 c, .int .i64 V.wr, .int .i64 V.rd, .int .i64 V.st, .int .i64 V.lo, .int .i64 V.bu]
/-- The object: its struct in block p, its words in block g, which may have room behind them. -/
structure VAt (t : TypeId) (w : World) (p g : Nat) (V : VS) : Prop where
  obj : ∃ R : List Value, Blk w p (V.cells g (32768 + R.length)) t ∧ Blk w g (V.W.map (Value.int .i64) ++ R).toArray 3
  ok : V.Ok
  ne : p ≠ g

theorem VAt.tr {t : TypeId} {S : List Nat} {w w' : World} {p g : Nat} {V : VS} (h : VAt t w p g V) (k : Tr S w w') (hp : p ∉ S) (hg : g ∉ S) : VAt t w' p g V :=
  let ⟨R, h1, h2⟩ := h.obj
  ⟨⟨R, Blk.tr h1 k hp, Blk.tr h2 k hg⟩, h.ok, h.ne⟩
theorem VAt.below {t : TypeId} {w w' : World} {p g : Nat} {V : VS} (h : VAt t w p g V) (hb : Below w.heap.size w w') : VAt t w' p g V :=
  let ⟨R, h1, h2⟩ := h.obj
  ⟨⟨R, Blk.below h1 hb, Blk.below h2 hb⟩, h.ok, h.ne⟩
theorem VAt.drewN {t : TypeId} {w : World} {p g : Nat} {V : VS} (h : VAt t w p g V) (n : Nat) : VAt t (w.drewN n) p g V := ⟨h.obj, h.ok, h.ne⟩
theorem VAt.lt {t : TypeId} {w : World} {p g : Nat} {V : VS} (h : VAt t w p g V) : p < w.heap.size ∧ g < w.heap.size :=
  let ⟨R, h1, h2⟩ := h.obj
  ⟨Blk.lt h1, Blk.lt h2⟩
theorem VAt.c {t : TypeId} {w : World} {p g : Nat} {V : VS} (h : VAt t w p g V) : ∃ c, 32768 ≤ c ∧
    w.cell? ⟨p, 0, none⟩ = some (.slice (some ⟨g, 0, none⟩) 32768 c) ∧ w.cell? ⟨p, 1, none⟩ = some (.int .i64 V.wr) ∧ w.cell? ⟨p, 2, none⟩ = some (.int .i64 V.rd) ∧
    w.cell? ⟨p, 3, none⟩ = some (.int .i64 V.st) ∧ w.cell? ⟨p, 4, none⟩ = some (.int .i64 V.lo) ∧ w.cell? ⟨p, 5, none⟩ = some (.int .i64 V.bu) :=
  let ⟨R, h1, h2⟩ := h.obj
  ⟨32768 + R.length, Nat.le_add_right _ _, Blk.cell h1 0, Blk.cell h1 1, Blk.cell h1 2, Blk.cell h1 3, Blk.cell h1 4, Blk.cell h1 5⟩
theorem VAt.f {t : TypeId} {w : World} {p g : Nat} {V : VS} (h : VAt t w p g V) (i : Nat) : w.frozen? ⟨p, i, none⟩ = false :=
  let ⟨R, h1, h2⟩ := h.obj
  Blk.free h1 i
theorem VAt.freeW {t : TypeId} {w : World} {p g : Nat} {V : VS} (h : VAt t w p g V) (i : Nat) : w.frozen? ⟨g, i, none⟩ = false :=
  let ⟨R, h1, h2⟩ := h.obj
  Blk.free h2 i
theorem VAt.wordAt {t : TypeId} {w : World} {p g : Nat} {V : VS} (h : VAt t w p g V) {i : Nat} (hi : i < 32768) : w.cell? ⟨g, i, none⟩ = some (.int .i64 (nth 0 V.W i)) := by
  obtain ⟨R, h1, h2⟩ := h.obj
  have hl := h.ok.len
  rw [Blk.cell h2]
  unfold nth
  simp only [List.getD_eq_getElem?_getD, List.getElem?_toArray]
  rw [List.getElem?_append_left (by simp; omega), List.getElem?_map, List.getElem?_eq_getElem (by omega)]
  rfl

theorem VAt.setW {t : TypeId} {w : World} {p g : Nat} {V : VS} (h : VAt t w p g V) (at' x : Int) (hp : at' % 65536 < 32768) : VAt t (w.setCell ⟨g, (at' % 65536).toNat, none⟩ (.int .i64 (x % 65536))) p g (V.poke at' x) := by
  have hk := h.ok.poke at' x
  have hl := h.ok.len
  obtain ⟨R, h1, h2⟩ := h.obj
  unfold VS.poke at *
  rw [if_pos hp] at *
  refine ⟨⟨R, Blk.other h1 _ h.ne, ?_⟩, hk, h.ne⟩
  have := Blk.set (i := (at' % 65536).toNat) h2 (.int .i64 (x % 65536))
  rw [List.setIfInBounds_toArray, List.set_append_left _ _ (by simp; omega)] at this
  rw [List.map_set]; exact this
theorem VAt.setC {t : TypeId} {w : World} {p g : Nat} {V V' : VS} (h : VAt t w p g V) (i : Nat) (v : Value) (hc : ∀ c, (V.cells g c).setIfInBounds i v = V'.cells g c) (hW : V'.W = V.W) (hk : V'.Ok) : VAt t (w.setCell ⟨p, i, none⟩ v) p g V' :=
  let ⟨R, h1, h2⟩ := h.obj
  ⟨⟨R, by rw [← hc]; exact Blk.set h1 v, by rw [hW]; exact Blk.other h2 _ (Ne.symm h.ne)⟩, hk, h.ne⟩
theorem VAt.setWr {t : TypeId} {w : World} {p g : Nat} {V : VS} (h : VAt t w p g V) (x : Int) : VAt t (w.setCell ⟨p, 1, none⟩ (.int .i64 (x % 65536))) p g (V.setWr x) := h.setC 1 _ (fun _ => rfl) rfl (h.ok.setWr x)
theorem VAt.setSt {t : TypeId} {w : World} {p g : Nat} {V : VS} (h : VAt t w p g V) (x : Int) : VAt t (w.setCell ⟨p, 3, none⟩ (.int .i64 (x % 65536))) p g (V.setSt x) := h.setC 3 _ (fun _ => rfl) rfl (h.ok.setSt x)
theorem VAt.putLo {t : TypeId} {w : World} {p g : Nat} {V : VS} (h : VAt t w p g V) (x : Int) : VAt t (w.setCell ⟨p, 4, none⟩ (.int .i64 (x % 256))) p g (V.putLo x) := h.setC 4 _ (fun _ => rfl) rfl (h.ok.putLo x)
theorem VAt.setRd {t : TypeId} {w : World} {p g : Nat} {V : VS} (h : VAt t w p g V) (x : Int) : VAt t ((w.setCell ⟨p, 2, none⟩ (.int .i64 (x % 65536))).setCell ⟨p, 5, none⟩ (.int .i64 (V.word x))) p g (V.setRd x) :=
  (h.setC (V' := { V with rd := x % 65536 }) 2 _ (fun _ => rfl) rfl ⟨h.ok.len, h.ok.each, h.ok.wr, by simp only; omega, h.ok.st, h.ok.lo, h.ok.bu⟩).setC (V' := V.setRd x) 5 _ (fun _ => rfl) rfl (h.ok.setRd x)

theorem VAt.rd1 {t : TypeId} {w : World} {p g : Nat} {V : VS} (h : VAt t w p g V) (x : Int) : VAt t (w.setCell ⟨p, 2, none⟩ (.int .i64 (x % 65536))) p g { V with rd := x % 65536 } :=
  h.setC 2 _ (fun _ => rfl) rfl ⟨h.ok.len, h.ok.each, h.ok.wr, by simp only; omega, h.ok.st, h.ok.lo, h.ok.bu⟩

/-- Two objects of one video memory: the program's, and the reference's. -/
theorem VS.word_mod (V : VS) (p : Int) : V.word (p % 65536) = V.word p := by unfold VS.word; rw [Int.emod_emod_of_dvd _ (Int.dvd_refl _)]
theorem VS.poke_mod (V : VS) (p w : Int) : V.poke (p % 65536) w = V.poke p w := by unfold VS.poke; rw [Int.emod_emod_of_dvd _ (Int.dvd_refl _)]
theorem VS.setRd_mod (V : VS) (p : Int) : V.setRd (p % 65536) = V.setRd p := by unfold VS.setRd; rw [VS.word_mod, Int.emod_emod_of_dvd _ (Int.dvd_refl _)]

end Go.Proofs.Ytnllkgjmoipgbaa
