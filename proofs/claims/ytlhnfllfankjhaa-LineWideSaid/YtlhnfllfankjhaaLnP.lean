/- Printed by merge.py: Mid, Vce, Regs, Ro, RegsB, MadeV. -/
import Derived.Test.YtlhnfllfankjhaaVs
import Derived.Test.YtlhnfllfankjhaaRl
import Derived.Test.YtlhnfllfankjhaaQb
import Derived.Deep.MidRow
import Derived.Test.YtlhnfllfankjhaaDmaB
import Derived.Test.YtlhnfllfankjhaaRn
import Derived.Deep.RegionWith
import Derived.Test.YtlhnfllfankjhaaSprA
namespace Go.Proofs.Ytlhnfllfankjhaa
open Go Go.RowKit
set_option linter.unusedSimpArgs false
set_option linter.unusedVariables false

theorem range_of_blk {w : World} {b : Nat} {cs : List Value} {t : TypeId} (h : Blk w b cs.toArray t) : w.rangeAt b 0 cs := fun j v hv => by
  rw [Nat.zero_add, Blk.cell h]; simpa using hv
theorem there_of_blk {w : World} {b : Nat} {cs : List Value} {t : TypeId} (h : Blk w b cs.toArray t) {o n : Nat} (hn : o + n ≤ cs.length) : w.there b o n := fun j hj => by
  refine ⟨?_, Blk.free h _⟩
  rw [Blk.cell h]; simp; omega
theorem range_split {w : World} {b o : Nat} {xs ys : List Value} (h : w.rangeAt b o (xs ++ ys)) {n : Nat} (hn : xs.length = n) : w.rangeAt b o xs ∧ w.rangeAt b (o + n) ys := by
  subst hn
  refine ⟨fun j v hv => h j v ?_, fun j v hv => ?_⟩
  · rw [List.getElem?_append_left (List.getElem?_eq_some_iff.1 hv).1]; exact hv
  · have := h (xs.length + j) v (by rw [List.getElem?_append_right (by omega)]; simpa using hv)
    rw [← Nat.add_assoc] at this; exact this
theorem range_join {w : World} {b o n : Nat} {xs ys : List Value} (h1 : w.rangeAt b o xs) (hn : xs.length = n) (h2 : w.rangeAt b (o + n) ys) : w.rangeAt b o (xs ++ ys) := by
  subst hn
  intro j v hv
  by_cases hj : j < xs.length
  · rw [List.getElem?_append_left hj] at hv; exact h1 j v hv
  · rw [List.getElem?_append_right (by omega)] at hv
    have := h2 _ v hv
    rwa [show o + xs.length + (j - xs.length) = o + j by omega] at this
theorem range_one {w : World} {b o : Nat} {v : Value} (h : w.rangeAt b o [v]) : w.cell? ⟨b, o, none⟩ = some v := h 0 v rfl
theorem range_cons {w : World} {b o : Nat} {v : Value} {ys : List Value} (h : w.rangeAt b o (v :: ys)) : w.cell? ⟨b, o, none⟩ = some v ∧ w.rangeAt b (o + 1) ys :=
  ⟨h 0 v rfl, (range_split (xs := [v]) h rfl).2⟩
theorem range_nth {α : Type} {f : α → Value} {w : World} {b o : Nat} {xs : List α} (h : w.rangeAt b o (xs.map f)) (d : α) {j : Nat} (hj : j < xs.length) : w.cell? ⟨b, o + j, none⟩ = some (f (nth d xs j)) :=
  h j _ (by rw [List.getElem?_map, List.getElem?_eq_getElem hj, nth_lt hj]; rfl)
theorem range_int {w : World} {b o : Nat} {xs : List Int} (h : w.rangeAt b o (xs.map (Value.int .i64))) {j : Nat} (hj : j < xs.length) : w.cell? ⟨b, o + j, none⟩ = some (.int .i64 (nth 0 xs j)) := range_nth h 0 hj
theorem range_below {w w' : World} {b o : Nat} {cs : List Value} (h : w.rangeAt b o cs) (hb : Below w.heap.size w w') : w'.rangeAt b o cs := fun j v hv => by
  have := h j v hv
  rw [hb.cell (World.block_lt_of_cell? w _ this)]; exact this
theorem range_tr {w w' : World} {S : List Nat} {b o : Nat} {cs : List Value} (h : w.rangeAt b o cs) (hb : Tr S w w') (hn : b ∉ S) : w'.rangeAt b o cs := fun j v hv => by
  have h1 := h j v hv
  have hl : b < w.heap.size := World.block_lt_of_cell? w ⟨b, o + j, none⟩ h1
  have e : w'.heap[b]? = w.heap[b]? := hb.block b hl hn
  have : w'.cell? ⟨b, o + j, none⟩ = w.cell? ⟨b, o + j, none⟩ := by simp [World.cell?, e]
  rw [this]; exact h1
theorem there_below {w w' : World} {b o n : Nat} (h : w.there b o n) (hb : Below w.heap.size w w') : w'.there b o n := fun j hj => by
  obtain ⟨h1, h2⟩ := h j hj
  obtain ⟨v, hv⟩ := Option.isSome_iff_exists.1 h1
  have hl := World.block_lt_of_cell? w _ hv
  exact ⟨by rw [hb.cell hl]; exact h1, by rw [hb.frozen hl]; exact h2⟩
theorem there_tr {w w' : World} {S : List Nat} {b o n : Nat} (h : w.there b o n) (hb : Tr S w w') (hn : b ∉ S) : w'.there b o n := fun j hj => by
  obtain ⟨h1, h2⟩ := h j hj
  obtain ⟨v, hv⟩ := Option.isSome_iff_exists.1 h1
  have hl : b < w.heap.size := World.block_lt_of_cell? w ⟨b, o + j, none⟩ hv
  have e : w'.heap[b]? = w.heap[b]? := hb.block b hl hn
  have e1 : w'.cell? ⟨b, o + j, none⟩ = w.cell? ⟨b, o + j, none⟩ := by simp [World.cell?, e]
  have e2 : w'.frozen? ⟨b, o + j, none⟩ = w.frozen? ⟨b, o + j, none⟩ := by simp [World.frozen?, e]
  exact ⟨by rw [e1]; exact h1, by rw [e2]; exact h2⟩

/-- What a row that is written over leaves. -/
def laidL : List Value → Nat → List Value → List Value
  | cs, _, [] => cs
  | cs, o, v :: r => laidL (cs.set o v) (o + 1) r
theorem laidL_length : ∀ (vs cs : List Value) (o : Nat), (laidL cs o vs).length = cs.length
  | [], _, _ => rfl
  | v :: r, cs, o => by rw [laidL, laidL_length r]; simp
theorem laidL_mid : ∀ (vs pr xs bs : List Value), xs.length = vs.length → laidL (pr ++ (xs ++ bs)) pr.length vs = pr ++ (vs ++ bs)
  | [], pr, xs, bs, h => by rw [List.length_eq_zero_iff.1 h]; rfl
  | v :: r, pr, [], bs, h => by simp at h
  | v :: r, pr, x :: xs, bs, h => by
    rw [laidL]
    have e : (pr ++ (x :: xs ++ bs)).set pr.length v = (pr ++ [v]) ++ (xs ++ bs) := by
      rw [List.set_append_right _ _ (Nat.le_refl _)]; simp
    rw [e]
    have := laidL_mid r (pr ++ [v]) xs bs (by simpa using h)
    rw [List.length_append, List.length_singleton] at this
    rw [this]; simp
theorem Blk.laid : ∀ (vs : List Value) {w : World} {b : Nat} {cs : List Value} {t : TypeId} (o : Nat), Blk w b cs.toArray t → Blk (w.setCells b o vs) b (laidL cs o vs).toArray t
  | [], _, _, _, _, _, h => h
  | v :: r, w, b, cs, t, o, h => by
    rw [World.setCells, laidL]
    refine Blk.laid r (o + 1) ?_
    have := Blk.set (i := o) h v
    rwa [List.setIfInBounds_toArray] at this
theorem Blk.laid_other : ∀ (vs : List Value) {w : World} {b g : Nat} {cs : Array Value} {t : TypeId} (o : Nat), Blk w b cs t → b ≠ g → Blk (w.setCells g o vs) b cs t
  | [], _, _, _, _, _, _, h, _ => h
  | v :: r, w, b, g, cs, t, o, h, hn => by rw [World.setCells]; exact Blk.laid_other r (o + 1) (Blk.other h _ hn) hn
theorem below_laid {B : Nat} : ∀ (vs : List Value) {a w : World} {g : Nat} (o : Nat), Below B a w → B ≤ g → Below B a (w.setCells g o vs)
  | [], _, _, _, _, h, _ => h
  | v :: r, a, w, g, o, h, hg => by rw [World.setCells]; exact below_laid r (o + 1) (h.setCell (by simpa using hg) _) hg
theorem Tr.laid {S : List Nat} : ∀ (vs : List Value) {a w : World} {g : Nat} (o : Nat), Tr S a w → g ∈ S → Tr S a (w.setCells g o vs)
  | [], _, _, _, _, h, _ => h
  | v :: r, a, w, g, o, h, hg => by rw [World.setCells]; exact Tr.laid r (o + 1) (h.setCell _ hg _) hg

/-- A row out of the middle of a block, at the head of a region that draws its order. -/
theorem mid_upon {P : Program} {o : Oper} {a : Act} {D : World → Prop} {w : World} (ty : TypeId) (x : Operand) (ho : o.op = .load ty x)
    (g off : Nat) (hx : a.eval x = .pointer (some ⟨g, off, none⟩)) (cs : List Value) (d : TypeDesc) (hg : w.rangeAt g off cs)
    (hu : P.underlying ty = some d) (hd : d.isRow = true) (hi : (P.info? ty).map (·.size) = some cs.length) (hD : D w) : lUpon P D (.agg cs.toArray) ((execOp a.eval o).run P w) := by
  unfold execOp
  simp only [ho, hx, Instr.loadAt, Instr.sureAddr, Sem.run_bind, Sem.run_pure, Result.andThen_ok, run_loadVar_mid w g off ty cs d hg hu hd hi, lUpon]
  exact ⟨hD, trivial⟩
theorem quiet_load_mid {P : Program} {o : Oper} {a : Act} {C : World → Prop} {w : World} (ty : TypeId) (x : Operand) (ho : o.op = .load ty x)
    (g off : Nat) (hx : a.eval x = .pointer (some ⟨g, off, none⟩)) (cs : List Value) (d : TypeDesc) (hg : w.rangeAt g off cs)
    (hu : P.underlying ty = some d) (hd : d.isRow = true) (hi : (P.info? ty).map (·.size) = some cs.length) : o.quietAt P a C w (.agg cs.toArray) := by
  unfold Oper.quietAt execOp
  simp only [ho, hx, Instr.loadAt, Instr.sureAddr, Sem.run_bind, Sem.run_pure, Result.andThen_ok, run_loadVar_mid w g off ty cs d hg hu hd hi]
  exact ⟨rfl, rfl⟩
/-- Ints, as cells of a list. -/
def intsC (xs : List Int) : List Value := xs.map (Value.int .i64)
theorem intsC_length (xs : List Int) : (intsC xs).length = xs.length := by simp [intsC]
theorem cellsI_of (xs : List Int) : cellsI xs = (intsC xs).toArray := rfl
theorem aggI_of (xs : List Int) : aggI xs = .agg (intsC xs).toArray := rfl
theorem range_ints {w : World} {b o : Nat} {xs : List Int} (h : w.rangeAt b o (intsC xs)) {j : Nat} (hj : j < xs.length) : w.cell? ⟨b, o + j, none⟩ = some (.int .i64 (nth 0 xs j)) := range_int h hj
end Go.Proofs.Ytlhnfllfankjhaa
namespace Go.Proofs.Ytlhnfllfankjhaa
open Go Go.RowKit
set_option linter.unusedSimpArgs false
set_option linter.unusedVariables false
set_option maxRecDepth 100000

structure VceV where
  control : Int
  addr : Int
  table : List Int
def VceV.cells (v : VceV) : List Value := [.int .i64 v.control, .int .i64 v.addr] ++ intsC v.table
def VceV.Len (v : VceV) : Prop := v.table.length = 512
theorem VceV.length {v : VceV} (h : v.Len) : v.cells.length = 514 := by unfold VceV.Len at h; simp [VceV.cells, intsC_length, h]
/-- What is shown of a number. -/
def VceV.colour (v : VceV) (k : Int) : Int :=
  if bitI v.control 7 = 0 then nth 0 v.table (k % 512).toNat % 512
  else (4 * (nth 0 v.table (k % 512).toNat % 512 / 64) + 2 * (nth 0 v.table (k % 512).toNat % 512 / 8 % 8) + nth 0 v.table (k % 512).toNat % 512 % 8) / 7 * 73
theorem VceV.colour_in (v : VceV) (k : Int) : 0 ≤ v.colour k ∧ v.colour k < 512 := by
  unfold VceV.colour
  generalize nth 0 v.table (k % 512).toNat = c
  split <;> omega
theorem tVce : (Try.prog.info? 95).map (·.size) = some 514 := by kernel_rfl
theorem tVce12 : (Try.prog.info? 106).map (·.size) = some 514 := by kernel_rfl

/-- The cells of colours in a block. -/
theorem VceV.reads {w : World} {b o : Nat} {v : VceV} (h : w.rangeAt b o v.cells) (hl : v.Len) : w.cell? ⟨b, o, none⟩ = some (.int .i64 v.control) ∧ w.cell? ⟨b, o + 1, none⟩ = some (.int .i64 v.addr) ∧ ∀ j, j < 512 → w.cell? ⟨b, o + 2 + j, none⟩ = some (.int .i64 (nth 0 v.table j)) := by
  obtain ⟨h1, h2⟩ := range_cons h
  obtain ⟨h3, h4⟩ := range_cons h2
  exact ⟨h1, h3, fun j hj => range_ints h4 (by rw [hl]; exact hj)⟩

theorem vce_Colour (v : VceV) (hl : v.Len) (k : Int) (w : World) : Calls Try.prog 83 #[.agg v.cells.toArray, .int .i64 k] w fun e w' => e = .returned (.int .i64 (v.colour k)) ∧ Below w.heap.size w w' := by
  have B := (Below.refl w.heap.size w).alloc (Nat.le_refl _) (Obj.cells v.cells.toArray 95)
  obtain ⟨c0, _, c2⟩ := VceV.reads (range_of_blk (Blk.new w v.cells.toArray 95)) hl
  have c3 := c2 (k % 512).toNat (by omega)
  clear c2
  have hcol : v.colour k = if bitI v.control 7 = 0 then nth 0 v.table (k % 512).toNat % 512 else (4 * (nth 0 v.table (k % 512).toNat % 512 / 64) + 2 * (nth 0 v.table (k % 512).toNat % 512 / 8 % 8) + nth 0 v.table (k % 512).toNat % 512 % 8) / 7 * 73 := rfl
  rw [hcol]
  clear hcol
  have hb := bitI_range v.control 7
  have hk : 0 ≤ k % 512 ∧ k % 512 < 512 := by omega
  have hlen := VceV.length hl
  generalize nth 0 v.table (k % 512).toNat = z at *
  generalize v.cells.toArray = vc at *
  go_enter Try.func83, Try.ntmps83
  go_wp2_with fail
  refine (bits_Bit _ _ _).mono ?_; rintro e w1 ⟨rfl, rfl⟩
  have hz : 0 ≤ z % 512 ∧ z % 512 < 512 := by omega
  generalize hy : z % 512 = y at *
  have HY := Lib.hid hy
  clear hy
  clear c0 c3
  rcases (show bitI v.control 7 = 0 ∨ bitI v.control 7 = 1 by omega) with hb0 | hb0
  · rw [hb0]
    go_wp2
    go_ret
    rw [HY.out]
    exact ⟨rfl, B⟩
  · rw [hb0]
    go_wp2
    go_ret
    have hy3 := HY.out
    refine ⟨ret_int ?_, B⟩
    rw [show y / 64 % 8 = y / 64 by omega, show z % 8 = y % 8 by omega, hy3]

theorem ref12_nine (n : Int) (hn : -9223372036854775808 ≤ n ∧ n ≤ 9223372036854775807) (w : World) : Calls Try.prog 92 #[.int .i64 n] w fun e w' => e = .returned (.int .i64 (n % 512)) ∧ w = w' := by
  go_enter Try.func92, Try.ntmps92
  go_wp2_with fail
  refine (ref01_Mod n 512 hn (by decide) (by decide) _).mono ?_; rintro e w' ⟨rfl, rfl⟩
  go_wp2
  go_ret
  exact ⟨rfl, rfl⟩
theorem ref12_Colour (v : VceV) (hl : v.Len) (k : Int) (hk : -9223372036854775808 ≤ k ∧ k ≤ 9223372036854775807) (hc : -9223372036854775808 ≤ v.control ∧ v.control ≤ 9223372036854775807) (ht : ∀ j, -9223372036854775808 ≤ nth 0 v.table j ∧ nth 0 v.table j ≤ 9223372036854775807) (w : World) :
    Calls Try.prog 86 #[.agg v.cells.toArray, .int .i64 k] w fun e w' => e = .returned (.int .i64 (v.colour k)) ∧ Below w.heap.size w w' := by
  have B := (Below.refl w.heap.size w).alloc (Nat.le_refl _) (Obj.cells v.cells.toArray 106)
  obtain ⟨c0, _, c2⟩ := VceV.reads (range_of_blk (Blk.new w v.cells.toArray 106)) hl
  have c3 := c2 (k % 512).toNat (by omega)
  have hz := ht (k % 512).toNat
  clear c2
  have hcol : v.colour k = if bitI v.control 7 = 0 then nth 0 v.table (k % 512).toNat % 512 else (4 * (nth 0 v.table (k % 512).toNat % 512 / 64) + 2 * (nth 0 v.table (k % 512).toNat % 512 / 8 % 8) + nth 0 v.table (k % 512).toNat % 512 % 8) / 7 * 73 := rfl
  rw [hcol]
  clear hcol
  have hb := bitI_range v.control 7
  have hk5 : 0 ≤ k % 512 ∧ k % 512 < 512 := by omega
  have hlen := VceV.length hl
  generalize nth 0 v.table (k % 512).toNat = z at *
  generalize v.cells.toArray = vc at *
  go_enter Try.func86, Try.ntmps86
  go_wp2_with fail
  refine (ref12_nine k hk _).mono ?_; rintro e w1 ⟨rfl, rfl⟩
  go_wp2_with fail
  refine (ref12_nine z hz _).mono ?_; rintro e w1 ⟨rfl, rfl⟩
  have hy : 0 ≤ z % 512 ∧ z % 512 < 512 := by omega
  generalize hy2 : z % 512 = y at *
  have HY := Lib.hid hy2
  clear hy2
  go_wp2_with fail
  refine (ref01_Bit _ _ hc _).mono ?_; rintro e w1 ⟨rfl, rfl⟩
  clear c0 c3
  rcases (show bitI v.control 7 = 0 ∨ bitI v.control 7 = 1 by omega) with hb0 | hb0
  · rw [hb0]
    go_wp2
    go_ret
    rw [HY.out]
    exact ⟨rfl, B⟩
  · rw [hb0]
    go_wp2
    go_ret
    have hy3 := HY.out
    refine ⟨ret_int ?_, B⟩
    rw [show y / 64 * 4 + y / 8 % 8 * 2 + y % 8 = 4 * (y / 64) + 2 * (y / 8 % 8) + y % 8 by omega, show z % 8 = y % 8 by omega, hy3]
end Go.Proofs.Ytlhnfllfankjhaa
namespace Go.Proofs.Ytlhnfllfankjhaa
open Go Go.RowKit
set_option linter.unusedSimpArgs false
set_option linter.unusedVariables false
set_option maxRecDepth 100000

structure RegsV where
  sel : Int
  R : List Int
def RegsV.cells (v : RegsV) : List Value := [.int .i64 v.sel] ++ intsC v.R
def RegsV.Len (v : RegsV) : Prop := v.R.length = 20
theorem RegsV.length {v : RegsV} (h : v.Len) : v.cells.length = 21 := by unfold RegsV.Len at h; simp [RegsV.cells, intsC_length, h]
def RegsV.reg (v : RegsV) (k : Nat) : Int := nth 0 v.R k
theorem tRegs : (Try.prog.info? 99).map (·.size) = some 21 := by kernel_rfl
theorem RegsV.reads {w : World} {b o : Nat} {v : RegsV} (h : w.rangeAt b o v.cells) (hl : v.Len) : w.cell? ⟨b, o, none⟩ = some (.int .i64 v.sel) ∧ ∀ j, j < 20 → w.cell? ⟨b, o + 1 + j, none⟩ = some (.int .i64 (v.reg j)) := by
  obtain ⟨h1, h2⟩ := range_cons h
  exact ⟨h1, fun j hj => range_ints h2 (by rw [hl]; exact hj)⟩
/-- The map's cells. -/
def RegsV.wide (v : RegsV) : Int := if v.reg 9 / 16 % 4 = 0 then 32 else if v.reg 9 / 16 % 4 = 1 then 64 else 128
def RegsV.high (v : RegsV) : Int := if v.reg 9 / 64 % 2 = 0 then 32 else 64

theorem regs_On (v : RegsV) (hl : v.Len) (k : Int) (w : World) : Calls Try.prog 81 #[.agg v.cells.toArray, .int .i64 k] w fun e w' => e = .returned (.bool (bitI (v.reg 5) k == 1)) ∧ Below w.heap.size w w' := by
  have B := (Below.refl w.heap.size w).alloc (Nat.le_refl _) (Obj.cells v.cells.toArray 99)
  have c5 := (RegsV.reads (range_of_blk (Blk.new w v.cells.toArray 99)) hl).2 5 (by decide)
  generalize v.cells.toArray = vc at *
  generalize v.reg 5 = z at *
  go_enter Try.func81, Try.ntmps81
  go_wp2_with fail
  refine (bits_Bit _ _ _).mono ?_; rintro e w1 ⟨rfl, rfl⟩
  go_wp2
  go_ret
  exact ⟨rfl, B⟩

theorem regs_Map (v : RegsV) (hl : v.Len) (w : World) : Calls Try.prog 58 #[.agg v.cells.toArray] w fun e w' => e = .returned (.tuple #[.int .i64 v.wide, .int .i64 v.high]) ∧ Below w.heap.size w w' := by
  have B := (Below.refl w.heap.size w).alloc (Nat.le_refl _) (Obj.cells v.cells.toArray 99)
  have c9 := (RegsV.reads (range_of_blk (Blk.new w v.cells.toArray 99)) hl).2 9 (by decide)
  generalize v.cells.toArray = vc at *
  have hw : v.wide = if v.reg 9 / 16 % 4 = 0 then 32 else if v.reg 9 / 16 % 4 = 1 then 64 else 128 := rfl
  have hh : v.high = if v.reg 9 / 64 % 2 = 0 then 32 else 64 := rfl
  rw [hw, hh]
  clear hw hh
  generalize v.reg 9 = z at *
  have hz6 : bitI z 6 = z / 64 % 2 := by unfold bitI; rw [if_pos (by decide)]; rfl
  have hB : ∀ b : Int, z / 64 % 2 = b → ∀ w, Calls Try.prog 64 #[.int .i64 z, .int .i64 6] w fun e w' => e = .returned (.int .i64 b) ∧ w = w' := fun b h w => by
    have := bits_Bit z 6 w
    rw [hz6, h] at this; exact this
  have HB := Lib.hid hB
  clear hB hz6
  rcases (show z / 64 % 2 = 0 ∨ z / 64 % 2 = 1 by omega) with h6 | h6
  all_goals
    have HB2 := Lib.hid (HB.out _ h6)
    rw [h6]
    clear h6
    rcases (show z / 16 % 4 = 0 ∨ z / 16 % 4 = 1 ∨ z / 16 % 4 = 2 ∨ z / 16 % 4 = 3 by omega) with h4 | h4 | h4 | h4
    all_goals
      rw [h4]
      go_enter Try.func58, Try.ntmps58
      go_wp2_with fail
      go_quiet ((go_at_call 64; exact quiet_same (HB2.out _)))
      go_wp2
      go_ret2
      exact ⟨by first | rfl | decide, below_drewN B _⟩
end Go.Proofs.Ytlhnfllfankjhaa
namespace Go.Proofs.Ytlhnfllfankjhaa
open Go Go.RowKit
set_option linter.unusedSimpArgs false
set_option linter.unusedVariables false

section
variable {P : Program} {ops : Array Oper} {md : Region.Mode} {ks : List Nat} {i : Nat} {D : Nat → World → Prop} {o : Oper} {v : Value} {a : Act}

/-- Operation i waits for k, directly or through one other. -/
def viaB (md : Region.Mode) (ops : Array Oper) (i k : Nat) : Bool := Region.waitsFor md ops i k || (List.range ops.size).any fun t => Region.waitsFor md ops i t && Region.waitsFor md ops t k

theorem YL.lateN {j : Nat} (hg : Region.wanted o (yielded ops a.tmps) = true) (hi : ∀ j, j < ks.length → i ≠ ks.getD j 0) (hj : j < ks.length) (hw : viaB md ops i (ks.getD j 0) = true)
    (h : ∀ m w, j < m → m ≤ ks.length → D m w → lUpon P (D m) v ((execOp a.eval o).run P w)) : YL P md ops (Pn md ops ks D) i o v a := by
  refine .inl ⟨hg, fun L w hr hC => ?_⟩
  obtain ⟨hz, hc, m, hm, ha, hb, hd⟩ := hC
  have hdone : L.getD (ks.getD j 0) false = true := by
    have dir : ∀ t, Region.waitsFor md ops i t = true → L.getD t false = true := by
      intro t ht
      obtain ⟨o2, ho2, e2, he2, hb2, hon⟩ := Region.waitsFor_spec ht
      obtain ⟨_, o', ho', hall⟩ := mem_ready.1 hr
      obtain rfl : o2 = o' := Option.some.inj (ho2.symm.trans ho')
      have := hall e2 he2 hb2
      rwa [hon] at this
    unfold viaB at hw
    rw [Bool.or_eq_true] at hw
    rcases hw with h1 | h1
    · exact dir _ h1
    · obtain ⟨t, _, h2⟩ := List.any_eq_true.1 h1
      rw [Bool.and_eq_true] at h2
      obtain ⟨o2, ho2, e2, he2, hb2, hon⟩ := Region.waitsFor_spec h2.2
      have := hc t o2 ho2 (dir t h2.1) e2 he2 hb2
      rwa [hon] at this
  have hjm : j < m := by
    rcases Nat.lt_or_ge j m with h1 | h1
    · exact h1
    · rw [hb j h1 hj] at hdone; cases hdone
  have e : ∀ w', D m w' → Pn md ops ks D (L.setIfInBounds i true) w' := fun w' hw' =>
    ⟨by simpa using hz, hc.set hr, m, hm, fun j hj => by rw [getD_set_ne false (hi j (by omega))]; exact ha j hj, fun j hj hl => by rw [getD_set_ne false (hi j hl)]; exact hb j hj hl, hw'⟩
  have h3 := h m w hjm hm hd
  generalize (execOp a.eval o).run P w = r at *
  cases r with
  | ok n w' =>
    cases n <;> simp only [lUpon] at h3 ⊢
    case value u => exact ⟨e _ h3.1, h3.2⟩
    case skip => exact ⟨e _ h3.1, h3.2⟩
    case enter f args => exact h3.mono fun _ w'' ⟨he, hw⟩ => ⟨he, e _ hw⟩
  | halt x w' => simp only [lUpon] at h3
theorem wpN_late {Q : Act → Prop} {rest : List Oper} (j : Nat) (hg : Region.wanted o (yielded ops a.tmps) = true) (hi : ∀ j, j < ks.length → i ≠ ks.getD j 0) (hj : j < ks.length) (hw : viaB md ops i (ks.getD j 0) = true)
    (h : ∃ v, (∀ m w, j < m → m ≤ ks.length → D m w → lUpon P (D m) v ((execOp a.eval o).run P w)) ∧ wpL P md ops (Pn md ops ks D) Q rest (i + 1) (a.put o.dst v)) : wpL P md ops (Pn md ops ks D) Q (o :: rest) i a :=
  let ⟨v, h4, h3⟩ := h
  ⟨v, YL.lateN hg hi hj hw h4, h3⟩
end
end Go.Proofs.Ytlhnfllfankjhaa
namespace Go.Proofs.Ytlhnfllfankjhaa
open Go Go.RowKit
set_option linter.unusedSimpArgs false
set_option linter.unusedVariables false
set_option maxRecDepth 100000

theorem ref15_Map (v : RegsV) (hl : v.Len) (hr : ∀ j, -9223372036854775808 ≤ v.reg j ∧ v.reg j ≤ 9223372036854775807) (w : World) : Calls Try.prog 84 #[.agg v.cells.toArray] w fun e w' => e = .returned (.tuple #[.int .i64 v.wide, .int .i64 v.high]) ∧ Below w.heap.size w w' := by
  have B := (Below.refl w.heap.size w).alloc (Nat.le_refl _) (Obj.cells v.cells.toArray 105)
  have A1 := Blk.new w v.cells.toArray 105
  have c9 := (RegsV.reads (range_of_blk A1) hl).2 9 (by decide)
  generalize v.cells.toArray = vc at *
  have hw : v.wide = if v.reg 9 / 16 % 4 = 0 then 32 else if v.reg 9 / 16 % 4 = 1 then 64 else 128 := rfl
  have hh : v.high = if v.reg 9 / 64 % 2 = 0 then 32 else 64 := rfl
  have hz := hr 9
  rw [hw, hh]
  clear hw hh
  generalize v.reg 9 = z at *
  have hB : ∀ (k : Int) (p b : Int), bitI z k = b → ∀ w, Calls Try.prog 69 #[.int .i64 z, .int .i64 k] w fun e w' => e = .returned (.int .i64 b) ∧ w = w' := fun k p b h w => by
    have := ref01_Bit z k hz w
    rw [h] at this; exact this
  have z4 : bitI z 4 = z / 16 % 2 := by unfold bitI; rw [if_pos (by decide)]; rfl
  have z5 : bitI z 5 = z / 32 % 2 := by unfold bitI; rw [if_pos (by decide)]; rfl
  have z6 : bitI z 6 = z / 64 % 2 := by unfold bitI; rw [if_pos (by decide)]; rfl
  have HB := Lib.hid hB
  have l1 := Blk.lt A1
  have c9a : ∀ o, ((w.alloc (Obj.cells vc 105)).alloc o).cell? ⟨w.heap.size, 0 + 1 + 9, none⟩ = some (.int .i64 z) := fun o => (World.cell?_alloc_past _ _ _ l1).trans c9
  obtain ⟨b4, h4, r4⟩ : ∃ b, bitI z 4 = b ∧ (b = 0 ∨ b = 1) := ⟨_, rfl, by have := bitI_range z 4; omega⟩
  obtain ⟨b5, h5, r5⟩ : ∃ b, bitI z 5 = b ∧ (b = 0 ∨ b = 1) := ⟨_, rfl, by have := bitI_range z 5; omega⟩
  obtain ⟨b6, h6, r6⟩ : ∃ b, bitI z 6 = b ∧ (b = 0 ∨ b = 1) := ⟨_, rfl, by have := bitI_range z 6; omega⟩
  have H4 := Lib.hid (HB.out 4 0 b4 h4)
  have H5 := Lib.hid (HB.out 5 0 b5 h5)
  have H6 := Lib.hid (HB.out 6 0 b6 h6)
  rw [z4] at h4
  rw [z5] at h5
  rw [z6] at h6
  have hwv : (if z / 16 % 4 = 0 then (32 : Int) else if z / 16 % 4 = 1 then 64 else 128) = if b5 = 1 then 128 else if b4 = 1 then 64 else 32 := by
    repeat' split
    all_goals omega
  have hhv : (if z / 64 % 2 = 0 then (32 : Int) else 64) = 32 + 32 * b6 := by
    repeat' split
    all_goals omega
  rw [hwv, hhv]
  clear hwv hhv h4 h5 h6 z4 z5 z6 hB HB A1
  have hm1 : ∀ m : Nat, 0 < m → m ≤ 1 → m = 1 := fun m h1 h2 => by omega
  obtain ⟨x, hx, hx4, hS⟩ : ∃ x : Nat, b4 + 2 * b5 = (x : Int) ∧ x < 4 ∧ IntKind.i64.wrap (b4 + IntKind.i64.wrap (2 * b5)) = (x : Int) := by
    rcases r4 with rfl | rfl <;> rcases r5 with rfl | rfl
    · exact ⟨0, rfl, by decide, rfl⟩
    · exact ⟨2, rfl, by decide, rfl⟩
    · exact ⟨1, rfl, by decide, rfl⟩
    · exact ⟨3, rfl, by decide, rfl⟩
  have hv : x = 0 ∧ (if b5 = 1 then (128 : Int) else if b4 = 1 then 64 else 32) = 32 ∨ x = 1 ∧ (if b5 = 1 then (128 : Int) else if b4 = 1 then 64 else 32) = 64 ∨ x = 2 ∧ (if b5 = 1 then (128 : Int) else if b4 = 1 then 64 else 32) = 128 ∨ x = 3 ∧ (if b5 = 1 then (128 : Int) else if b4 = 1 then 64 else 32) = 128 := by
    rcases r4 with rfl | rfl <;> rcases r5 with rfl | rfl <;> simp <;> omega
  have h32 : wrap64 (32 + wrap64 (32 * b6)) = 32 + 32 * b6 := by rcases r6 with rfl | rfl <;> (unfold wrap64; omega)
  generalize (if b5 = 1 then (128 : Int) else if b4 = 1 then 64 else 32) = wv at *
  generalize 32 + 32 * b6 = hv2 at *
  clear r4 r5 r6 hx
  have hxi : (x : Int) < 4 := by omega
  all_goals
    go_enter Try.func84, Try.ntmps84
    go_upto_region 1 with (fail)
    generalize w.alloc (Obj.cells vc 105) = w1 at *
    let ob : Obj := Obj.cells #[.int .i64 32, .int .i64 64, .int .i64 128, .int .i64 128] 3
    let D : Nat → World → Prop := fun m w' => if m = 0 then ∃ n, w' = w1.drewN n else ∃ n, w' = (w1.alloc ob).drewN n
    have hf : ∀ m wq, D m wq → wq.cell? ⟨w.heap.size, 0 + 1 + 9, none⟩ = some (.int .i64 z) := by
      intro m wq hq
      by_cases h0 : m = 0
      · subst h0
        obtain ⟨n, rfl⟩ := hq
        simp only [go_sem, c9]
      · have hq' : ∃ n, wq = (w1.alloc ob).drewN n := by simpa only [D, if_neg h0] using hq
        obtain ⟨n, rfl⟩ := hq'
        simp only [go_sem, c9a ob]
    have FA := Lib.hid hf
    have hl : ∀ wq, D 1 wq → wq.cell? ⟨w1.heap.size, x, none⟩ = some (.int .i64 wv) := by
      rintro wq ⟨n, rfl⟩
      rcases hv with ⟨rfl, rfl⟩ | ⟨rfl, rfl⟩ | ⟨rfl, rfl⟩ | ⟨rfl, rfl⟩ <;> (simp only [go_sem]; exact (World.cell?_alloc_at _ _ _ _ rfl).trans rfl)
    have FL := Lib.hid hl
    have e0 : D 0 w1.drew := ⟨1, rfl⟩
    have hd : ∀ wq, D 1 wq → ∃ n, wq = (w1.alloc ob).drewN n := fun wq hq => hq
    have HD := Lib.hid hd
    have hz : ∀ wq, D 0 wq → wq.heap.size = w1.heap.size ∧ D 1 (wq.alloc ob) := by
      rintro wq ⟨n, rfl⟩
      exact ⟨by simp only [go_sem], ⟨n, rfl⟩⟩
    have HZ := Lib.hid hz
    clear hf hl hd hz
    clear_value D
    refine wp_region_n [0] D (by kernel_rfl) (by kernel_rfl) (by kernel_rfl) (by kernel_rfl) e0 ?_
    clear e0
    refine wpN_turn 0 rfl (by decide) rfl (by kernel_rfl) ⟨.slice (some ⟨w1.heap.size, 0, none⟩) 4 4, fun wq hq => ?_, ?_⟩
    · obtain ⟨h1, h2⟩ := HZ.out wq hq
      go_simp
      first | exact h2 | exact ⟨rfl, h2⟩ | exact ⟨h2, rfl⟩
    simp only [Act.put, List.setIfInBounds_toArray, List.set_cons_zero, List.set_cons_succ]
    iterate 3
      (refine wpN_other rfl (by decide) (fun K hK => ?_)
       apply Exists.intro
       refine ⟨fun m wq hm hq => ?_, hK _ ?_⟩
       · have r1 := FA.out m wq hq
         go_simp
         first | exact rfl | exact ⟨hq, rfl⟩ | exact ⟨rfl, rfl⟩
       clear hK K
       simp only [Act.put, List.setIfInBounds_toArray, List.set_cons_zero, List.set_cons_succ])
    iterate 1
      (refine wpN_other rfl (by decide) (fun K hK => ?_)
       apply Exists.intro
       refine ⟨fun m wq hm hq => ?_, hK _ ?_⟩
       · skip
         go_simp
         first | exact rfl | exact ⟨hq, rfl⟩ | exact ⟨rfl, rfl⟩ | (refine (H4.out _).mono ?_; rintro e w' ⟨rfl, rfl⟩; exact ⟨rfl, hq⟩)
       clear hK K
       simp only [Act.put, List.setIfInBounds_toArray, List.set_cons_zero, List.set_cons_succ])
    iterate 3
      (refine wpN_other rfl (by decide) (fun K hK => ?_)
       apply Exists.intro
       refine ⟨fun m wq hm hq => ?_, hK _ ?_⟩
       · have r1 := FA.out m wq hq
         go_simp
         first | exact rfl | exact ⟨hq, rfl⟩ | exact ⟨rfl, rfl⟩
       clear hK K
       simp only [Act.put, List.setIfInBounds_toArray, List.set_cons_zero, List.set_cons_succ])
    iterate 1
      (refine wpN_other rfl (by decide) (fun K hK => ?_)
       apply Exists.intro
       refine ⟨fun m wq hm hq => ?_, hK _ ?_⟩
       · skip
         go_simp
         first | exact rfl | exact ⟨hq, rfl⟩ | exact ⟨rfl, rfl⟩ | (refine (H5.out _).mono ?_; rintro e w' ⟨rfl, rfl⟩; exact ⟨rfl, hq⟩)
       clear hK K
       simp only [Act.put, List.setIfInBounds_toArray, List.set_cons_zero, List.set_cons_succ])
    iterate 3
      (refine wpN_other rfl (by decide) (fun K hK => ?_)
       apply Exists.intro
       refine ⟨fun m wq hm hq => ?_, hK _ ?_⟩
       · have r1 := FA.out m wq hq
         go_simp
         first | exact rfl | exact ⟨hq, rfl⟩ | exact ⟨rfl, rfl⟩
       clear hK K
       simp only [Act.put, List.setIfInBounds_toArray, List.set_cons_zero, List.set_cons_succ])
    refine wpN_late 0 rfl (by decide) (by decide) (by kernel_rfl) ?_
    apply Exists.intro
    refine ⟨fun m wq hlt hle hq => ?_, ?_⟩
    · obtain rfl := hm1 m hlt hle
      have r1 := FL.out wq hq
      go_simp
      exact ⟨hq, rfl⟩
    simp only [Act.put, List.setIfInBounds_toArray, List.set_cons_zero, List.set_cons_succ]
    iterate 1
      (refine wpN_other rfl (by decide) (fun K hK => ?_)
       apply Exists.intro
       refine ⟨fun m wq hm hq => ?_, hK _ ?_⟩
       · go_simp
         first | exact rfl | exact ⟨hq, rfl⟩ | exact ⟨rfl, rfl⟩
       clear hK K
       simp only [Act.put, List.setIfInBounds_toArray, List.set_cons_zero, List.set_cons_succ])
    intro w2 hw2
    obtain ⟨n, rfl⟩ := HD.out w2 hw2
    have B2 := below_drewN (B.alloc (Nat.le_of_lt l1) ob) n
    have c9b := c9a ob
    clear FA FL HD HZ
    clear_value ob
    generalize w1.alloc ob = w3 at *
    go_wp2_with fail
    refine (H6.out _).mono ?_; rintro e w4 ⟨rfl, rfl⟩
    go_wp2
    go_ret2
    rw [h32]
    exact ⟨rfl, B2⟩
end Go.Proofs.Ytlhnfllfankjhaa
namespace Go.Proofs.Ytlhnfllfankjhaa
open Go Go.RowKit
set_option linter.unusedSimpArgs false
set_option linter.unusedVariables false
set_option maxRecDepth 100000

def VceV.zero : VceV := ⟨0, 0, zeros 512⟩
theorem VceV.zero_len : VceV.zero.Len := zeros_length 512
theorem zeroVce : ∀ w : World, (zeroValue 106).run Try.prog w = .ok (.agg VceV.zero.cells.toArray) w := by
  have h : (Try.prog.info? 106).map (·.zero) = some (some (.agg VceV.zero.cells.toArray)) := by kernel_rfl
  obtain ⟨i, hi, hz⟩ := Option.map_eq_some_iff.1 h
  intro w; simp [zeroValue, typeInfo, hi, hz]
theorem zeroVce12 : ∀ w : World, (zeroValue 95).run Try.prog w = .ok (.agg VceV.zero.cells.toArray) w := by
  have h : (Try.prog.info? 95).map (·.zero) = some (some (.agg VceV.zero.cells.toArray)) := by kernel_rfl
  obtain ⟨i, hi, hz⟩ := Option.map_eq_some_iff.1 h
  intro w; simp [zeroValue, typeInfo, hi, hz]
theorem VceV.one {v : VceV} : v.cells.toArray.all (·.oneCell') = true := all_oneCell_toArray fun x hx => by
  simp only [VceV.cells, intsC, List.mem_append, List.mem_cons, List.mem_map, List.not_mem_nil, or_false] at hx
  rcases hx with (rfl | rfl) | ⟨_, _, rfl⟩ <;> rfl
/-- The colours after k steps. -/
def madeTo (xs : List Int) : Nat → List Int
  | 0 => zeros 512
  | k + 1 => (madeTo xs k).set (k * 37 % 512) (nth 0 xs k)
theorem madeTo_length (xs : List Int) : ∀ k, (madeTo xs k).length = 512
  | 0 => zeros_length 512
  | k + 1 => by rw [madeTo, List.length_set, madeTo_length xs k]
def madeVce (a b : Int) (xs : List Int) : VceV := ⟨a, b, madeTo xs (min xs.length 512)⟩
theorem madeVce_len (a b : Int) (xs : List Int) : (madeVce a b xs).Len := madeTo_length xs _
theorem VceV.set_cells (a b : Int) (t : List Int) (i : Nat) (x : Int) : (VceV.cells ⟨a, b, t⟩).toArray.setIfInBounds (2 + i) (.int .i64 x) = (VceV.cells ⟨a, b, t.set i x⟩).toArray := by
  rw [List.setIfInBounds_toArray]
  congr 1
  unfold VceV.cells intsC
  rw [List.set_append_right _ _ (by simp), List.map_set]
  simp

theorem law12_Made (a b : Int) (ad : Option Addr) (c : Nat) (xs : List Int) (w : World) (hm : xs.length ≤ maxLen) (S : SlAt (Value.int .i64) 0 w ad xs) :
    Calls Try.prog 54 #[.int .i64 a, .int .i64 b, .slice ad xs.length c] w fun e w' => e = .returned (.agg (madeVce a b xs).cells.toArray) ∧ Below w.heap.size w w' := by
  unfold maxLen at hm
  have hz := zeroVce12
  have hb0 : (VceV.zero.cells.toArray.setIfInBounds 0 (.int .i64 a)).setIfInBounds 1 (.int .i64 b) = (VceV.cells ⟨a, b, zeros 512⟩).toArray := by simp [VceV.cells, VceV.zero]
  have hsz0 : VceV.zero.cells.toArray.size = 514 := by simpa using VceV.length VceV.zero_len
  have ht := tVce12
  have htv := tVce
  generalize hz0 : VceV.zero.cells.toArray = z0 at *
  have hsz1 : (Try.prog.info? 95).map (·.size) = some ((z0.setIfInBounds 0 (.int .i64 a)).setIfInBounds 1 (.int .i64 b)).size := by simpa [hsz0] using htv
  have hsz2 : z0.size = ((z0.setIfInBounds 0 (.int .i64 a)).setIfInBounds 1 (.int .i64 b)).size := by simp
  have hone : ((z0.setIfInBounds 0 (.int .i64 a)).setIfInBounds 1 (.int .i64 b)).all (·.oneCell') = true := by rw [hb0]; exact VceV.one
  have HT := Lib.hid htv
  have HB0 := Lib.hid hb0
  have HO := Lib.hid hone
  have H1 := Lib.hid hsz1
  have H2 := Lib.hid hsz2
  have HS := Lib.hid hsz0
  clear ht htv hb0 hone hsz1 hsz2 hsz0 hz0
  go_enter Try.func54, Try.ntmps54
  go_upto_region 1 with (fail)
  have Z0 := Blk.new w z0 95
  have b1 : Below w.heap.size w (w.alloc (Obj.cells z0 95)) := (Below.refl _ _).alloc (Nat.le_refl _) _
  have s1 : w.heap.size < (w.alloc (Obj.cells z0 95)).heap.size := Blk.lt Z0
  generalize w.alloc (Obj.cells z0 95) = w1 at *
  have Z1 := Blk.new w1 z0 95
  have hs0 := HS.out
  have hne : z0 ≠ #[] := by rintro rfl; simp at hs0
  go_wp2_with (refine wpList_store_row rfl 95 _ _ rfl w1.heap.size _ rfl rfl 95 z0 Z1 H1.out H2.out HO.out ?_)
  rw [HB0.out]
  have A1 := Blk.setRow Z1 (VceV.cells ⟨a, b, zeros 512⟩).toArray
  have A0 := Blk.setRow_other (g := w1.heap.size) (Z0.alloc (Obj.cells z0 95)) (VceV.cells ⟨a, b, zeros 512⟩).toArray (by omega)
  have B1 := below_setRow (b1.alloc (Nat.le_of_lt s1) (Obj.cells z0 95)) (g := w1.heap.size) (Nat.le_of_lt s1) (VceV.cells ⟨a, b, zeros 512⟩).toArray
  generalize hg : w1.heap.size = g at *
  generalize (w1.alloc (Obj.cells z0 95)).setRow g (VceV.cells ⟨a, b, zeros 512⟩).toArray = w2 at *
  clear Z0 Z1 b1 hg HO H1 H2 HB0 hz hs0 hne
  go_loopw [8] (fun i wr => ∃ k : Nat, k ≤ xs.length ∧ k ≤ 512 ∧ i = .int .i64 k ∧ Blk wr g (VceV.cells ⟨a, b, madeTo xs k⟩).toArray 95 ∧ Blk wr w.heap.size z0 95 ∧ Below w.heap.size w wr) (fun i _ => 512 - (intOf i).toNat)
  case atStart => exact ⟨0, by omega, by omega, rfl, A1, A0, B1⟩
  case round =>
    obtain ⟨k, hk, hk5, rfl, A, A0, B⟩ := hrel
    by_cases hlt : k < xs.length ∧ k < 512
    · have d1 : decide ((k : Int) < (xs.length : Int)) = true := by simpa using hlt.1
      have d2 : decide ((k : Int) < 512) = true := by simp; omega
      have i1 : (k : Int) < (xs.length : Int) := by omega
      obtain ⟨ad', rfl, g0⟩ := (S.below B).atN k hlt.1
      have hj5 : k * 37 % 512 < 512 := by omega
      have c1 : wr.cell? ⟨g, 2 + k * 37 % 512, none⟩ = some (.int .i64 (nth 0 (madeTo xs k) (k * 37 % 512))) := by
        rw [Blk.cell A]
        have := (VceV.reads (range_of_blk A) (madeTo_length xs k)).2.2 _ hj5
        rw [Blk.cell A] at this
        simpa [Nat.zero_add] using this
      have f1 := Blk.free A (2 + k * 37 % 512)
      have A2 := Blk.set A (i := 2 + k * 37 % 512) (.int .i64 (nth 0 xs k))
      rw [VceV.set_cells] at A2
      have A3 : Blk (wr.setCell ⟨g, 2 + k * 37 % 512, none⟩ (.int .i64 (nth 0 xs k))) g (VceV.cells ⟨a, b, madeTo xs (k + 1)⟩).toArray 95 := by
        rw [madeTo]; exact A2
      clear A2
      have HA3 := Lib.hid A3
      have HA0 := Lib.hid A0
      clear A3 A0 A
      generalize madeTo xs k = mk at *
      generalize nth 0 xs k = y at *
      go_wp2_with fail
      go_roundw
      case rel => exact ⟨k + 1, by omega, by omega, by go_num, HA3.out, Blk.other HA0.out _ (by omega), B.setCell (Nat.le_of_lt s1) _⟩
      case measure => simp [intOf]; omega
    · have hk2 : k = min xs.length 512 := by omega
      have hd : (¬ k < xs.length) ∨ (k < xs.length ∧ ¬ (k : Int) < 512) := by omega
      have HK := Lib.hid hk2
      have hs3 : (Try.prog.info? 95).map (·.size) = some (VceV.cells ⟨a, b, madeTo xs k⟩).toArray.size := by rw [HT.out]; simpa using (VceV.length (v := ⟨a, b, madeTo xs k⟩) (madeTo_length xs k)).symm
      have hs4 : z0.size = (VceV.cells ⟨a, b, madeTo xs k⟩).toArray.size := by rw [HS.out]; simpa using (VceV.length (v := ⟨a, b, madeTo xs k⟩) (madeTo_length xs k)).symm
      have H3 := Lib.hid hs3
      have H4 := Lib.hid hs4
      have E : (VceV.cells ⟨a, b, madeTo xs k⟩).toArray = (madeVce a b xs).cells.toArray := by unfold madeVce; rw [HK.out]
      have HE := Lib.hid E
      have HO := Lib.hid (VceV.one (v := ⟨a, b, madeTo xs k⟩))
      clear hk2 hlt hs3 hs4 E
      generalize (VceV.cells ⟨a, b, madeTo xs k⟩).toArray = mk at *
      rcases hd with d1 | ⟨d1, d2⟩
      all_goals
        go_wp2_with (first
          | (refine wpList_load_row rfl 95 _ rfl g rfl 95 mk (0, 0) _ A Try.underlying95 rfl H3.out ?_)
          | (refine wpList_store_row rfl 95 _ _ rfl w.heap.size mk rfl rfl 95 z0 A0 H3.out H4.out HO.out ?_))
        refine ret_row rfl rfl (Blk.setRow A0 mk) Try.underlying95 rfl H3.out rfl ⟨?_, below_setRow B (Nat.le_refl _) _⟩
        rw [HE.out]
end Go.Proofs.Ytlhnfllfankjhaa
