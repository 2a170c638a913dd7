/- Contracts of the program's functions, and what they rest on, part 4: each function's call returns what its plain form says; no condition but those typed. -/
import Derived.Test.YtnllkgjmoipgbaaGreatDoorK3
import Derived.WalkSpells
import Derived.Test.YtnllkgjmoipgbaaGreatDoorRows
import Derived.WalkKit
import Derived.ProofKit
import Derived.ChangeOld
import Derived.SizedLaws
import Derived.Test.YtnllkgjmoipgbaaGreatDoorTie
import Derived.Test.YtnllkgjmoipgbaaGreatDoorCards
import Derived.SevenTiedAt
-- Pic
namespace Go.Proofs.YtnllkgjmoipgbaaGreatDoor
open Go Go.RowKit
set_option linter.unusedSimpArgs false
set_option linter.unusedVariables false
set_option maxRecDepth 100000

theorem reg_vdc2 : regKind 2088962 = 2 ∧ regAt 2088962 = 2 := ⟨by have := reg_io 2 (by omega); simpa using this, by have := io_at 2 0 (by omega) (by decide); simpa using this⟩
theorem reg_vdc3 : regKind 2088963 = 2 ∧ regAt 2088963 = 3 := ⟨by have := reg_io 3 (by omega); simpa using this, by have := io_at 3 0 (by omega) (by decide); simpa using this⟩
theorem BusV.wr_vdc (B : BusV) (a v o : Int) (h : regKind a = 2 ∧ regAt a = o) : B.wr a v = B.draw o (v % 256) := by
  unfold BusV.wr BusV.wr8; rw [h.1, if_neg (by omega), if_pos rfl, h.2]
theorem RegsV.reg_ne (r : RegsV) (i k : Nat) (x : Int) (h : i ≠ k) : RegsV.reg { r with R := r.R.set i x } k = r.reg k := nth_set_ne h
theorem RegsV.reg_eq {r : RegsV} (hl : r.Len) (k : Nat) (x : Int) (h : k < 20) : RegsV.reg { r with R := r.R.set k x } k = x := nth_set_eq (by unfold RegsV.Len at hl; omega)
/-- What the law sees of a machine: which register is chosen, the fifth, video memory. -/
structure PicV (B : BusV) (sel r5 : Int) (V : VS) : Prop where
  ok : B.Ok
  lag : B.lag = 0
  sel : B.regs.sel = sel
  r5 : B.regs.reg 5 = r5
  V : B.V = V
theorem draw_none (B : BusV) (o b : Int) (h : B.regs.effect o = 0) : B.draw o b = B.chosen o b := by
  unfold BusV.draw BusV.bring; rw [h]; rfl
theorem pic_sel {B : BusV} {s r5 : Int} {V : VS} (h : PicV B s r5 V) (k : Int) (hk : 0 ≤ k ∧ k < 32) : PicV (B.wr 2088960 k) k r5 V := by
  have e : k % 256 = k := by omega
  have e2 : B.regs.write 0 k = { B.regs with sel := k } := by unfold RegsV.write; rw [if_pos rfl, show k % 32 = k by omega]
  have e3 : B.wr 2088960 k = B.chosen 0 k := by
    rw [BusV.wr_vdc _ _ _ 0 reg_vdc0, e, draw_none _ _ _ (by unfold RegsV.effect; rw [if_neg (by omega)])]
  have ho := h.ok.wr 2088960 k
  rw [e3] at ho ⊢
  have e4 : (B.chosen 0 k).regs = { B.regs with sel := k } := e2
  exact ⟨ho, h.lag, by rw [e4], by rw [e4]; exact h.r5, h.V⟩
/-- A port's byte: what the register becomes. -/
theorem pic_chosen {B : BusV} {s r5 : Int} {V : VS} (h : PicV B s r5 V) (o : Int) (ho : o = 2 ∨ o = 3) (k : Nat) (hk : s = k) (hk2 : k < 20) (b : Int) (hb : 0 ≤ b ∧ b ≤ 255) {x : Int} (hx : andI (B.regs.word o b) (maskOf k) = x) :
    PicV (B.chosen o b) s (if k = 5 then x else r5) V ∧ (B.chosen o b).regs.reg k = x := by
  have hs : B.regs.sel.toNat = k := by rw [h.sel, hk]; omega
  have e : B.regs.write o b = { B.regs with R := B.regs.R.set k x } := by
    unfold RegsV.write
    rw [if_neg (by omega), if_pos ⟨ho, by rw [h.sel, hk]; omega⟩, hs, hx]
  have h2 : (B.chosen o b).regs = { B.regs with R := B.regs.R.set k x } := e
  refine ⟨⟨h.ok.chosen o b hb, h.lag, by rw [h2]; exact h.sel, ?_, h.V⟩, ?_⟩
  · rw [h2]
    by_cases h5 : k = 5
    · rw [if_pos h5, ← h5, RegsV.reg_eq h.ok.regs.len k x hk2]
    · rw [if_neg h5, RegsV.reg_ne _ _ _ _ h5]; exact h.r5
  · rw [h2, RegsV.reg_eq h.ok.regs.len k x hk2]
theorem pic_effect {B : BusV} {s r5 : Int} {V : VS} (h : PicV B s r5 V) (o : Int) (ho : o = 2 ∨ o = 3) (hs : s < 20) : B.regs.effect o = regEffect s (o == 3) := by
  unfold RegsV.effect; rw [if_pos ⟨ho, by rw [h.sel]; exact hs⟩, h.sel]
theorem word_low (B : BusV) (b : Int) : B.regs.word 2 b = B.regs.reg B.regs.sel.toNat / 256 * 256 + b := by unfold RegsV.word; rw [if_pos rfl]
theorem word_high (B : BusV) (b : Int) : B.regs.word 3 b = B.regs.reg B.regs.sel.toNat % 256 + 256 * b := by unfold RegsV.word; rw [if_neg (by decide)]
theorem mask0 : maskOf 0 = 65535 := by decide
theorem mask1 : maskOf 1 = 65535 := by decide
theorem mask2 : maskOf 2 = 65535 := by decide
theorem mask5 : maskOf 5 = 8191 := by decide
theorem andI_8191 (x : Int) (h : 0 ≤ x ∧ x ≤ 8191) : andI x 8191 = x := by
  unfold andI
  have : x.toNat &&& (8191 : Int).toNat = x.toNat % 2 ^ 13 := by
    rw [show (8191 : Int).toNat = 2 ^ 13 - 1 by decide, Nat.and_two_pow_sub_one_eq_mod]
  rw [this]; omega
/-- A word into a register, by its two ports. -/
def BusV.reg (B : BusV) (k w : Int) : BusV := ((B.wr 2088960 k).wr 2088962 w).wr 2088963 (w / 256)
theorem pic_reg0 {B : BusV} {s r5 : Int} {V : VS} (h : PicV B s r5 V) (w : Int) (hw : 0 ≤ w ∧ w ≤ 65535) : PicV (B.reg 0 w) 0 r5 (V.setWr w) := by
  have h1 := pic_sel h 0 (by decide)
  unfold BusV.reg
  generalize B.wr 2088960 0 = C at *
  have hr := h1.ok.regs.reg 0
  have e1 : C.wr 2088962 w = (C.chosen 2 (w % 256)).bring 1 (w % 256) := by
    rw [BusV.wr_vdc _ _ _ 2 reg_vdc2]; unfold BusV.draw; rw [pic_effect h1 2 (.inl rfl) (by decide)]; rfl
  obtain ⟨h2, q2⟩ := pic_chosen h1 2 (.inl rfl) 0 rfl (by decide) (w % 256) (by omega) (x := C.regs.reg 0 / 256 * 256 + w % 256) (by
    rw [word_low, h1.sel, mask0]; show andI (C.regs.reg 0 / 256 * 256 + w % 256) 65535 = _; exact andI_word _ (by omega))
  rw [e1]
  have h3 : PicV ((C.chosen 2 (w % 256)).bring 1 (w % 256)) 0 r5 (V.setWr (C.regs.reg 0 / 256 * 256 + w % 256)) := by
    refine ⟨h2.ok.bring _ _, h2.lag, h2.sel, h2.r5, ?_⟩
    show ((C.chosen 2 (w % 256)).V).setWr ((C.chosen 2 (w % 256)).regs.reg 0) = _
    rw [h2.V, q2]
  have q3 : ((C.chosen 2 (w % 256)).bring 1 (w % 256)).regs.reg 0 = C.regs.reg 0 / 256 * 256 + w % 256 := q2
  generalize (C.chosen 2 (w % 256)).bring 1 (w % 256) = D at *
  have e2 : D.wr 2088963 (w / 256) = (D.chosen 3 (w / 256 % 256)).bring 1 (w / 256 % 256) := by
    rw [BusV.wr_vdc _ _ _ 3 reg_vdc3]; unfold BusV.draw; rw [pic_effect h3 3 (.inr rfl) (by decide)]; rfl
  obtain ⟨h4, q4⟩ := pic_chosen h3 3 (.inr rfl) 0 rfl (by decide) (w / 256 % 256) (by omega) (x := w) (by
    rw [word_high, h3.sel, mask0]
    show andI (D.regs.reg 0 % 256 + 256 * (w / 256 % 256)) 65535 = w
    rw [q3, show (C.regs.reg 0 / 256 * 256 + w % 256) % 256 + 256 * (w / 256 % 256) = w by omega]; exact andI_word _ hw)
  rw [e2]
  refine ⟨h4.ok.bring _ _, h4.lag, h4.sel, h4.r5, ?_⟩
  show ((D.chosen 3 (w / 256 % 256)).V).setWr ((D.chosen 3 (w / 256 % 256)).regs.reg 0) = _
  rw [h4.V, q4]; rfl
theorem pic_reg1 {B : BusV} {s r5 : Int} {V : VS} (h : PicV B s r5 V) (w : Int) (hw : 0 ≤ w ∧ w ≤ 65535) : PicV (B.reg 1 w) 1 r5 (V.setRd w) := by
  have h1 := pic_sel h 1 (by decide)
  unfold BusV.reg
  generalize B.wr 2088960 1 = C at *
  have hr := h1.ok.regs.reg 1
  have e1 : C.wr 2088962 w = C.chosen 2 (w % 256) := by
    rw [BusV.wr_vdc _ _ _ 2 reg_vdc2]; exact draw_none _ _ _ (by rw [pic_effect h1 2 (.inl rfl) (by decide)]; rfl)
  obtain ⟨h3, q3⟩ := pic_chosen h1 2 (.inl rfl) 1 rfl (by decide) (w % 256) (by omega) (x := C.regs.reg 1 / 256 * 256 + w % 256) (by
    rw [word_low, h1.sel, mask1]; show andI (C.regs.reg 1 / 256 * 256 + w % 256) 65535 = _; exact andI_word _ (by omega))
  rw [e1]
  generalize C.chosen 2 (w % 256) = D at *
  have e2 : D.wr 2088963 (w / 256) = (D.chosen 3 (w / 256 % 256)).bring 2 (w / 256 % 256) := by
    rw [BusV.wr_vdc _ _ _ 3 reg_vdc3]; unfold BusV.draw; rw [pic_effect h3 3 (.inr rfl) (by decide)]; rfl
  obtain ⟨h4, q4⟩ := pic_chosen h3 3 (.inr rfl) 1 rfl (by decide) (w / 256 % 256) (by omega) (x := w) (by
    rw [word_high, h3.sel, mask1]
    show andI (D.regs.reg 1 % 256 + 256 * (w / 256 % 256)) 65535 = w
    rw [q3, show (C.regs.reg 1 / 256 * 256 + w % 256) % 256 + 256 * (w / 256 % 256) = w by omega]; exact andI_word _ hw)
  rw [e2]
  refine ⟨h4.ok.bring _ _, h4.lag, h4.sel, h4.r5, ?_⟩
  show ((D.chosen 3 (w / 256 % 256)).V).setRd ((D.chosen 3 (w / 256 % 256)).regs.reg 1) = _
  rw [h4.V, q4]
theorem pic_reg2 {B : BusV} {s r5 : Int} {V : VS} (h : PicV B s r5 V) (w : Int) : PicV (B.reg 2 w) 2 r5 ((V.putLo (w % 256)).putHi (w / 256 % 256)) := by
  have h1 := pic_sel h 2 (by decide)
  unfold BusV.reg
  generalize B.wr 2088960 2 = C at *
  have e1 : C.wr 2088962 w = (C.chosen 2 (w % 256)).bring 3 (w % 256) := by
    rw [BusV.wr_vdc _ _ _ 2 reg_vdc2]; unfold BusV.draw; rw [pic_effect h1 2 (.inl rfl) (by decide)]; rfl
  obtain ⟨h2, _⟩ := pic_chosen h1 2 (.inl rfl) 2 rfl (by decide) (w % 256) (by omega) rfl
  rw [e1]
  have h3 : PicV ((C.chosen 2 (w % 256)).bring 3 (w % 256)) 2 r5 (V.putLo (w % 256)) := by
    refine ⟨h2.ok.bring _ _, h2.lag, h2.sel, h2.r5, ?_⟩
    show ((C.chosen 2 (w % 256)).V).putLo (w % 256) = _
    rw [h2.V]
  generalize (C.chosen 2 (w % 256)).bring 3 (w % 256) = D at *
  have e2 : D.wr 2088963 (w / 256) = (D.chosen 3 (w / 256 % 256)).bring 4 (w / 256 % 256) := by
    rw [BusV.wr_vdc _ _ _ 3 reg_vdc3]; unfold BusV.draw; rw [pic_effect h3 3 (.inr rfl) (by decide)]; rfl
  obtain ⟨h4, _⟩ := pic_chosen h3 3 (.inr rfl) 2 rfl (by decide) (w / 256 % 256) (by omega) rfl
  rw [e2]
  refine ⟨h4.ok.bring _ _, h4.lag, h4.sel, h4.r5, ?_⟩
  show ((D.chosen 3 (w / 256 % 256)).V).putHi (w / 256 % 256) = _
  rw [h4.V]
/-- The step of places, by a number from 0 to 3. -/
def stepN (far : Int) : Int := if far = 0 then 1 else if far = 1 then 32 else if far = 2 then 64 else 128
theorem pic_reg5 {B : BusV} {s : Int} {V : VS} (h : PicV B s 0 V) (far : Int) (hf : 0 ≤ far ∧ far ≤ 3) : PicV (B.reg 5 (far * 2048)) 5 (far * 2048) (V.setSt (stepN far)) := by
  have h1 := pic_sel h 5 (by decide)
  unfold BusV.reg
  generalize B.wr 2088960 5 = C at *
  have e1 : C.wr 2088962 (far * 2048) = C.chosen 2 (far * 2048 % 256) := by
    rw [BusV.wr_vdc _ _ _ 2 reg_vdc2]; exact draw_none _ _ _ (by rw [pic_effect h1 2 (.inl rfl) (by decide)]; rfl)
  have hz : far * 2048 % 256 = 0 := by omega
  obtain ⟨h3, q3⟩ := pic_chosen h1 2 (.inl rfl) 5 rfl (by decide) (far * 2048 % 256) (by omega) (x := 0) (by
    rw [word_low, h1.sel, mask5]
    show andI (C.regs.reg 5 / 256 * 256 + far * 2048 % 256) 8191 = 0
    rw [h1.r5, hz]; decide)
  rw [e1]
  generalize C.chosen 2 (far * 2048 % 256) = D at *
  rw [if_pos rfl] at h3
  have e2 : D.wr 2088963 (far * 2048 / 256) = (D.chosen 3 (far * 2048 / 256 % 256)).bring 5 (far * 2048 / 256 % 256) := by
    rw [BusV.wr_vdc _ _ _ 3 reg_vdc3]; unfold BusV.draw; rw [pic_effect h3 3 (.inr rfl) (by decide)]; rfl
  obtain ⟨h4, q4⟩ := pic_chosen h3 3 (.inr rfl) 5 rfl (by decide) (far * 2048 / 256 % 256) (by omega) (x := far * 2048) (by
    rw [word_high, h3.sel, mask5]
    show andI (D.regs.reg 5 % 256 + 256 * (far * 2048 / 256 % 256)) 8191 = far * 2048
    rw [h3.r5, show 0 % 256 + 256 * (far * 2048 / 256 % 256) = far * 2048 by omega]; exact andI_8191 _ (by omega))
  rw [if_pos rfl] at h4
  rw [e2]
  refine ⟨h4.ok.bring _ _, h4.lag, h4.sel, h4.r5, ?_⟩
  show ((D.chosen 3 (far * 2048 / 256 % 256)).V).setSt ((D.chosen 3 (far * 2048 / 256 % 256)).regs.far) = _
  have hfar : (D.chosen 3 (far * 2048 / 256 % 256)).regs.far = stepN far := by
    unfold RegsV.far stepN
    rw [q4]
    rcases (show far = 0 ∨ far = 1 ∨ far = 2 ∨ far = 3 by omega) with rfl | rfl | rfl | rfl <;> rfl
  rw [h4.V, hfar]
/-- So many words written. -/
structure WroteV (V : VS) (at' st : Int) (l : List Int) (k : Nat) : Prop where
  ok : V.Ok
  wr : V.wr = at' + k * st
  sp : V.st = st
  word : ∀ i : Nat, i < k → V.word (at' + i * st) = nth 0 l i % 65536
theorem poke_st (V : VS) (a x : Int) : (V.poke a x).st = V.st := by unfold VS.poke; split <;> rfl
theorem mul_lt_st {i k : Nat} {st : Int} (h : i < k) (hs : 1 ≤ st) : (i : Int) * st + st ≤ (k : Int) * st := by
  have h1 : ((i : Int) + 1) * st ≤ (k : Int) * st := Int.mul_le_mul_of_nonneg_right (by omega) (by omega)
  rw [Int.add_mul] at h1; omega
theorem mul_in_st {k : Nat} {st : Int} (hs : 1 ≤ st ∧ st ≤ 128) (hk : k ≤ 40) : 0 ≤ (k : Int) * st ∧ (k : Int) * st ≤ 40 * 128 :=
  ⟨Int.mul_nonneg (by omega) (by omega), Int.mul_le_mul (by omega) hs.2 (by omega) (by omega)⟩
theorem wrote_put {V : VS} {at' st : Int} {l : List Int} {k : Nat} (h : WroteV V at' st l k) (ha : 0 ≤ at' ∧ at' ≤ 16383) (hs : 1 ≤ st ∧ st ≤ 128) (hk : k < 40) :
    WroteV ((V.putLo (nth 0 l k % 256)).putHi (nth 0 l k / 256 % 256)) at' st l (k + 1) := by
  have hkst := mul_in_st (k := k) hs (by omega)
  have e1 : ((k + 1 : Nat) : Int) * st = (k : Int) * st + st := by rw [Int.natCast_add, Int.add_mul]; simp
  obtain ⟨x, hx⟩ : ∃ x, x = nth 0 l k := ⟨_, rfl⟩
  rw [← hx]
  refine ⟨(h.ok.putLo _).putHi _, ?_, (poke_st _ _ _).trans h.sp, fun i hi => ?_⟩
  · show (V.wr + V.st) % 65536 = _
    rw [h.wr, h.sp, e1]; omega
  · rw [VS.word_putHi]
    show ((V.putLo (x % 256)).poke V.wr (x % 256 % 256 + 256 * (x / 256 % 256 % 256))).word _ = _
    rcases (show i < k ∨ i = k by omega) with h' | rfl
    · have h1 := mul_lt_st h' hs.1
      have h2 : 0 ≤ (i : Int) * st := Int.mul_nonneg (by omega) (by omega)
      rw [VS.word_poke_ne _ _ _ _ (by rw [h.wr]; omega), VS.word_putLo]; exact h.word i h'
    · rw [VS.word_poke_eq (V.putLo (x % 256)) h.ok.len _ _ _ (by rw [h.wr]), if_pos (by omega), ← hx]; omega
theorem wrote_begin (at' : Int) (ha : 0 ≤ at' ∧ at' ≤ 16383) (st : Int) (hs : 1 ≤ st ∧ st ≤ 128) (l : List Int) : WroteV ((VS.new.setSt st).setWr at') at' st l 0 :=
  ⟨(VS.Ok.new.setSt st).setWr at', by show at' % 65536 = at' + ((0 : Nat) : Int) * st; simp; omega, by show st % 65536 = st; omega, fun i hi => absurd hi (Nat.not_lt_zero _)⟩
/-- So many words read. -/
structure ReadV (V V0 : VS) (at' st : Int) (k : Nat) : Prop where
  rd : V.rd = at' + k * st
  bu : V.bu = V0.word (at' + k * st)
  sp : V.st = st
  same : ∀ p, V.word p = V0.word p
theorem read_begin {V : VS} {at' st : Int} {l : List Int} {k : Nat} (h : WroteV V at' st l k) (ha : 0 ≤ at' ∧ at' ≤ 16383) : ReadV (V.setRd at') V at' st 0 :=
  ⟨by show at' % 65536 = at' + ((0 : Nat) : Int) * st; simp; omega, by show V.word at' = V.word (at' + ((0 : Nat) : Int) * st); simp, h.sp, fun p => rfl⟩
theorem read_next {V V0 : VS} {at' st : Int} {k : Nat} (h : ReadV V V0 at' st k) (ha : 0 ≤ at' ∧ at' ≤ 16383) (hs : 1 ≤ st ∧ st ≤ 128) (hk : k < 40) : ReadV (V.setRd (V.rd + V.st)) V0 at' st (k + 1) := by
  have hkst := mul_in_st (k := k) hs (by omega)
  have e1 : ((k + 1 : Nat) : Int) * st = (k : Int) * st + st := by rw [Int.natCast_add, Int.add_mul]; simp
  refine ⟨?_, ?_, h.sp, fun p => h.same p⟩
  · show (V.rd + V.st) % 65536 = _
    rw [h.rd, h.sp, e1]; omega
  · show V.word (V.rd + V.st) = _
    rw [h.same, h.rd, h.sp, e1, ← Int.add_assoc]
theorem pic_read2 {B : BusV} {s r5 : Int} {V : VS} (h : PicV B s r5 V) : B.rd 2088962 = V.bu % 256 ∧ PicV (B.go 2088962) s r5 V := by
  refine ⟨?_, h.ok.go _, ?_, ?_, ?_, ?_⟩
  · unfold BusV.rd; rw [reg_vdc2.1, if_neg (by decide), if_neg (by decide), if_pos rfl, reg_vdc2.2]
    unfold BusV.rdVdc; rw [if_neg (by decide), if_pos rfl, h.V]; rfl
  all_goals
    unfold BusV.go; rw [reg_vdc2.1, if_pos rfl, reg_vdc2.2]
    unfold BusV.goVdc; rw [if_neg (by decide), if_pos rfl]
  · exact h.lag
  · exact h.sel
  · exact h.r5
  · exact h.V
theorem pic_read3 {B : BusV} {s r5 : Int} {V : VS} (h : PicV B s r5 V) : B.rd 2088963 = V.bu / 256 ∧ PicV (B.go 2088963) s r5 (V.setRd (V.rd + V.st)) := by
  refine ⟨?_, h.ok.go _, ?_, ?_, ?_, ?_⟩
  · unfold BusV.rd; rw [reg_vdc3.1, if_neg (by decide), if_neg (by decide), if_pos rfl, reg_vdc3.2]
    unfold BusV.rdVdc; rw [if_neg (by decide), if_neg (by decide), if_pos rfl, h.V]; rfl
  all_goals
    unfold BusV.go; rw [reg_vdc3.1, if_pos rfl, reg_vdc3.2]
    unfold BusV.goVdc; rw [if_neg (by decide), if_neg (by decide), if_pos rfl]
  · exact h.lag
  · exact h.sel
  · exact h.r5
  · show (B.V).setRd (B.V.rd + B.V.st) = _
    rw [h.V]
end Go.Proofs.YtnllkgjmoipgbaaGreatDoor
-- Cp
namespace Go.Proofs.YtnllkgjmoipgbaaGreatDoor
open Go Go.RowKit
set_option linter.unusedSimpArgs false
set_option linter.unusedVariables false
set_option maxRecDepth 100000

/-! ### Bytes -/
def orI (a b : Int) : Int := ((a.toNat ||| b.toNat : Nat) : Int)
def xorI (a b : Int) : Int := ((a.toNat ^^^ b.toNat : Nat) : Int)
def joinI (a b : Int) : Int := a % 256 + 256 * (b % 256)
def sgnI (b : Int) : Int := (b + 128) % 256 - 128
/-- A number with a flag, or without. -/
def setB (p b : Int) (on : Bool) : Int := if on then orBit p b else clrBit p b
def flagB (p b : Int) : Bool := decide (p / b % 2 = 1)

/-! ### The operations of two bytes -/
def nzI (p r : Int) : Int := setB (setB p 128 (decide (128 ≤ r))) 2 (decide (r = 0))
def sumR (a m p : Int) : Int := (a + m + p % 2) % 256
def sumP (a m p : Int) : Int :=
  setB (setB (nzI p (sumR a m p)) 1 (decide (255 < a + m + p % 2))) 64 (decide (a / 128 = m / 128 ∧ sumR a m p / 128 ≠ a / 128))
/-- Decimal halves. -/
def dig (x y c : Int) : Int := if 9 < x + y + c then x + y + c + 6 else x + y + c
def addLo (a m p : Int) : Int := dig (a % 16) (m % 16) (p % 2)
def addHi (a m p : Int) : Int := dig (a / 16) (m / 16) (if 15 < addLo a m p then 1 else 0)
def addR (a m p : Int) : Int := addHi a m p % 16 * 16 + addLo a m p % 16
def addP (a m p : Int) : Int := setB (nzI p (addR a m p)) 1 (decide (15 < addHi a m p))
def dis (x y c : Int) : Int := if x - y - c < 0 then x - y - c - 6 else x - y - c
def subLo (a m p : Int) : Int := dis (a % 16) (m % 16) (1 - p % 2)
def subHi (a m p : Int) : Int := dis (a / 16) (m / 16) (if subLo a m p < 0 then 1 else 0)
def subR (a m p : Int) : Int := subHi a m p % 16 * 16 + subLo a m p % 16
def subP (a m p : Int) : Int := setB (nzI p (subR a m p)) 1 (decide (0 ≤ subHi a m p))
/-- What is tested. -/
def testP (p m : Int) (none : Bool) : Int := setB (setB (setB p 128 (decide (128 ≤ m))) 64 (flagB m 64)) 2 none
/-- An operation of bytes: the result. -/
def aluR (op a m p : Int) : Int :=
  if op = 0 then orI a m else if op = 1 then andI a m else if op = 2 then xorI a m
  else if op = 3 then (if flagB p 8 then addR a m p else sumR a m p)
  else if op = 4 then (if flagB p 8 then subR a m p else sumR a (255 - m) p)
  else if op = 7 then orI a m else if op = 8 then m - andI a m
  else if op = 9 then m * 2 % 256 else if op = 10 then m * 2 % 256 + p % 2
  else if op = 11 then m / 2 else if op = 12 then m / 2 + p % 2 * 128
  else if op = 13 then (m + 1) % 256 else if op = 14 then (m - 1) % 256 else if op = 15 then m
  else a
/-- The flags behind it. -/
def aluP (op a m p : Int) : Int :=
  if op = 3 then (if flagB p 8 then addP a m p else sumP a m p)
  else if op = 4 then (if flagB p 8 then subP a m p else sumP a (255 - m) p)
  else if op = 5 then setB (nzI p ((a - m) % 256)) 1 (decide (m ≤ a))
  else if op = 6 then testP p m (decide (andI a m = 0))
  else if op = 7 then testP p m (decide (orI a m = 0))
  else if op = 8 then testP p m (decide (m - andI a m = 0))
  else if op = 9 ∨ op = 10 then setB (nzI p (aluR op a m p)) 1 (decide (128 ≤ m))
  else if op = 11 ∨ op = 12 then setB (nzI p (aluR op a m p)) 1 (decide (m % 2 = 1))
  else if 0 ≤ op ∧ op ≤ 15 then nzI p (aluR op a m p)
  else p

/-- What a byte can be, as an instruction. -/
inductive Op where
  | oora | oand | oeor | oadc | osbc | ocmp | ocpx | ocpy | obit | otst | otsb | otrb
  | oasl | orol | olsr | oror | oinc | odec | oinx | oiny | odex | odey | olda | oldx
  | oldy | osta | ostx | osty | ostz | otax | otay | otxa | otya | otsx | otxs | osxy
  | osax | osay | ocla | oclx | ocly | opha | ophx | ophy | ophp | opla | oplx | oply
  | oplp | ojmp | ojsr | obsr | orts | orti | obrk | obra | obmi | obpl | obvs | obvc
  | obcs | obcc | obeq | obne | oclc | ocld | ocli | oclv | osec | osed | osei | oset
  | ocsl | ocsh | otam | otma | ost0 | ost1 | ost2 | otii | otdd | otin | otia | otai
  | onop
  | rmb (k : Nat) | smb (k : Nat) | bbr (k : Nat) | bbs (k : Nat)
/-- Its name. -/
def Op.name : Op → ByteArray
  | .oora => ⟨#[79, 82, 65]⟩
  | .oand => ⟨#[65, 78, 68]⟩
  | .oeor => ⟨#[69, 79, 82]⟩
  | .oadc => ⟨#[65, 68, 67]⟩
  | .osbc => ⟨#[83, 66, 67]⟩
  | .ocmp => ⟨#[67, 77, 80]⟩
  | .ocpx => ⟨#[67, 80, 88]⟩
  | .ocpy => ⟨#[67, 80, 89]⟩
  | .obit => ⟨#[66, 73, 84]⟩
  | .otst => ⟨#[84, 83, 84]⟩
  | .otsb => ⟨#[84, 83, 66]⟩
  | .otrb => ⟨#[84, 82, 66]⟩
  | .oasl => ⟨#[65, 83, 76]⟩
  | .orol => ⟨#[82, 79, 76]⟩
  | .olsr => ⟨#[76, 83, 82]⟩
  | .oror => ⟨#[82, 79, 82]⟩
  | .oinc => ⟨#[73, 78, 67]⟩
  | .odec => ⟨#[68, 69, 67]⟩
  | .oinx => ⟨#[73, 78, 88]⟩
  | .oiny => ⟨#[73, 78, 89]⟩
  | .odex => ⟨#[68, 69, 88]⟩
  | .odey => ⟨#[68, 69, 89]⟩
  | .olda => ⟨#[76, 68, 65]⟩
  | .oldx => ⟨#[76, 68, 88]⟩
  | .oldy => ⟨#[76, 68, 89]⟩
  | .osta => ⟨#[83, 84, 65]⟩
  | .ostx => ⟨#[83, 84, 88]⟩
  | .osty => ⟨#[83, 84, 89]⟩
  | .ostz => ⟨#[83, 84, 90]⟩
  | .otax => ⟨#[84, 65, 88]⟩
  | .otay => ⟨#[84, 65, 89]⟩
  | .otxa => ⟨#[84, 88, 65]⟩
  | .otya => ⟨#[84, 89, 65]⟩
  | .otsx => ⟨#[84, 83, 88]⟩
  | .otxs => ⟨#[84, 88, 83]⟩
  | .osxy => ⟨#[83, 88, 89]⟩
  | .osax => ⟨#[83, 65, 88]⟩
  | .osay => ⟨#[83, 65, 89]⟩
  | .ocla => ⟨#[67, 76, 65]⟩
  | .oclx => ⟨#[67, 76, 88]⟩
  | .ocly => ⟨#[67, 76, 89]⟩
  | .opha => ⟨#[80, 72, 65]⟩
  | .ophx => ⟨#[80, 72, 88]⟩
  | .ophy => ⟨#[80, 72, 89]⟩
  | .ophp => ⟨#[80, 72, 80]⟩
  | .opla => ⟨#[80, 76, 65]⟩
  | .oplx => ⟨#[80, 76, 88]⟩
  | .oply => ⟨#[80, 76, 89]⟩
  | .oplp => ⟨#[80, 76, 80]⟩
  | .ojmp => ⟨#[74, 77, 80]⟩
  | .ojsr => ⟨#[74, 83, 82]⟩
  | .obsr => ⟨#[66, 83, 82]⟩
  | .orts => ⟨#[82, 84, 83]⟩
  | .orti => ⟨#[82, 84, 73]⟩
  | .obrk => ⟨#[66, 82, 75]⟩
  | .obra => ⟨#[66, 82, 65]⟩
  | .obmi => ⟨#[66, 77, 73]⟩
  | .obpl => ⟨#[66, 80, 76]⟩
  | .obvs => ⟨#[66, 86, 83]⟩
  | .obvc => ⟨#[66, 86, 67]⟩
  | .obcs => ⟨#[66, 67, 83]⟩
  | .obcc => ⟨#[66, 67, 67]⟩
  | .obeq => ⟨#[66, 69, 81]⟩
  | .obne => ⟨#[66, 78, 69]⟩
  | .oclc => ⟨#[67, 76, 67]⟩
  | .ocld => ⟨#[67, 76, 68]⟩
  | .ocli => ⟨#[67, 76, 73]⟩
  | .oclv => ⟨#[67, 76, 86]⟩
  | .osec => ⟨#[83, 69, 67]⟩
  | .osed => ⟨#[83, 69, 68]⟩
  | .osei => ⟨#[83, 69, 73]⟩
  | .oset => ⟨#[83, 69, 84]⟩
  | .ocsl => ⟨#[67, 83, 76]⟩
  | .ocsh => ⟨#[67, 83, 72]⟩
  | .otam => ⟨#[84, 65, 77]⟩
  | .otma => ⟨#[84, 77, 65]⟩
  | .ost0 => ⟨#[83, 84, 48]⟩
  | .ost1 => ⟨#[83, 84, 49]⟩
  | .ost2 => ⟨#[83, 84, 50]⟩
  | .otii => ⟨#[84, 73, 73]⟩
  | .otdd => ⟨#[84, 68, 68]⟩
  | .otin => ⟨#[84, 73, 78]⟩
  | .otia => ⟨#[84, 73, 65]⟩
  | .otai => ⟨#[84, 65, 73]⟩
  | .onop => ⟨#[78, 79, 80]⟩
  | .rmb k => ⟨#[82, 77, 66, 48 + k.toUInt8]⟩
  | .smb k => ⟨#[83, 77, 66, 48 + k.toUInt8]⟩
  | .bbr k => ⟨#[66, 66, 82, 48 + k.toUInt8]⟩
  | .bbs k => ⟨#[66, 66, 83, 48 + k.toUInt8]⟩
/-- The table of bytes: what, its mode, its cycles. -/
def opTab : List (Op × Int × Int) := [
  (.obrk, 0, 8), (.oora, 6, 7), (.osxy, 0, 3), (.ost0, 2, 4), (.otsb, 3, 6), (.oora, 3, 4), (.oasl, 3, 6), (.rmb 0, 3, 7),
  (.ophp, 0, 3), (.oora, 2, 2), (.oasl, 1, 2), (.onop, 0, 2), (.otsb, 9, 7), (.oora, 9, 5), (.oasl, 9, 7), (.bbr 0, 15, 6),
  (.obpl, 14, 2), (.oora, 7, 7), (.oora, 8, 7), (.ost1, 2, 4), (.otrb, 3, 6), (.oora, 4, 4), (.oasl, 4, 6), (.rmb 1, 3, 7),
  (.oclc, 0, 2), (.oora, 11, 5), (.oinc, 1, 2), (.onop, 0, 2), (.otrb, 9, 7), (.oora, 10, 5), (.oasl, 10, 7), (.bbr 1, 15, 6),
  (.ojsr, 9, 7), (.oand, 6, 7), (.osax, 0, 3), (.ost2, 2, 4), (.obit, 3, 4), (.oand, 3, 4), (.orol, 3, 6), (.rmb 2, 3, 7),
  (.oplp, 0, 4), (.oand, 2, 2), (.orol, 1, 2), (.onop, 0, 2), (.obit, 9, 5), (.oand, 9, 5), (.orol, 9, 7), (.bbr 2, 15, 6),
  (.obmi, 14, 2), (.oand, 7, 7), (.oand, 8, 7), (.onop, 0, 2), (.obit, 4, 4), (.oand, 4, 4), (.orol, 4, 6), (.rmb 3, 3, 7),
  (.osec, 0, 2), (.oand, 11, 5), (.odec, 1, 2), (.onop, 0, 2), (.obit, 10, 5), (.oand, 10, 5), (.orol, 10, 7), (.bbr 3, 15, 6),
  (.orti, 0, 7), (.oeor, 6, 7), (.osay, 0, 3), (.otma, 2, 4), (.obsr, 14, 8), (.oeor, 3, 4), (.olsr, 3, 6), (.rmb 4, 3, 7),
  (.opha, 0, 3), (.oeor, 2, 2), (.olsr, 1, 2), (.onop, 0, 2), (.ojmp, 9, 4), (.oeor, 9, 5), (.olsr, 9, 7), (.bbr 4, 15, 6),
  (.obvc, 14, 2), (.oeor, 7, 7), (.oeor, 8, 7), (.otam, 2, 5), (.ocsl, 0, 3), (.oeor, 4, 4), (.olsr, 4, 6), (.rmb 5, 3, 7),
  (.ocli, 0, 2), (.oeor, 11, 5), (.ophy, 0, 3), (.onop, 0, 2), (.onop, 0, 2), (.oeor, 10, 5), (.olsr, 10, 7), (.bbr 5, 15, 6),
  (.orts, 0, 7), (.oadc, 6, 7), (.ocla, 0, 2), (.onop, 0, 2), (.ostz, 3, 4), (.oadc, 3, 4), (.oror, 3, 6), (.rmb 6, 3, 7),
  (.opla, 0, 4), (.oadc, 2, 2), (.oror, 1, 2), (.onop, 0, 2), (.ojmp, 12, 7), (.oadc, 9, 5), (.oror, 9, 7), (.bbr 6, 15, 6),
  (.obvs, 14, 2), (.oadc, 7, 7), (.oadc, 8, 7), (.otii, 16, 17), (.ostz, 4, 4), (.oadc, 4, 4), (.oror, 4, 6), (.rmb 7, 3, 7),
  (.osei, 0, 2), (.oadc, 11, 5), (.oply, 0, 4), (.onop, 0, 2), (.ojmp, 13, 7), (.oadc, 10, 5), (.oror, 10, 7), (.bbr 7, 15, 6),
  (.obra, 14, 4), (.osta, 6, 7), (.oclx, 0, 2), (.otst, 17, 7), (.osty, 3, 4), (.osta, 3, 4), (.ostx, 3, 4), (.smb 0, 3, 7),
  (.odey, 0, 2), (.obit, 2, 2), (.otxa, 0, 2), (.onop, 0, 2), (.osty, 9, 5), (.osta, 9, 5), (.ostx, 9, 5), (.bbs 0, 15, 6),
  (.obcc, 14, 2), (.osta, 7, 7), (.osta, 8, 7), (.otst, 19, 8), (.osty, 4, 4), (.osta, 4, 4), (.ostx, 5, 4), (.smb 1, 3, 7),
  (.otya, 0, 2), (.osta, 11, 5), (.otxs, 0, 2), (.onop, 0, 2), (.ostz, 9, 5), (.osta, 10, 5), (.ostz, 10, 5), (.bbs 1, 15, 6),
  (.oldy, 2, 2), (.olda, 6, 7), (.oldx, 2, 2), (.otst, 18, 7), (.oldy, 3, 4), (.olda, 3, 4), (.oldx, 3, 4), (.smb 2, 3, 7),
  (.otay, 0, 2), (.olda, 2, 2), (.otax, 0, 2), (.onop, 0, 2), (.oldy, 9, 5), (.olda, 9, 5), (.oldx, 9, 5), (.bbs 2, 15, 6),
  (.obcs, 14, 2), (.olda, 7, 7), (.olda, 8, 7), (.otst, 20, 8), (.oldy, 4, 4), (.olda, 4, 4), (.oldx, 5, 4), (.smb 3, 3, 7),
  (.oclv, 0, 2), (.olda, 11, 5), (.otsx, 0, 2), (.onop, 0, 2), (.oldy, 10, 5), (.olda, 10, 5), (.oldx, 11, 5), (.bbs 3, 15, 6),
  (.ocpy, 2, 2), (.ocmp, 6, 7), (.ocly, 0, 2), (.otdd, 16, 17), (.ocpy, 3, 4), (.ocmp, 3, 4), (.odec, 3, 6), (.smb 4, 3, 7),
  (.oiny, 0, 2), (.ocmp, 2, 2), (.odex, 0, 2), (.onop, 0, 2), (.ocpy, 9, 5), (.ocmp, 9, 5), (.odec, 9, 7), (.bbs 4, 15, 6),
  (.obne, 14, 2), (.ocmp, 7, 7), (.ocmp, 8, 7), (.otin, 16, 17), (.ocsh, 0, 3), (.ocmp, 4, 4), (.odec, 4, 6), (.smb 5, 3, 7),
  (.ocld, 0, 2), (.ocmp, 11, 5), (.ophx, 0, 3), (.onop, 0, 2), (.onop, 0, 2), (.ocmp, 10, 5), (.odec, 10, 7), (.bbs 5, 15, 6),
  (.ocpx, 2, 2), (.osbc, 6, 7), (.onop, 0, 2), (.otia, 16, 17), (.ocpx, 3, 4), (.osbc, 3, 4), (.oinc, 3, 6), (.smb 6, 3, 7),
  (.oinx, 0, 2), (.osbc, 2, 2), (.onop, 0, 2), (.onop, 0, 2), (.ocpx, 9, 5), (.osbc, 9, 5), (.oinc, 9, 7), (.bbs 6, 15, 6),
  (.obeq, 14, 2), (.osbc, 7, 7), (.osbc, 8, 7), (.otai, 16, 17), (.oset, 0, 2), (.osbc, 4, 4), (.oinc, 4, 6), (.smb 7, 3, 7),
  (.osed, 0, 2), (.osbc, 11, 5), (.oplx, 0, 4), (.onop, 0, 2), (.onop, 0, 2), (.osbc, 10, 5), (.oinc, 10, 7), (.bbs 7, 15, 6)]
def Op.zero : Op × Int × Int := (.onop, 0, 2)
def opAt (b : Int) : Op × Int × Int := opTab.getD b.toNat Op.zero
/-- How many bytes a mode has. -/
def modeLen (m : Int) : Int := if m = 0 ∨ m = 1 then 1 else if m = 9 ∨ m = 10 ∨ m = 11 ∨ m = 12 ∨ m = 13 ∨ m = 15 ∨ m = 17 ∨ m = 18 then 3 else if m = 19 ∨ m = 20 then 4 else if m = 16 then 7 else 2

/-! ### Modes -/
def ptrHas (m : Int) : Bool := decide (m = 6 ∨ m = 7 ∨ m = 8 ∨ m = 12 ∨ m = 13)
def ptrWraps (m : Int) : Bool := decide (m = 6 ∨ m = 7 ∨ m = 8)
def ptrAt (m x o : Int) : Int := if m = 6 then 8192 + (o + x) % 256 else if m = 7 ∨ m = 8 then 8192 + o % 256 else if m = 13 then (o + x) % 65536 else if m = 12 then o % 65536 else 0
def aftI (a : Int) (wraps : Bool) : Int := if wraps then 8192 + (a + 1) % 256 else (a + 1) % 65536
def adrHas (m : Int) : Bool := decide (m = 3 ∨ m = 4 ∨ m = 5 ∨ m = 6 ∨ m = 7 ∨ m = 8 ∨ m = 9 ∨ m = 10 ∨ m = 11 ∨ m = 12 ∨ m = 13 ∨ m = 15 ∨ m = 17 ∨ m = 18 ∨ m = 19 ∨ m = 20)
def adrI (m x y o q : Int) : Int :=
  if m = 3 ∨ m = 15 ∨ m = 17 then 8192 + o % 256 else if m = 4 ∨ m = 18 then 8192 + (o + x) % 256 else if m = 5 then 8192 + (o + y) % 256
  else if m = 9 ∨ m = 19 then o % 65536 else if m = 10 ∨ m = 20 then (o + x) % 65536 else if m = 11 then (o + y) % 65536
  else if m = 6 ∨ m = 8 ∨ m = 12 ∨ m = 13 then q % 65536 else if m = 7 then (q + y) % 65536 else 0
def tgtI (pc o : Int) : Int := (pc + sgnI o) % 65536

/-! ### The machine with its processor -/
structure Mc where
  a : Int
  x : Int
  y : Int
  s : Int
  p : Int
  pc : Int
  fast : Bool
  last : Int
  cyc : Int
  B : BusV
/-- What the bytes at PC are. -/
structure In where
  name : ByteArray
  mode : Int
  len : Int
  cy : Int
  bytes : List Int
  opd : Int
  mask : Int
  tt : Int
  at' : Int
  has : Bool
  t : Bool
def In.zero : In := ⟨⟨#[]⟩, 0, 0, 0, [0, 0, 0, 0, 0, 0, 0], 0, 0, 0, 0, false, false⟩
def physI (f : List Int) (a : Int) : Int := nth 0 f (a % 65536 / 8192).toNat * 8192 + a % 8192
def slowI (q : Int) : Int := if regKind q = 2 ∨ regKind q = 3 then 1 else 0
def Mc.ph (c : Mc) (a : Int) : Int := physI c.B.file a
def Mc.get (c : Mc) (a : Int) : Int := c.B.rd (c.ph a)
def Mc.gone (c : Mc) (a : Int) : Mc := { c with B := c.B.go (c.ph a), cyc := c.cyc + slowI (c.ph a) }
def Mc.put (c : Mc) (a v : Int) : Mc := { c with B := c.B.wr (c.ph a) v, cyc := c.cyc + slowI (c.ph a) }
def Mc.word (c : Mc) (a n : Int) : Int := joinI (c.get a) ((c.gone a).get n)
def Mc.worded (c : Mc) (a n : Int) : Mc := (c.gone a).gone n
def Mc.push (c : Mc) (v : Int) : Mc := { c.put (8448 + c.s) v with s := (c.s - 1) % 256 }
def Mc.pushW (c : Mc) (w : Int) : Mc := (c.push (w / 256 % 256)).push (w % 256)
def Mc.up (c : Mc) : Mc := { c with s := (c.s + 1) % 256 }
def Mc.pull (c : Mc) : Int := c.up.get (8448 + c.up.s)
def Mc.pulled (c : Mc) : Mc := c.up.gone (8448 + c.up.s)
def Mc.pullW (c : Mc) : Int := joinI c.pull c.pulled.pull
def Mc.pulledW (c : Mc) : Mc := c.pulled.pulled
def enterP (p : Int) : Int := orBit (clrBit (clrBit p 8) 32) 4
def Mc.entered (c : Mc) (p : Int) : Mc := { c.push p with p := enterP (c.push p).p }
def Mc.enter (c : Mc) (p v : Int) : Mc := { (c.entered p).worded v (v + 1) with pc := (c.entered p).word v (v + 1) }
/-- Behind so many bytes that were read from PC on. -/
def Mc.ate (c : Mc) (pc : Int) : Nat → Mc
  | 0 => c
  | n + 1 => (c.ate pc n).gone (pc + n)
def Mc.byteAt (c : Mc) (pc : Int) (n : Nat) : Int := (c.ate pc n).get (pc + n)
def Mc.bytes (c : Mc) (pc : Int) (n : Nat) : List Int := (List.range 7).map fun i => if i < n then c.byteAt pc i else 0
/-- The instruction: what its bytes are, without its place. -/
def In.of (b : Int) (bs : List Int) (t : Bool) : In :=
  let e := opAt b
  let m := e.2.1
  { name := e.1.name, mode := m, len := modeLen m, cy := e.2.2, bytes := bs,
    opd := if m = 17 ∨ m = 18 then nth 0 bs 2 else if m = 19 ∨ m = 20 then joinI (nth 0 bs 2) (nth 0 bs 3) else if m = 9 ∨ m = 10 ∨ m = 11 ∨ m = 12 ∨ m = 13 then joinI (nth 0 bs 1) (nth 0 bs 2) else nth 0 bs 1,
    mask := if m = 17 ∨ m = 18 ∨ m = 19 ∨ m = 20 then nth 0 bs 1 else 0, tt := if m = 15 then nth 0 bs 2 else 0, at' := 0, has := false, t := t }
def Mc.lenAt (c : Mc) : Nat := (modeLen (opAt (c.get c.pc)).2.1).toNat
def Mc.in0 (c : Mc) : In := In.of (c.get c.pc) (c.bytes c.pc c.lenAt) (flagB c.p 32)
def Mc.fed (c : Mc) : Mc := { c.ate c.pc c.lenAt with pc := (c.pc + c.lenAt) % 65536, p := clrBit c.p 32 }
def Mc.point (c : Mc) (i : In) : Int := if ptrHas i.mode then c.word (ptrAt i.mode c.x i.opd) (aftI (ptrAt i.mode c.x i.opd) (ptrWraps i.mode)) else 0
def Mc.pointed (c : Mc) (i : In) : Mc := if ptrHas i.mode then c.worded (ptrAt i.mode c.x i.opd) (aftI (ptrAt i.mode c.x i.opd) (ptrWraps i.mode)) else c
def Mc.inst (c : Mc) : In := { c.in0 with at' := adrI c.in0.mode c.x c.y c.in0.opd (c.fed.point c.in0), has := adrHas c.in0.mode }
def Mc.fetch (c : Mc) : Mc := c.fed.pointed c.in0

/-! ### What an instruction does -/
def Mc.m (c : Mc) (i : In) : Int := if i.has then c.get i.at' else if i.mode = 1 then c.a else i.opd
def Mc.mG (c : Mc) (i : In) : Mc := if i.has then c.gone i.at' else c
def Mc.back (c : Mc) (i : In) (v : Int) : Mc := if i.has then c.put i.at' v else { c with a := v }
def Mc.fl (c : Mc) (op a m : Int) : Mc := { c with p := aluP op a m c.p }
def Mc.both (c : Mc) (i : In) (op : Int) : Mc :=
  let d := c.mG i
  let m := c.m i
  if i.t then
    let e := d.gone (8192 + d.x)
    let v := d.get (8192 + d.x)
    let f := (e.fl op v m).put (8192 + d.x) (aluR op v m e.p)
    { f with cyc := f.cyc + 3 }
  else { d.fl op d.a m with a := aluR op d.a m d.p }
def Mc.own (c : Mc) (i : In) (op : Int) : Mc :=
  let d := c.mG i
  let m := c.m i
  (d.fl op d.a m).back i (aluR op d.a m d.p)
def Mc.branch (c : Mc) (may : Bool) (tt : Int) : Mc := if may then { c with pc := tgtI c.pc tt, cyc := c.cyc + 2 } else c
def bitPut (n : Int) (k : Nat) (on : Bool) : Int := setB n (2 ^ k) on
def Mc.xfer (c : Mc) (fs ts : Nat → Int) : Nat → Mc
  | 0 => c
  | n + 1 =>
    let d := c.xfer fs ts n
    let e := (d.gone (fs n)).put (ts n) (d.get (fs n))
    { e with cyc := e.cyc + 6 }
def countI (n : Int) : Nat := if n % 65536 = 0 then 65536 else (n % 65536).toNat
def stepF (kind : Int) (f : Int) (n : Nat) : Int := if kind = 1 then (f - n) % 65536 else if kind = 4 then (f + n % 2) % 65536 else (f + n) % 65536
def stepT (kind : Int) (t : Int) (n : Nat) : Int := if kind = 1 then (t - n) % 65536 else if kind = 2 then t % 65536 else if kind = 3 then (t + n % 2) % 65536 else (t + n) % 65536
def Mc.block (c : Mc) (i : In) (kind : Int) : Mc :=
  c.xfer (stepF kind (joinI (nth 0 i.bytes 1) (nth 0 i.bytes 2))) (stepT kind (joinI (nth 0 i.bytes 3) (nth 0 i.bytes 4))) (countI (joinI (nth 0 i.bytes 5) (nth 0 i.bytes 6)))
def tamI (f : List Int) (mask b : Int) : List Int := (List.range 8).map fun k => if mask / 2 ^ k % 2 = 1 then b % 256 else nth 0 f k
def tmaI (f : List Int) (mask last : Int) : Int :=
  if mask % 2 = 1 then nth 0 f 0 else if mask / 2 % 2 = 1 then nth 0 f 1 else if mask / 4 % 2 = 1 then nth 0 f 2 else if mask / 8 % 2 = 1 then nth 0 f 3
  else if mask / 16 % 2 = 1 then nth 0 f 4 else if mask / 32 % 2 = 1 then nth 0 f 5 else if mask / 64 % 2 = 1 then nth 0 f 6 else if mask / 128 % 2 = 1 then nth 0 f 7 else last % 256
def Mc.exec (c : Mc) (i : In) : Op → Mc
  | .oora => c.both i 0 | .oand => c.both i 1 | .oeor => c.both i 2 | .oadc => c.both i 3
  | .osbc => { (c.mG i).fl 4 c.a (c.m i) with a := aluR 4 c.a (c.m i) c.p }
  | .ocmp => (c.mG i).fl 5 c.a (c.m i) | .ocpx => (c.mG i).fl 5 c.x (c.m i) | .ocpy => (c.mG i).fl 5 c.y (c.m i)
  | .obit => (c.mG i).fl 6 c.a (c.m i) | .otst => (c.mG i).fl 6 i.mask (c.m i)
  | .otsb => c.own i 7 | .otrb => c.own i 8 | .oasl => c.own i 9 | .orol => c.own i 10 | .olsr => c.own i 11 | .oror => c.own i 12 | .oinc => c.own i 13 | .odec => c.own i 14
  | .oinx => { c.fl 13 0 c.x with x := aluR 13 0 c.x c.p } | .oiny => { c.fl 13 0 c.y with y := aluR 13 0 c.y c.p }
  | .odex => { c.fl 14 0 c.x with x := aluR 14 0 c.x c.p } | .odey => { c.fl 14 0 c.y with y := aluR 14 0 c.y c.p }
  | .olda => { (c.mG i).fl 15 0 (c.m i) with a := c.m i } | .oldx => { (c.mG i).fl 15 0 (c.m i) with x := c.m i } | .oldy => { (c.mG i).fl 15 0 (c.m i) with y := c.m i }
  | .osta => c.put i.at' c.a | .ostx => c.put i.at' c.x | .osty => c.put i.at' c.y | .ostz => c.put i.at' 0
  | .otax => { c.fl 15 0 c.a with x := c.a } | .otay => { c.fl 15 0 c.a with y := c.a } | .otxa => { c.fl 15 0 c.x with a := c.x } | .otya => { c.fl 15 0 c.y with a := c.y }
  | .otsx => { c.fl 15 0 c.s with x := c.s } | .otxs => { c with s := c.x }
  | .osxy => { c with x := c.y, y := c.x } | .osax => { c with a := c.x, x := c.a } | .osay => { c with a := c.y, y := c.a }
  | .ocla => { c with a := 0 } | .oclx => { c with x := 0 } | .ocly => { c with y := 0 }
  | .opha => c.push c.a | .ophx => c.push c.x | .ophy => c.push c.y | .ophp => c.push (orBit c.p 16)
  | .opla => { c.pulled.fl 15 0 c.pull with a := c.pull } | .oplx => { c.pulled.fl 15 0 c.pull with x := c.pull } | .oply => { c.pulled.fl 15 0 c.pull with y := c.pull }
  | .oplp => { c.pulled with p := c.pull }
  | .ojmp => { c with pc := i.at' }
  | .ojsr => { c.pushW (c.pc - 1) with pc := i.at' }
  | .obsr => { c.pushW (c.pc - 1) with pc := tgtI c.pc i.opd }
  | .orts => { c.pulledW with pc := (c.pullW + 1) % 65536 }
  | .orti => { ({ c.pulled with p := c.pull } : Mc).pulledW with pc := ({ c.pulled with p := c.pull } : Mc).pullW }
  | .obrk => (c.pushW (c.pc + 1)).enter (orBit c.p 16) 65526
  | .obra => { c with pc := tgtI c.pc i.opd }
  | .obmi => c.branch (flagB c.p 128) i.opd | .obpl => c.branch (!flagB c.p 128) i.opd | .obvs => c.branch (flagB c.p 64) i.opd | .obvc => c.branch (!flagB c.p 64) i.opd
  | .obcs => c.branch (flagB c.p 1) i.opd | .obcc => c.branch (!flagB c.p 1) i.opd | .obeq => c.branch (flagB c.p 2) i.opd | .obne => c.branch (!flagB c.p 2) i.opd
  | .rmb k => (c.mG i).back i (bitPut (c.m i) k false) | .smb k => (c.mG i).back i (bitPut (c.m i) k true)
  | .bbr k => (c.mG i).branch (!flagB (c.m i) (2 ^ k)) i.tt | .bbs k => (c.mG i).branch (flagB (c.m i) (2 ^ k)) i.tt
  | .oclc => { c with p := clrBit c.p 1 } | .ocld => { c with p := clrBit c.p 8 } | .ocli => { c with p := clrBit c.p 4 } | .oclv => { c with p := clrBit c.p 64 }
  | .osec => { c with p := orBit c.p 1 } | .osed => { c with p := orBit c.p 8 } | .osei => { c with p := orBit c.p 4 } | .oset => { c with p := orBit c.p 32 }
  | .ocsl => { c with fast := false } | .ocsh => { c with fast := true }
  | .otam => { c with B := { c.B with file := tamI c.B.file i.opd c.a }, last := if i.opd = 0 then c.last else c.a }
  | .otma => { c with a := tmaI c.B.file i.opd c.last, last := tmaI c.B.file i.opd c.last }
  | .ost0 => { c with B := c.B.wr 2088960 i.opd } | .ost1 => { c with B := c.B.wr 2088962 i.opd } | .ost2 => { c with B := c.B.wr 2088963 i.opd }
  | .otii => c.block i 0 | .otdd => c.block i 1 | .otin => c.block i 2 | .otia => c.block i 3 | .otai => c.block i 4
  | .onop => c

/-! ### A step -/
structure Rr where
  a : Int
  x : Int
  y : Int
  s : Int
  p : Int
  pc : Int
  fast : Bool
  last : Int
def pickI (mask lines p : Int) : Int :=
  if p / 4 % 2 = 1 then 0 else if lines / 4 % 2 = 1 ∧ mask / 4 % 2 = 0 then 65530 else if lines / 2 % 2 = 1 ∧ mask / 2 % 2 = 0 then 65528 else if lines % 2 = 1 ∧ mask % 2 = 0 then 65526 else 0
def Rr.on (r : Rr) (B : BusV) : Mc := ⟨r.a % 256, r.x % 256, r.y % 256, r.s % 256, r.p % 256, r.pc % 65536, r.fast, r.last, 0, B⟩
def Mc.rr (c : Mc) : Rr := ⟨c.a, c.x, c.y, c.s, c.p, c.pc, c.fast, c.last⟩
def Mc.taken (c : Mc) (v : Int) : Mc := (({ c with cyc := 8 } : Mc).pushW c.pc).enter (clrBit c.p 16) v
def Mc.done (c : Mc) : Mc := ({ c.fetch with cyc := c.fetch.cyc + c.inst.cy } : Mc).exec c.inst (opAt (c.get c.pc)).1
def Mc.step (c : Mc) : Mc := if pickI c.B.mask c.B.lines c.p = 0 then c.done else c.taken (pickI c.B.mask c.B.lines c.p)
/-- A step of a processor on a machine. -/
def stepOf (r : Rr) (B : BusV) : Mc := (r.on B.settle).step
end Go.Proofs.YtnllkgjmoipgbaaGreatDoor
-- Cq
namespace Go.Proofs.YtnllkgjmoipgbaaGreatDoor
open Go Go.RowKit
set_option linter.unusedSimpArgs false
set_option linter.unusedVariables false
set_option maxRecDepth 100000

/-! ### The bus keeps its mapping, and is never behind -/
theorem BusV.tell_keeps (B : BusV) (b : Int) (m : Bool) : (B.tell b m).file = B.file ∧ (B.tell b m).lag = B.lag := ⟨rfl, rfl⟩
theorem BusV.go_file (B : BusV) (a : Int) : (B.go a).file = B.file := by
  unfold BusV.go BusV.goVdc BusV.goHeld
  repeat' split
  all_goals rfl
theorem BusV.go_lag {B : BusV} (h : B.lag = 0) (a : Int) : (B.go a).lag = 0 := by
  unfold BusV.go BusV.goVdc BusV.goHeld
  repeat' split
  all_goals first | exact h | rfl
theorem BusV.bring_keeps (B : BusV) (e v : Int) : (B.bring e v).file = B.file ∧ (B.bring e v).lag = B.lag := by
  unfold BusV.bring BusV.move
  repeat' split
  all_goals exact ⟨rfl, rfl⟩
theorem BusV.wr_file (B : BusV) (a v : Int) : (B.wr a v).file = B.file := by
  unfold BusV.wr BusV.wr8 BusV.held
  repeat' split
  all_goals first | rfl | exact (BusV.bring_keeps _ _ _).1
theorem BusV.wr_lag0 {B : BusV} (h : B.lag = 0) (a v : Int) : (B.wr a v).lag = 0 := by
  unfold BusV.wr BusV.wr8 BusV.held
  repeat' split
  all_goals first | exact h | rfl | exact (BusV.bring_keeps _ _ _).2.trans h
theorem VS.Ok.get {V : VS} (h : V.Ok) (b : Bool) : 0 ≤ V.get b ∧ V.get b ≤ 255 := by
  have := h.bu
  unfold VS.get; split <;> omega
theorem VceV.read_in {v : VceV} (h : v.Ok) (a : Int) : 0 ≤ v.read a ∧ v.read a ≤ 255 := by
  have := h.table v.addr.toNat
  unfold VceV.read
  repeat' split
  all_goals omega
theorem BusV.rd_in {B : BusV} (h : B.Ok) (hV : B.V.Ok) (a : Int) : 0 ≤ B.rd a ∧ B.rd a ≤ 255 := by
  have hs := h.status
  unfold BusV.rd
  repeat' split
  · exact h.rom _
  · exact h.ram _
  · unfold BusV.rdVdc
    repeat' split
    · omega
    · exact hV.get _
    · exact hV.get _
    · omega
  · exact VceV.read_in h.vce _
  · omega
  · exact (h.goHeld _ _).hold

/-! ### Flags and bytes -/
def isFlag (b : Int) : Prop := b = 1 ∨ b = 2 ∨ b = 4 ∨ b = 8 ∨ b = 16 ∨ b = 32 ∨ b = 64 ∨ b = 128
theorem orBit_byte {p b : Int} (hp : 0 ≤ p ∧ p ≤ 255) (hb : isFlag b) : 0 ≤ orBit p b ∧ orBit p b ≤ 255 := by
  unfold orBit
  rcases hb with rfl | rfl | rfl | rfl | rfl | rfl | rfl | rfl <;> split <;> omega
theorem clrBit_byte {p b : Int} (hp : 0 ≤ p ∧ p ≤ 255) (hb : isFlag b) : 0 ≤ clrBit p b ∧ clrBit p b ≤ 255 := by
  unfold clrBit
  rcases hb with rfl | rfl | rfl | rfl | rfl | rfl | rfl | rfl <;> split <;> omega
theorem setB_in {p b : Int} (hp : 0 ≤ p ∧ p ≤ 255) (hb : isFlag b) (on : Bool) : 0 ≤ setB p b on ∧ setB p b on ≤ 255 := by
  unfold setB
  split
  · exact orBit_byte hp hb
  · exact clrBit_byte hp hb
theorem isF1 : isFlag 1 := by unfold isFlag; simp
theorem isF2 : isFlag 2 := by unfold isFlag; simp
theorem isF4 : isFlag 4 := by unfold isFlag; simp
theorem isF8 : isFlag 8 := by unfold isFlag; simp
theorem isF16 : isFlag 16 := by unfold isFlag; simp
theorem isF32 : isFlag 32 := by unfold isFlag; simp
theorem isF64 : isFlag 64 := by unfold isFlag; simp
theorem isF128 : isFlag 128 := by unfold isFlag; simp
theorem isFpow (k : Nat) (hk : k < 8) : isFlag (2 ^ k) := by
  have : ∀ k : Fin 8, isFlag (2 ^ k.val) := by unfold isFlag; decide
  exact this ⟨k, hk⟩
theorem nzI_in {p : Int} (hp : 0 ≤ p ∧ p ≤ 255) (r : Int) : 0 ≤ nzI p r ∧ nzI p r ≤ 255 := setB_in (setB_in hp isF128 _) isF2 _
theorem testP_in {p : Int} (hp : 0 ≤ p ∧ p ≤ 255) (m : Int) (n : Bool) : 0 ≤ testP p m n ∧ testP p m n ≤ 255 := setB_in (setB_in (setB_in hp isF128 _) isF64 _) isF2 _
theorem sumP_in {p : Int} (hp : 0 ≤ p ∧ p ≤ 255) (a m : Int) : 0 ≤ sumP a m p ∧ sumP a m p ≤ 255 := setB_in (setB_in (nzI_in hp _) isF1 _) isF64 _
theorem addP_in {p : Int} (hp : 0 ≤ p ∧ p ≤ 255) (a m : Int) : 0 ≤ addP a m p ∧ addP a m p ≤ 255 := setB_in (nzI_in hp _) isF1 _
theorem subP_in {p : Int} (hp : 0 ≤ p ∧ p ≤ 255) (a m : Int) : 0 ≤ subP a m p ∧ subP a m p ≤ 255 := setB_in (nzI_in hp _) isF1 _
theorem ite255 {c : Prop} [Decidable c] {a b : Int} (ha : 0 ≤ a ∧ a ≤ 255) (hb : 0 ≤ b ∧ b ≤ 255) : 0 ≤ (if c then a else b) ∧ (if c then a else b) ≤ 255 := by split <;> assumption
theorem aluP_in (op a m : Int) {p : Int} (hp : 0 ≤ p ∧ p ≤ 255) : 0 ≤ aluP op a m p ∧ aluP op a m p ≤ 255 := by
  unfold aluP
  repeat' (with_reducible refine ite255 ?_ ?_)
  all_goals with_reducible first | exact addP_in hp _ _ | exact sumP_in hp _ _ | exact subP_in hp _ _ | exact testP_in hp _ _ | exact setB_in (nzI_in hp _) isF1 _ | exact nzI_in hp _ | exact hp
theorem orI_in {a b : Int} (ha : 0 ≤ a ∧ a ≤ 255) (hb : 0 ≤ b ∧ b ≤ 255) : 0 ≤ orI a b ∧ orI a b ≤ 255 := by
  unfold orI
  have : a.toNat ||| b.toNat < 2 ^ 8 := Nat.or_lt_two_pow (by omega) (by omega)
  omega
theorem xorI_in {a b : Int} (ha : 0 ≤ a ∧ a ≤ 255) (hb : 0 ≤ b ∧ b ≤ 255) : 0 ≤ xorI a b ∧ xorI a b ≤ 255 := by
  unfold xorI
  have : a.toNat ^^^ b.toNat < 2 ^ 8 := Nat.xor_lt_two_pow (by omega) (by omega)
  omega
theorem andI_in {a b : Int} (ha : 0 ≤ a ∧ a ≤ 255) (hb : 0 ≤ b ∧ b ≤ 255) : 0 ≤ andI a b ∧ andI a b ≤ 255 := by
  have := andI_le a b hb.1
  omega
theorem andI_comm (a b : Int) : andI a b = andI b a := by unfold andI; rw [Nat.and_comm]
theorem aluR_in (op : Int) {a m p : Int} (ha : 0 ≤ a ∧ a ≤ 255) (hm : 0 ≤ m ∧ m ≤ 255) (hp : 0 ≤ p ∧ p ≤ 255) : 0 ≤ aluR op a m p ∧ aluR op a m p ≤ 255 := by
  have h1 := andI_le a m hm.1
  unfold aluR addR subR sumR
  repeat' (with_reducible refine ite255 ?_ ?_)
  all_goals first | exact orI_in ha hm | exact andI_in ha hm | exact xorI_in ha hm | omega

/-! ### The machine with its processor -/
theorem enterP_in {p : Int} (hp : 0 ≤ p ∧ p ≤ 255) : 0 ≤ enterP p ∧ enterP p ≤ 255 := orBit_byte (clrBit_byte (clrBit_byte hp isF8) isF32) isF4
structure Mc.Ok (c : Mc) : Prop where
  a : 0 ≤ c.a ∧ c.a ≤ 255
  x : 0 ≤ c.x ∧ c.x ≤ 255
  y : 0 ≤ c.y ∧ c.y ≤ 255
  s : 0 ≤ c.s ∧ c.s ≤ 255
  p : 0 ≤ c.p ∧ c.p ≤ 255
  pc : 0 ≤ c.pc ∧ c.pc ≤ 65535
  B : c.B.Ok
  V : c.B.V.Ok
  lag : c.B.lag = 0
theorem slowI_in (q : Int) : 0 ≤ slowI q ∧ slowI q ≤ 1 := by unfold slowI; split <;> omega
theorem Mc.Ok.get {c : Mc} (h : c.Ok) (a : Int) : 0 ≤ c.get a ∧ c.get a ≤ 255 := BusV.rd_in h.B h.V _
theorem VS.Ok.poked {V : VS} (h : V.Ok) (a x : Int) : (V.poke a x).Ok := h.poke a x
theorem BusV.go_vok {B : BusV} (h : B.V.Ok) (a : Int) : (B.go a).V.Ok := by
  unfold BusV.go BusV.goVdc BusV.goHeld
  repeat' split
  all_goals first | exact h | exact h.got true | exact h.got false
theorem BusV.bring_vok {B : BusV} (h : B.V.Ok) (e v : Int) : (B.bring e v).V.Ok := by
  unfold BusV.bring BusV.move
  repeat' split
  all_goals first | exact h | exact h.setWr _ | exact h.setRd _ | exact h.put false v | exact h.put true v | exact h.setSt _ | exact mv_ok h _ _ _ _ _
theorem BusV.wr_vok {B : BusV} (h : B.V.Ok) (a v : Int) : (B.wr a v).V.Ok := by
  unfold BusV.wr BusV.wr8 BusV.held
  repeat' split
  all_goals first | exact h | exact BusV.bring_vok (B := B.chosen _ _) h _ _
theorem Mc.Ok.gone {c : Mc} (h : c.Ok) (a : Int) : (c.gone a).Ok := ⟨h.a, h.x, h.y, h.s, h.p, h.pc, h.B.go _, BusV.go_vok h.V _, BusV.go_lag h.lag _⟩
theorem Mc.Ok.put {c : Mc} (h : c.Ok) (a v : Int) : (c.put a v).Ok := ⟨h.a, h.x, h.y, h.s, h.p, h.pc, h.B.wr _ _, BusV.wr_vok h.V _ _, BusV.wr_lag0 h.lag _ _⟩
theorem Mc.Ok.worded {c : Mc} (h : c.Ok) (a n : Int) : (c.worded a n).Ok := (h.gone a).gone n
theorem joinI_in (a b : Int) : 0 ≤ joinI a b ∧ joinI a b ≤ 65535 := by unfold joinI; omega
theorem Mc.Ok.push {c : Mc} (h : c.Ok) (v : Int) : (c.push v).Ok := { h.put (8448 + c.s) v with s := by show 0 ≤ (c.s - 1) % 256 ∧ (c.s - 1) % 256 ≤ 255; omega }
theorem Mc.Ok.pushW {c : Mc} (h : c.Ok) (w : Int) : (c.pushW w).Ok := (h.push _).push _
theorem Mc.Ok.up {c : Mc} (h : c.Ok) : c.up.Ok := { h with s := by show 0 ≤ (c.s + 1) % 256 ∧ (c.s + 1) % 256 ≤ 255; omega }
theorem Mc.Ok.pull {c : Mc} (h : c.Ok) : 0 ≤ c.pull ∧ c.pull ≤ 255 := h.up.get _
theorem Mc.Ok.pulled {c : Mc} (h : c.Ok) : c.pulled.Ok := h.up.gone _
theorem Mc.Ok.pulledW {c : Mc} (h : c.Ok) : c.pulledW.Ok := h.pulled.pulled
theorem Mc.Ok.setP {c : Mc} (h : c.Ok) {p : Int} (hp : 0 ≤ p ∧ p ≤ 255) : ({ c with p := p } : Mc).Ok := { h with p := hp }
theorem Mc.Ok.setA {c : Mc} (h : c.Ok) {p : Int} (hp : 0 ≤ p ∧ p ≤ 255) : ({ c with a := p } : Mc).Ok := { h with a := hp }
theorem Mc.Ok.setX {c : Mc} (h : c.Ok) {p : Int} (hp : 0 ≤ p ∧ p ≤ 255) : ({ c with x := p } : Mc).Ok := { h with x := hp }
theorem Mc.Ok.setY {c : Mc} (h : c.Ok) {p : Int} (hp : 0 ≤ p ∧ p ≤ 255) : ({ c with y := p } : Mc).Ok := { h with y := hp }
theorem Mc.Ok.setS {c : Mc} (h : c.Ok) {p : Int} (hp : 0 ≤ p ∧ p ≤ 255) : ({ c with s := p } : Mc).Ok := { h with s := hp }
theorem Mc.Ok.setPC {c : Mc} (h : c.Ok) {p : Int} (hp : 0 ≤ p ∧ p ≤ 65535) : ({ c with pc := p } : Mc).Ok := { h with pc := hp }
theorem Mc.Ok.setC {c : Mc} (h : c.Ok) (n : Int) : ({ c with cyc := n } : Mc).Ok := { h with }
theorem Mc.Ok.setF {c : Mc} (h : c.Ok) (b : Bool) : ({ c with fast := b } : Mc).Ok := { h with }
theorem Mc.Ok.setL {c : Mc} (h : c.Ok) (n : Int) : ({ c with last := n } : Mc).Ok := { h with }
theorem Mc.Ok.entered {c : Mc} (h : c.Ok) (p : Int) : (c.entered p).Ok := (h.push p).setP (enterP_in (h.push p).p)
theorem Mc.Ok.enter {c : Mc} (h : c.Ok) (p v : Int) : (c.enter p v).Ok := ((h.entered p).worded v (v + 1)).setPC (joinI_in _ _)
theorem Mc.Ok.ate {c : Mc} (h : c.Ok) (pc : Int) : ∀ n, (c.ate pc n).Ok
  | 0 => h
  | n + 1 => (h.ate pc n).gone _
theorem Mc.Ok.fl {c : Mc} (h : c.Ok) (op a m : Int) : (c.fl op a m).Ok := h.setP (aluP_in op a m h.p)
theorem Mc.Ok.mG {c : Mc} (h : c.Ok) (i : In) : (c.mG i).Ok := by unfold Mc.mG; split; exact h.gone _; exact h
def In.Ok (i : In) : Prop := 0 ≤ i.opd ∧ i.opd ≤ 65535 ∧ (i.has = false → i.mode ≠ 1 → i.opd ≤ 255)
theorem Mc.Ok.fed {c : Mc} (h : c.Ok) : c.fed.Ok := { h.ate c.pc c.lenAt with pc := by show 0 ≤ (c.pc + c.lenAt) % 65536 ∧ (c.pc + c.lenAt) % 65536 ≤ 65535; omega, p := clrBit_byte h.p isF32 }
theorem Mc.Ok.pointed {c : Mc} (h : c.Ok) (i : In) : (c.pointed i).Ok := by unfold Mc.pointed; split; exact h.worded _ _; exact h
theorem Mc.Ok.fetch {c : Mc} (h : c.Ok) : c.fetch.Ok := h.fed.pointed _
theorem Mc.Ok.back {c : Mc} (h : c.Ok) (i : In) {v : Int} (hv : 0 ≤ v ∧ v ≤ 255) : (c.back i v).Ok := by unfold Mc.back; split; exact h.put _ _; exact h.setA hv
theorem Mc.Ok.branch {c : Mc} (h : c.Ok) (m : Bool) (t : Int) : (c.branch m t).Ok := by
  unfold Mc.branch tgtI; split
  · exact (h.setPC (p := (c.pc + sgnI t) % 65536) (by omega)).setC _
  · exact h
theorem Mc.Ok.xfer {c : Mc} (h : c.Ok) (fs ts : Nat → Int) : ∀ n, (c.xfer fs ts n).Ok
  | 0 => h
  | n + 1 => (((h.xfer fs ts n).gone _).put _ _).setC _
end Go.Proofs.YtnllkgjmoipgbaaGreatDoor
-- LwE
namespace Go.Proofs.YtnllkgjmoipgbaaGreatDoor
open Go Go.RowKit
set_option linter.unusedSimpArgs false
set_option linter.unusedVariables false
set_option maxRecDepth 100000

/-- Where the law's machine lies, and the variable that holds it. -/
structure PicAt (w0 w : World) (l : BusL) (g : Nat) (B : BusV) : Prop where
  bus : BusAt w l B
  blk : Blk w g #[.pointer (some ⟨l.p, 0, none⟩)] 22
  ne : g ∉ l.own
  fr : l.From w0.heap.size
  below : Below w0.heap.size w0 w
theorem PicAt.to {w0 w w' : World} {l : BusL} {g : Nat} {B B' : BusV} (h : PicAt w0 w l g B) (hb : BusAt w' l B') (t : Tr l.own w w') : PicAt w0 w' l g B' :=
  ⟨hb, Blk.tr h.blk t h.ne, h.ne, h.fr, h.fr.below h.below t⟩
theorem PicAt.drewN {w0 w : World} {l : BusL} {g : Nat} {B : BusV} (h : PicAt w0 w l g B) (n : Nat) : PicAt w0 (w.drewN n) l g B := h.to (h.bus.drewN n) ((Tr.refl _ _).drewN n)
theorem PicAt.c {w0 w : World} {l : BusL} {g : Nat} {B : BusV} (h : PicAt w0 w l g B) : w.cell? ⟨g, 0, none⟩ = some (.pointer (some ⟨l.p, 0, none⟩)) := (Blk.cell h.blk 0).trans rfl
set_option maxHeartbeats 1000000 in
theorem picture_reg {w0 w : World} {l : BusL} {g : Nat} {B : BusV} (h : PicAt w0 w l g B) (h0 : B.lag = 0) (k v : Int) : Calls Tryz.prog 27 #[.int .i64 k, .int .i64 v, .pointer (some ⟨g, 0, none⟩)] w fun e w' => e = .returned (.tuple #[]) ∧ PicAt w0 w' l g (B.reg k v) := by
  have c := h.c
  have HP := Lib.hid h
  have L0 := Lib.hid h0
  clear h h0
  go_enter Tryz.func27, Tryz.ntmps27
  go_wp2_with fail
  refine (bus_Write HP.out.bus (by rw [L0.out]; decide) 2088960 k).mono ?_; rintro e w2 ⟨rfl, h2, t2⟩
  have P2 := Lib.hid (HP.out.to h2 t2)
  have L2 := Lib.hid (BusV.wr_lag0 L0.out 2088960 k)
  clear h2 t2 c
  have c := P2.out.c
  go_wp2_with fail
  refine (bus_Write P2.out.bus (by rw [L2.out]; decide) 2088962 v).mono ?_; rintro e w3 ⟨rfl, h2, t2⟩
  have P3 := Lib.hid (P2.out.to h2 t2)
  have L3 := Lib.hid (BusV.wr_lag0 L2.out 2088962 v)
  clear h2 t2 c
  have c := P3.out.c
  go_wp2_with fail
  refine (bus_Write P3.out.bus (by rw [L3.out]; decide) 2088963 _).mono ?_; rintro e w4 ⟨rfl, h2, t2⟩
  have P4 := Lib.hid (P3.out.to h2 t2)
  clear h2 t2 c
  go_wp2_with fail
  exact ⟨rfl, .tuple #[], by first | exact rfl | (unfold results; rfl) | kernel_rfl, rfl, P4.out⟩
theorem made_pic : PicV (BusV.made 1 []) 0 0 VS.new := ⟨(BusV.fresh_ok (.inl rfl) (romL_length _ _) (romL_in _ _ (by intro x hx; cases hx))), rfl, rfl, by show nth 0 (zeros 20) 5 = 0; exact nth_zeros 20 5, rfl⟩
set_option maxHeartbeats 8000000 in
theorem busPicture_walk (at' far : Int) (ad : Option Addr) (cp : Nat) (xs : List Int) (w : World) (hm : xs.length ≤ maxLen) (S : SlAt (Value.int .i64) 0 w ad xs) : Calls Tryz.prog 6 #[.int .i64 at', .slice ad xs.length cp, .int .i64 far] w fun e w' => e = .returned (.bool true) ∧ Below w.heap.size w w' := by
  unfold maxLen at hm
  obtain ⟨a, ha⟩ : ∃ a : Int, at' % 16384 = a := ⟨_, rfl⟩
  obtain ⟨f, hf⟩ : ∃ f : Int, far % 4 = f := ⟨_, rfl⟩
  have x1 : 0 ≤ a := by omega
  have x2 : a ≤ 16383 := by omega
  have y1 : 0 ≤ f := by omega
  have y2 : f ≤ 3 := by omega
  obtain ⟨st, hst⟩ : ∃ st : Int, stepN f = st := ⟨_, rfl⟩
  have hst2 : 1 ≤ st ∧ st ≤ 128 := by rw [← hst]; unfold stepN; repeat' split <;> omega
  have hidx : ∀ w : World, (Instr.index 68 (.agg #[.int .i64 1, .int .i64 32, .int .i64 64, .int .i64 128]) (.int .i64 f)).run Tryz.prog w = .ok (.int .i64 st) w := fun w => by
    rw [← hst]
    rcases (show f = 0 ∨ f = 1 ∨ f = 2 ∨ f = 3 by omega) with rfl | rfl | rfl | rfl <;> rfl
  have hmf : ∀ (fn : Fn) (first cap : Array Value) (w : World), (Instr.makeFunc fn first cap).run Tryz.prog w = .ok (.func fn first cap) w := fun _ _ _ _ => rfl
  have HM := Lib.hid (fun w => law24_machine 1 (.inl rfl) w)
  have HS := Lib.hid S
  have HST := Lib.hid hst
  have HS2 := Lib.hid hst2
  clear S hst hst2
  go_enter Tryz.func6, Tryz.ntmps6
  go_wp2_with fail
  refine (HM.out _).mono ?_; rintro e w1 ⟨l, rfl, h2, b2, hF⟩
  have P1 : Hid (PicAt w (w1.alloc (.cells #[.pointer (some ⟨l.p, 0, none⟩)] 22)) l w1.heap.size (BusV.made 1 [])) := Lib.hid ⟨h2.below (bal (Below.refl _ _)), Blk.new _ _ _, by
    have := h2.lt
    unfold BusL.own; simp only [List.mem_cons, List.not_mem_nil, or_false, not_or]; omega, hF, b2.trans ((bal (Below.refl _ _)).mono b2.size)⟩
  clear h2 b2 hF
  go_wp2_with fail
  obtain ⟨g, hg⟩ : ∃ g, w1.heap.size = g := ⟨_, rfl⟩
  rw [hg] at P1 ⊢
  clear hg
  obtain ⟨B2, hB2⟩ : ∃ B2, (BusV.made 1 []).reg 5 (f * 2048) = B2 := ⟨_, rfl⟩
  have q2 := pic_reg5 made_pic f ⟨y1, y2⟩
  rw [hB2, HST.out] at q2
  refine (picture_reg P1.out rfl 5 (f * 2048)).mono ?_; rintro e w2 ⟨rfl, h2⟩
  rw [hB2] at h2
  have P2 := Lib.hid h2
  have Q2 := Lib.hid q2
  clear h2 q2 hB2
  go_wp2_with fail
  obtain ⟨B3, hB3⟩ : ∃ B3, B2.reg 0 a = B3 := ⟨_, rfl⟩
  have q3 := pic_reg0 Q2.out a ⟨x1, by omega⟩
  rw [hB3] at q3
  refine (picture_reg P2.out Q2.out.lag 0 a).mono ?_; rintro e w3 ⟨rfl, h2⟩
  rw [hB3] at h2
  have P3 := Lib.hid h2
  have Q3 := Lib.hid q3
  have W3 := Lib.hid (wrote_begin a ⟨x1, x2⟩ st HS2.out xs)
  clear h2 q3 hB3 Q2 P2 P1
  go_wp2_with fail
  all_goals have n1 : 0 ≤ a := x1
  · have n2 : 40 ≤ xs.length := by omega
    have n3 : 40 ≤ 40 := by omega
    go_loopw [10] (fun i wr => ∃ (k : Nat) (B : BusV) (s : Int) (V : VS), k ≤ 40 ∧ i = .int .i64 k ∧ PicAt w wr l g B ∧ PicV B s (f * 2048) V ∧ WroteV V a st xs k) (fun i _ => 40 - (intOf i).toNat)
    case atStart => exact ⟨0, B3, 0, _, Nat.zero_le _, rfl, P3.out, Q3.out, W3.out⟩
    case round =>
      obtain ⟨k, B, s, V, hk, rfl, hp, hv, hw⟩ := hrel
      by_cases hlt : k < 40
      · have z1 : k < xs.length := by omega
        obtain ⟨ad', ea, ca⟩ := (HS.out.below hp.below).atN k z1
        subst ea
        have d1 : decide ((k : Int) < (40 : Int)) = true := by simp; omega
        have z2 : (k : Int) < (xs.length : Int) := by omega
        obtain ⟨B4, hB4⟩ : ∃ B4, B.reg 2 (nth 0 xs k) = B4 := ⟨_, rfl⟩
        have q4 := pic_reg2 hv (nth 0 xs k)
        rw [hB4] at q4
        have HC := Lib.hid (picture_reg hp hv.lag 2 (nth 0 xs k))
        have Q4 := Lib.hid q4
        have HB4 := Lib.hid hB4
        have W4 := Lib.hid (wrote_put hw ⟨x1, x2⟩ HS2.out (by omega))
        clear hp hv hw q4 hB4
        go_wp2_with fail
        refine HC.out.mono ?_; rintro e w5 ⟨rfl, h2⟩
        rw [HB4.out] at h2
        have P5 := Lib.hid h2
        clear h2 ca
        go_wp2
        go_roundw
        case rel => exact ⟨k + 1, B4, 2, _, by omega, by go_num, P5.out, Q4.out, W4.out⟩
        case measure => simp [intOf]; omega
      · obtain rfl : k = 40 := by omega
        have d1 : decide ((40 : Int) < (40 : Int)) = false := by simp
        obtain ⟨B4, hB4⟩ : ∃ B4, B.reg 1 a = B4 := ⟨_, rfl⟩
        have q4 := pic_reg1 hv a ⟨x1, by omega⟩
        rw [hB4] at q4
        have HC := Lib.hid (picture_reg hp hv.lag 1 a)
        have HB4 := Lib.hid hB4
        have R4 := Lib.hid (read_begin hw ⟨x1, x2⟩)
        have q5 := pic_sel q4 2 (by decide)
        obtain ⟨B5, hB5⟩ : ∃ B5, B4.wr 2088960 2 = B5 := ⟨_, rfl⟩
        rw [hB5] at q5
        have Q4 := Lib.hid q4.lag
        have Q5 := Lib.hid q5
        have HB5 := Lib.hid hB5
        have HW := Lib.hid hw
        clear hp hv hw q4 hB4 q5 hB5 hlt
        go_wp2_with fail
        refine HC.out.mono ?_; rintro e w5 ⟨rfl, h2⟩
        rw [HB4.out] at h2
        have P5 := Lib.hid h2
        have c5 := h2.c
        clear h2
        go_wp2_with fail
        refine (bus_Write P5.out.bus (by rw [Q4.out]; decide) 2088960 2).mono ?_; rintro e w6 ⟨rfl, h2, t2⟩
        rw [HB5.out] at h2
        have P6 := Lib.hid (P5.out.to h2 t2)
        clear h2 t2 c5
        go_wp2_with fail
        go_loopw [12, 13] (fun i _ wr => ∃ (j : Nat) (B : BusV) (V' : VS), j ≤ 40 ∧ i = .int .i64 j ∧ PicAt w wr l g B ∧ PicV B 2 (f * 2048) V' ∧ ReadV V' V a st j) (fun i _ _ => 40 - (intOf i).toNat)
        case atStart => exact ⟨0, B5, _, Nat.zero_le _, rfl, P6.out, Q5.out, R4.out⟩
        case round =>
          obtain ⟨j, B, V', hj, rfl, hp, hv, hr⟩ := hrel
          by_cases hlt : j < 40
          · have z1 : j < xs.length := by omega
            have d1 : decide ((j : Int) < (40 : Int)) = true := by simp; omega
            obtain ⟨ad', ea, ca⟩ := (HS.out.below hp.below).atN j z1
            subst ea
            obtain ⟨x, hx⟩ : ∃ x, x = nth 0 xs j := ⟨_, rfl⟩
            have hkst := mul_in_st (k := j) HS2.out (by omega)
            have g1 := hkst.1
            have g2 := hkst.2
            have hwd := HW.out.word j hlt
            have hbu := hr.bu
            rw [hwd] at hbu
            rw [← hx] at hwd hbu ca
            have HX0 := Lib.hid hx
            have HC : Hid (∀ nq, Calls Tryz.prog 28 #[.pointer (some ⟨l.vp, 0, none⟩), .int .i64 (a + (j : Int) * st)] (wr.drewN nq) fun e w' => e = .returned (.int .i64 (x % 65536)) ∧ wr.drewN nq = w') := Lib.hid (fun nq => by
              have := vram_Word (hp.bus.v.drewN nq) (a + (j : Int) * st)
              rw [hv.V, hr.same, hwd] at this; exact this)
            obtain ⟨r2, v2⟩ := pic_read2 hv
            obtain ⟨B6, hB6⟩ : ∃ B6, B.go 2088962 = B6 := ⟨_, rfl⟩
            rw [hB6] at v2
            obtain ⟨r3, v3⟩ := pic_read3 v2
            obtain ⟨B7, hB7⟩ : ∃ B7, B6.go 2088963 = B7 := ⟨_, rfl⟩
            rw [hB7] at v3
            rw [hbu] at r2 r3
            have R8 := Lib.hid (read_next hr ⟨x1, x2⟩ HS2.out (by omega))
            have HP := Lib.hid hp
            have HL := Lib.hid hv.lag
            have HL2 := Lib.hid v2.lag
            have V8 := Lib.hid v3
            have RD2 := Lib.hid r2
            have RD3 := Lib.hid r3
            have HB6 := Lib.hid hB6
            have HB7 := Lib.hid hB7
            have c5 := hp.c
            have c6 := hp.bus.vram
            have e1 : IntKind.i64.wrap ((j : Int) * st) = (j : Int) * st := IntWalk.i64_in _ (by omega)
            have e2 : IntKind.i64.wrap (a + (j : Int) * st) = a + (j : Int) * st := IntWalk.i64_in _ (by omega)
            have z2 : (j : Int) < (xs.length : Int) := by omega
            have s1 : x % 65536 % 256 = x % 256 := by omega
            have S2 := Lib.hid (show x % 65536 / 256 = x / 256 % 256 by omega)
            clear hx hwd hbu hp hv hr v2 v3 r2 r3 hB6 hB7 hkst
            go_wp2_with fail
            go_quiet ((go_at_call 28; exact quiet_same (HC.out _)))
            clear e1 e2 HC
            have PN := Lib.hid (HP.out.drewN nq)
            clear HP ca c5 c6
            revert PN
            generalize wr.drewN nq = wn
            intro PN
            have c5 := PN.out.c
            go_wp2_with fail
            refine (bus_Read PN.out.bus (by rw [HL.out]; decide) 2088962).mono ?_; rintro e w7 ⟨rfl, h2, t2⟩
            rw [RD2.out]
            rw [HB6.out] at h2
            have P7 := Lib.hid (PN.out.to h2 t2)
            clear h2 t2 c5 PN
            obtain ⟨D, hD⟩ : ∃ D : Nat → World → Prop, D = fun m w' => (m = 0 → PicAt w w' l g B6) ∧ (m = 1 → PicAt w w' l g B7) ∧ w'.cell? (ad'.add j) = some (.int .i64 x) ∧ w'.cell? ⟨g, 0, none⟩ = some (.pointer (some ⟨l.p, 0, none⟩)) := ⟨_, rfl⟩
            have HD := Lib.hid hD
            have HX : Hid (∀ w', Below w.heap.size w w' → w'.cell? (ad'.add j) = some (.int .i64 x)) := Lib.hid (fun w' hb => by
              obtain ⟨ad2, e2, c2⟩ := (HS.out.below hb).atN j z1
              obtain rfl := Option.some.inj e2
              rw [HX0.out]; exact c2)
            have HD0 := Lib.hid (show D 0 w7.drew by rw [hD]; exact ⟨fun _ => P7.out.drewN 1, (fun h => absurd h (by decide)), HX.out _ (P7.out.drewN 1).below, (P7.out.drewN 1).c⟩)
            have HD1 := Lib.hid (show ∀ w', D 1 w' → PicAt w w' l g B7 from fun w' h => by rw [hD] at h; exact h.2.1 rfl)
            have HG := Lib.hid (show ∀ m w', D m w' → w'.cell? (ad'.add j) = some (.int .i64 x) ∧ w'.cell? ⟨g, 0, none⟩ = some (.pointer (some ⟨l.p, 0, none⟩)) from fun m w' h => by rw [hD] at h; exact h.2.2)
            have hne : (x % 256 != x % 256) = false := by simp
            clear hD
            go_wp2_with fail
            refine wp_region_n [9] D (by kernel_rfl) (by kernel_rfl) (by kernel_rfl) (by decide) HD0.out ?_
            iterate 9
              (refine wpN_other rfl (by decide) (fun K hK => ?_)
               apply Exists.intro
               refine ⟨fun m wq hm hq => ?_, hK _ ?_⟩
               · have hz := Lib.hid hq
                 obtain ⟨g0, g1⟩ := HG.out m wq hq
                 clear hq
                 go_simp
                 first | exact rfl | exact ⟨hq, rfl⟩ | exact ⟨rfl, rfl⟩ | exact hz.out | exact ⟨hz.out, rfl⟩
               clear hK K
               simp only [Act.put, List.setIfInBounds_toArray, List.set_cons_zero, List.set_cons_succ])
            refine wpN_turn 0 rfl (by decide) rfl (by kernel_rfl) ?_
            apply Exists.intro
            refine ⟨fun wq hq => ?_, ?_⟩
            · rw [HD.out] at hq
              have hp := hq.1 rfl
              clear hq
              go_simp
              exact (bus_Read hp.bus (by rw [HL2.out]; decide) 2088963).mono fun e w'' hh => ⟨show e = .returned (.int .i64 (x / 256 % 256)) from by rw [hh.1, RD3.out, S2.out], by rw [HD.out]; have h3 := hh.2.1; rw [HB7.out] at h3; have h4 := hp.to h3 hh.2.2; exact ⟨(fun h => absurd h (by decide)), fun _ => h4, HX.out _ h4.below, h4.c⟩⟩
            simp only [Act.put, List.setIfInBounds_toArray, List.set_cons_zero, List.set_cons_succ]
            iterate 8
              (refine wpN_other rfl (by decide) (fun K hK => ?_)
               apply Exists.intro
               refine ⟨fun m wq hm hq => ?_, hK _ ?_⟩
               · have hz := Lib.hid hq
                 obtain ⟨g0, g1⟩ := HG.out m wq hq
                 clear hq
                 go_simp
                 first | exact rfl | exact ⟨hq, rfl⟩ | exact ⟨rfl, rfl⟩ | exact hz.out | exact ⟨hz.out, rfl⟩
               clear hK K
               simp only [Act.put, List.setIfInBounds_toArray, List.set_cons_zero, List.set_cons_succ])
            intro w8 hw8
            have P8 := Lib.hid (HD1.out w8 hw8)
            clear hw8
            go_wp2
            go_roundw
            case rel => exact ⟨j + 1, B7, _, by omega, by go_num, P8.out, V8.out, R8.out⟩
            case measure => simp [intOf]; omega
          · obtain rfl : j = 40 := by omega
            have d1 : decide ((40 : Int) < (40 : Int)) = false := by simp
            have c5 := hp.c
            have r1 := (RegsV.reads hp.bus.regs hp.bus.ok.regs.len).1
            have r2 := hp.bus.reg 5 (by decide) (o := 6) rfl
            rw [hv.sel] at r1
            rw [hv.r5] at r2
            have HPB := Lib.hid hp.below
            clear hp hv hr
            go_wp2
            go_ret
            exact ⟨rfl, HPB.out⟩
  · have n2 : xs.length ≤ xs.length := by omega
    have n3 : xs.length ≤ 40 := by omega
    go_loopw [10] (fun i wr => ∃ (k : Nat) (B : BusV) (s : Int) (V : VS), k ≤ xs.length ∧ i = .int .i64 k ∧ PicAt w wr l g B ∧ PicV B s (f * 2048) V ∧ WroteV V a st xs k) (fun i _ => xs.length - (intOf i).toNat)
    case atStart => exact ⟨0, B3, 0, _, Nat.zero_le _, rfl, P3.out, Q3.out, W3.out⟩
    case round =>
      obtain ⟨k, B, s, V, hk, rfl, hp, hv, hw⟩ := hrel
      by_cases hlt : k < xs.length
      · have z1 : k < xs.length := by omega
        obtain ⟨ad', ea, ca⟩ := (HS.out.below hp.below).atN k z1
        subst ea
        have d1 : decide ((k : Int) < (xs.length : Int)) = true := by simp; omega
        have z2 : (k : Int) < (xs.length : Int) := by omega
        obtain ⟨B4, hB4⟩ : ∃ B4, B.reg 2 (nth 0 xs k) = B4 := ⟨_, rfl⟩
        have q4 := pic_reg2 hv (nth 0 xs k)
        rw [hB4] at q4
        have HC := Lib.hid (picture_reg hp hv.lag 2 (nth 0 xs k))
        have Q4 := Lib.hid q4
        have HB4 := Lib.hid hB4
        have W4 := Lib.hid (wrote_put hw ⟨x1, x2⟩ HS2.out (by omega))
        clear hp hv hw q4 hB4
        go_wp2_with fail
        refine HC.out.mono ?_; rintro e w5 ⟨rfl, h2⟩
        rw [HB4.out] at h2
        have P5 := Lib.hid h2
        clear h2 ca
        go_wp2
        go_roundw
        case rel => exact ⟨k + 1, B4, 2, _, by omega, by go_num, P5.out, Q4.out, W4.out⟩
        case measure => simp [intOf]; omega
      · obtain rfl : k = xs.length := by omega
        have d1 : decide ((xs.length : Int) < (xs.length : Int)) = false := by simp
        obtain ⟨B4, hB4⟩ : ∃ B4, B.reg 1 a = B4 := ⟨_, rfl⟩
        have q4 := pic_reg1 hv a ⟨x1, by omega⟩
        rw [hB4] at q4
        have HC := Lib.hid (picture_reg hp hv.lag 1 a)
        have HB4 := Lib.hid hB4
        have R4 := Lib.hid (read_begin hw ⟨x1, x2⟩)
        have q5 := pic_sel q4 2 (by decide)
        obtain ⟨B5, hB5⟩ : ∃ B5, B4.wr 2088960 2 = B5 := ⟨_, rfl⟩
        rw [hB5] at q5
        have Q4 := Lib.hid q4.lag
        have Q5 := Lib.hid q5
        have HB5 := Lib.hid hB5
        have HW := Lib.hid hw
        clear hp hv hw q4 hB4 q5 hB5 hlt
        go_wp2_with fail
        refine HC.out.mono ?_; rintro e w5 ⟨rfl, h2⟩
        rw [HB4.out] at h2
        have P5 := Lib.hid h2
        have c5 := h2.c
        clear h2
        go_wp2_with fail
        refine (bus_Write P5.out.bus (by rw [Q4.out]; decide) 2088960 2).mono ?_; rintro e w6 ⟨rfl, h2, t2⟩
        rw [HB5.out] at h2
        have P6 := Lib.hid (P5.out.to h2 t2)
        clear h2 t2 c5
        go_wp2_with fail
        go_loopw [12, 13] (fun i _ wr => ∃ (j : Nat) (B : BusV) (V' : VS), j ≤ xs.length ∧ i = .int .i64 j ∧ PicAt w wr l g B ∧ PicV B 2 (f * 2048) V' ∧ ReadV V' V a st j) (fun i _ _ => xs.length - (intOf i).toNat)
        case atStart => exact ⟨0, B5, _, Nat.zero_le _, rfl, P6.out, Q5.out, R4.out⟩
        case round =>
          obtain ⟨j, B, V', hj, rfl, hp, hv, hr⟩ := hrel
          by_cases hlt : j < xs.length
          · have z1 : j < xs.length := by omega
            have d1 : decide ((j : Int) < (xs.length : Int)) = true := by simp; omega
            obtain ⟨ad', ea, ca⟩ := (HS.out.below hp.below).atN j z1
            subst ea
            obtain ⟨x, hx⟩ : ∃ x, x = nth 0 xs j := ⟨_, rfl⟩
            have hkst := mul_in_st (k := j) HS2.out (by omega)
            have g1 := hkst.1
            have g2 := hkst.2
            have hwd := HW.out.word j hlt
            have hbu := hr.bu
            rw [hwd] at hbu
            rw [← hx] at hwd hbu ca
            have HX0 := Lib.hid hx
            have HC : Hid (∀ nq, Calls Tryz.prog 28 #[.pointer (some ⟨l.vp, 0, none⟩), .int .i64 (a + (j : Int) * st)] (wr.drewN nq) fun e w' => e = .returned (.int .i64 (x % 65536)) ∧ wr.drewN nq = w') := Lib.hid (fun nq => by
              have := vram_Word (hp.bus.v.drewN nq) (a + (j : Int) * st)
              rw [hv.V, hr.same, hwd] at this; exact this)
            obtain ⟨r2, v2⟩ := pic_read2 hv
            obtain ⟨B6, hB6⟩ : ∃ B6, B.go 2088962 = B6 := ⟨_, rfl⟩
            rw [hB6] at v2
            obtain ⟨r3, v3⟩ := pic_read3 v2
            obtain ⟨B7, hB7⟩ : ∃ B7, B6.go 2088963 = B7 := ⟨_, rfl⟩
            rw [hB7] at v3
            rw [hbu] at r2 r3
            have R8 := Lib.hid (read_next hr ⟨x1, x2⟩ HS2.out (by omega))
            have HP := Lib.hid hp
            have HL := Lib.hid hv.lag
            have HL2 := Lib.hid v2.lag
            have V8 := Lib.hid v3
            have RD2 := Lib.hid r2
            have RD3 := Lib.hid r3
            have HB6 := Lib.hid hB6
            have HB7 := Lib.hid hB7
            have c5 := hp.c
            have c6 := hp.bus.vram
            have e1 : IntKind.i64.wrap ((j : Int) * st) = (j : Int) * st := IntWalk.i64_in _ (by omega)
            have e2 : IntKind.i64.wrap (a + (j : Int) * st) = a + (j : Int) * st := IntWalk.i64_in _ (by omega)
            have z2 : (j : Int) < (xs.length : Int) := by omega
            have s1 : x % 65536 % 256 = x % 256 := by omega
            have S2 := Lib.hid (show x % 65536 / 256 = x / 256 % 256 by omega)
            clear hx hwd hbu hp hv hr v2 v3 r2 r3 hB6 hB7 hkst
            go_wp2_with fail
            go_quiet ((go_at_call 28; exact quiet_same (HC.out _)))
            clear e1 e2 HC
            have PN := Lib.hid (HP.out.drewN nq)
            clear HP ca c5 c6
            revert PN
            generalize wr.drewN nq = wn
            intro PN
            have c5 := PN.out.c
            go_wp2_with fail
            refine (bus_Read PN.out.bus (by rw [HL.out]; decide) 2088962).mono ?_; rintro e w7 ⟨rfl, h2, t2⟩
            rw [RD2.out]
            rw [HB6.out] at h2
            have P7 := Lib.hid (PN.out.to h2 t2)
            clear h2 t2 c5 PN
            obtain ⟨D, hD⟩ : ∃ D : Nat → World → Prop, D = fun m w' => (m = 0 → PicAt w w' l g B6) ∧ (m = 1 → PicAt w w' l g B7) ∧ w'.cell? (ad'.add j) = some (.int .i64 x) ∧ w'.cell? ⟨g, 0, none⟩ = some (.pointer (some ⟨l.p, 0, none⟩)) := ⟨_, rfl⟩
            have HD := Lib.hid hD
            have HX : Hid (∀ w', Below w.heap.size w w' → w'.cell? (ad'.add j) = some (.int .i64 x)) := Lib.hid (fun w' hb => by
              obtain ⟨ad2, e2, c2⟩ := (HS.out.below hb).atN j z1
              obtain rfl := Option.some.inj e2
              rw [HX0.out]; exact c2)
            have HD0 := Lib.hid (show D 0 w7.drew by rw [hD]; exact ⟨fun _ => P7.out.drewN 1, (fun h => absurd h (by decide)), HX.out _ (P7.out.drewN 1).below, (P7.out.drewN 1).c⟩)
            have HD1 := Lib.hid (show ∀ w', D 1 w' → PicAt w w' l g B7 from fun w' h => by rw [hD] at h; exact h.2.1 rfl)
            have HG := Lib.hid (show ∀ m w', D m w' → w'.cell? (ad'.add j) = some (.int .i64 x) ∧ w'.cell? ⟨g, 0, none⟩ = some (.pointer (some ⟨l.p, 0, none⟩)) from fun m w' h => by rw [hD] at h; exact h.2.2)
            have hne : (x % 256 != x % 256) = false := by simp
            clear hD
            go_wp2_with fail
            refine wp_region_n [9] D (by kernel_rfl) (by kernel_rfl) (by kernel_rfl) (by decide) HD0.out ?_
            iterate 9
              (refine wpN_other rfl (by decide) (fun K hK => ?_)
               apply Exists.intro
               refine ⟨fun m wq hm hq => ?_, hK _ ?_⟩
               · have hz := Lib.hid hq
                 obtain ⟨g0, g1⟩ := HG.out m wq hq
                 clear hq
                 go_simp
                 first | exact rfl | exact ⟨hq, rfl⟩ | exact ⟨rfl, rfl⟩ | exact hz.out | exact ⟨hz.out, rfl⟩
               clear hK K
               simp only [Act.put, List.setIfInBounds_toArray, List.set_cons_zero, List.set_cons_succ])
            refine wpN_turn 0 rfl (by decide) rfl (by kernel_rfl) ?_
            apply Exists.intro
            refine ⟨fun wq hq => ?_, ?_⟩
            · rw [HD.out] at hq
              have hp := hq.1 rfl
              clear hq
              go_simp
              exact (bus_Read hp.bus (by rw [HL2.out]; decide) 2088963).mono fun e w'' hh => ⟨show e = .returned (.int .i64 (x / 256 % 256)) from by rw [hh.1, RD3.out, S2.out], by rw [HD.out]; have h3 := hh.2.1; rw [HB7.out] at h3; have h4 := hp.to h3 hh.2.2; exact ⟨(fun h => absurd h (by decide)), fun _ => h4, HX.out _ h4.below, h4.c⟩⟩
            simp only [Act.put, List.setIfInBounds_toArray, List.set_cons_zero, List.set_cons_succ]
            iterate 8
              (refine wpN_other rfl (by decide) (fun K hK => ?_)
               apply Exists.intro
               refine ⟨fun m wq hm hq => ?_, hK _ ?_⟩
               · have hz := Lib.hid hq
                 obtain ⟨g0, g1⟩ := HG.out m wq hq
                 clear hq
                 go_simp
                 first | exact rfl | exact ⟨hq, rfl⟩ | exact ⟨rfl, rfl⟩ | exact hz.out | exact ⟨hz.out, rfl⟩
               clear hK K
               simp only [Act.put, List.setIfInBounds_toArray, List.set_cons_zero, List.set_cons_succ])
            intro w8 hw8
            have P8 := Lib.hid (HD1.out w8 hw8)
            clear hw8
            go_wp2
            go_roundw
            case rel => exact ⟨j + 1, B7, _, by omega, by go_num, P8.out, V8.out, R8.out⟩
            case measure => simp [intOf]; omega
          · obtain rfl : j = xs.length := by omega
            have d1 : decide ((xs.length : Int) < (xs.length : Int)) = false := by simp
            have c5 := hp.c
            have r1 := (RegsV.reads hp.bus.regs hp.bus.ok.regs.len).1
            have r2 := hp.bus.reg 5 (by decide) (o := 6) rfl
            rw [hv.sel] at r1
            rw [hv.r5] at r2
            have HPB := Lib.hid hp.below
            clear hp hv hr
            go_wp2
            go_ret
            exact ⟨rfl, HPB.out⟩
end Go.Proofs.YtnllkgjmoipgbaaGreatDoor
-- LawLwE
namespace Go.Proofs.YtnllkgjmoipgbaaGreatDoor
open Go Go.RowKit Go.ChangeShapes Go.WideShapes
set_option linter.unusedVariables false
set_option maxRecDepth 100000
variable {H : Type} {enc : TypeId × Value → H}
theorem law_BusPicture (W : World) (base : Nat) {v0 v1 v2 : Value} {d0 d1 d2 : DataW H} {p0 p1 p2 : List MemPlace}
    (hv0 : Value.okWide Tryz.prog W .any base 3 v0) (h0 : DataW.Trod enc Tryz.prog W 0 (fun _ => true) true 3 v0 d0 p0)
    (hv1 : Value.okWide Tryz.prog W .any base 66 v1) (h1 : DataW.Trod enc Tryz.prog W 0 (fun _ => true) true 66 v1 d1 p1)
    (hv2 : Value.okWide Tryz.prog W .any base 3 v2) (h2 : DataW.Trod enc Tryz.prog W 0 (fun _ => true) true 3 v2 d2 p2)
    {ts : List TypeId} {ds : List (DataW H)} (hsz : (DataW.weightsEach Tryz.prog ts ds).all (· ≤ reachBytes) = true) (e0 : ts[0]? = some 3) (f0 : ds[0]? = some d0) (e1 : ts[1]? = some 66) (f1 : ds[1]? = some d1) (e2 : ts[2]? = some 3) (f2 : ds[2]? = some d2) :
    Calls Tryz.prog 6 #[v0, v1, v2] W fun e W' => e = .returned (.bool true) ∧ Below W.heap.size W W' := by
  obtain ⟨x0, rfl, _, _, z0⟩ := open_int Tryz.underlying3 hv0 h0
  obtain ⟨a, c, xs, rfl, hc, hm, S, _, _⟩ := open_sl_ints (P := Tryz.prog) Tryz.underlying66 Tryz.underlying3 (by kernel_rfl) hv1 h1
  obtain ⟨x2, rfl, _, _, z2⟩ := open_int Tryz.underlying3 hv2 h2
  exact busPicture_walk x0 x2 a c xs W (Nat.le_trans hc hm) S
end Go.Proofs.YtnllkgjmoipgbaaGreatDoor
-- Start
namespace Go.Proofs.YtnllkgjmoipgbaaGreatDoor
open Go Go.RowKit
set_option maxRecDepth 100000
theorem start_words : ∃ r, behindMainWord (wordsSigns Tryz.prog.initOrder.toList) = "cut".toList :: r := by
  rw [show Tryz.prog.initOrder = String.ofList _ from rfl, String.toList_ofList]
  exact ⟨_, rfl⟩
theorem start_laysLater : Tryz.prog.laysLater = false := by kernel_rfl
theorem start_bearsReflect : Tryz.prog.bearsReflect = false := by kernel_rfl
theorem start_doorFits : Tryz.prog.doorFits [] = true := by kernel_rfl

section
variable (P : Program) (r : List (List Char)) (h : behindMainWord (wordsSigns P.initOrder.toList) = "cut".toList :: r)
theorem start_strip : stripLifts liftWords ("cut".toList :: r) = ([], "cut".toList :: r) := by kernel_rfl
include h
theorem liftsFinal_of : P.liftsFinal = false := by
  unfold Program.liftsFinal Program.headLifts
  rw [h]
  kernel_rfl
theorem mayEnter_of (h1 : P.laysLater = false) (h2 : P.bearsReflect = false) (h3 : P.doorFits [] = true) : P.mayEnter = true := by
  unfold Program.mayEnter
  rw [h]
  simp only [start_strip, h1, h2, h3]
  kernel_rfl
theorem make_of : P.make = some .cut := by
  unfold Program.make
  rw [h]
  kernel_rfl
end
theorem start_liftsFinal : Tryz.prog.liftsFinal = false := let ⟨r, h⟩ := start_words; liftsFinal_of _ r h
theorem start_mayEnter : Tryz.prog.mayEnter = true := let ⟨r, h⟩ := start_words; mayEnter_of _ r h start_laysLater start_bearsReflect start_doorFits
theorem start_make : Tryz.prog.make = some .cut := let ⟨r, h⟩ := start_words; make_of _ r h
end Go.Proofs.YtnllkgjmoipgbaaGreatDoor
-- StartC
namespace Go.Proofs.YtnllkgjmoipgbaaGreatDoor
open Go Go.RowKit
set_option maxRecDepth 100000
theorem start_mainIs : Tryz.prog.mainIs = some (true, "bd220f6371e34b9b9e24540febcd677c8de7384c4fae0106b73b2fe369ca2ce1".toList) := by
  unfold Program.mainIs
  rw [show Tryz.prog.initOrder = String.ofList _ from rfl, String.toList_ofList]
  kernel_rfl
theorem start_looks : Tryz.prog.looks [] = true := by kernel_rfl
end Go.Proofs.YtnllkgjmoipgbaaGreatDoor
