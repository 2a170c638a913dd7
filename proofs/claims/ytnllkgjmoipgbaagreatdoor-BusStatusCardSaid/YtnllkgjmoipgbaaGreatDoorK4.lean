/- Contracts of the program's functions, and what they rest on, part 4: each function's call returns what its plain form says; no condition but those typed. -/
import Derived.Test.YtnllkgjmoipgbaaGreatDoorK3
import Derived.Test.YtnllkgjmoipgbaaGreatDoorRows
import Derived.WalkKit
import Derived.ProofKit
import Derived.ChangeOld
import Derived.SizedLaws
import Derived.Test.YtnllkgjmoipgbaaGreatDoorTie
import Derived.Test.YtnllkgjmoipgbaaGreatDoorCards
import Derived.SevenTiedAt
-- LwD
namespace Go.Proofs.YtnllkgjmoipgbaaGreatDoor
open Go Go.RowKit
set_option linter.unusedSimpArgs false
set_option linter.unusedVariables false
set_option maxRecDepth 100000

theorem bit_of (x : Int) : isBit (wrap64 (2 ^ min (IntKind.u64.wrap ((wrap64 (x.tmod 6 + 6)).tmod 6)).toNat 64)) := by
  have h1 : -6 < x.tmod 6 := Int.lt_tmod_of_pos x (by decide)
  have h2 : x.tmod 6 < 6 := Int.tmod_lt_of_pos x (by decide)
  obtain ⟨y, hy⟩ : ∃ y, y = x.tmod 6 + 6 := ⟨_, rfl⟩
  have hw : wrap64 y = y := w64_in (by omega)
  rw [← hy, hw, Int.tmod_eq_emod_of_nonneg (show 0 ≤ y by omega)]
  have h3 : 0 ≤ y % 6 ∧ y % 6 < 6 := by omega
  generalize y % 6 = z at *
  rcases (show z = 0 ∨ z = 1 ∨ z = 2 ∨ z = 3 ∨ z = 4 ∨ z = 5 by omega) with rfl | rfl | rfl | rfl | rfl | rfl <;> (unfold isBit; decide +kernel)
/-- A machine that was told some bits. -/
def told (s li : Int) : BusV := { BusV.made 1 [] with status := s, lines := li }
theorem told_clock (s li : Int) : ClockV (told s li) ⟨0, 0, false, 0⟩ 255 0 0 li s := ⟨rfl, rfl, rfl, rfl, rfl, rfl⟩
theorem told_tell (s li b : Int) (may : Bool) : (told s li).tell b may = told (orBit s b) (if may then orBit li 2 else li) := rfl
theorem told_zero : told 0 0 = BusV.made 1 [] := rfl
theorem told_read (s li : Int) : (told s li).rd 2088960 = s ∧ (told s li).go 2088960 = told 0 (clrBit li 2) := by
  refine ⟨?_, ?_⟩
  · unfold BusV.rd; rw [reg_vdc0.1, if_neg (by decide), if_neg (by decide), if_pos rfl, reg_vdc0.2]; rfl
  · unfold BusV.go; rw [reg_vdc0.1, if_pos rfl, reg_vdc0.2]; rfl
theorem orBit_pos (s b : Int) (hs : 0 ≤ s) (hb : isBit b) : orBit s b ≠ 0 := by
  unfold orBit
  rcases hb with rfl | rfl | rfl | rfl | rfl | rfl <;> split <;> omega
theorem told_w0 : ∃ B1, (told 0 0).wr 2092032 0 = B1 ∧ ClockV B1 ⟨0, 0, false, 0⟩ 0 0 0 0 0 := by
  refine ⟨_, rfl, ?_⟩
  rw [BusV.wr_io _ _ _ 5 0 reg_timer0 (by decide)]
  exact clock_set (told_clock 0 0) 0 (0 % 256)
theorem told_w1 {B1 : BusV} (h : ClockV B1 ⟨0, 0, false, 0⟩ 0 0 0 0 0) : ∃ B2, B1.wr 2092033 1 = B2 ∧ ClockV B2 ⟨0, 0, true, 0⟩ 1 0 0 0 0 := by
  refine ⟨_, rfl, ?_⟩
  rw [BusV.wr_io _ _ _ 5 1 reg_timer1 (by decide)]
  exact clock_set h 1 (1 % 256)
theorem told_rd {B2 B3 : BusV} (h : ClockV B2 ⟨0, 0, true, 0⟩ 1 0 0 0 0) (h3 : B3 = { B2 with lag := 3072 }) : B3.rd 2094083 = 4 := by
  rw [BusV.rd_io _ _ 7 3 reg_irq3 (by decide)]
  unfold BusV.goHeld
  rw [if_neg (by decide), if_neg (by decide), if_pos (by decide)]
  have e1 : B3.settle.lines = 4 := by
    rw [h3]
    show (if B2.timer.rings 3072 then orBit B2.lines 4 else B2.lines) = 4
    rw [h.timer, h.lines, if_pos (by unfold TimerV.rings; decide)]
    decide
  have e2 : B3.hold = 1 := by rw [h3]; exact h.hold
  show B3.hold / 8 * 8 + (if (3 : Int) = 2 then B3.settle.mask else B3.settle.lines) = 4
  rw [e1, e2, if_neg (by decide)]; decide
set_option maxHeartbeats 4000000 in
theorem busStatus_walk (a : Option Addr) (c : Nat) (xs : List Int) (may : Bool) (w : World) (hm : xs.length ≤ maxLen) (S : SlAt (Value.int .i64) 0 w a xs) : Calls Tryz.prog 5 #[.slice a xs.length c, .bool may] w fun e w' => e = .returned (.bool true) ∧ Below w.heap.size w w' := by
  unfold maxLen at hm
  have HM := Lib.hid (fun w => law24_machine 1 (.inl rfl) w)
  have HS := Lib.hid S
  clear S
  go_enter Tryz.func5, Tryz.ntmps5
  go_wp2_with fail
  refine (HM.out _).mono ?_; rintro e w1 ⟨l, rfl, h2, b2, hF⟩
  have HF := Lib.hid hF
  rw [← told_zero] at h2
  have H1 := Lib.hid h2
  have BL1 := Lib.hid b2
  clear h2 b2 hF
  go_wp2_with fail
  go_loopw [6, 7] (fun s i wr => ∃ (k : Nat) (sv li : Int), k ≤ xs.length ∧ k ≤ 20 ∧ s = .int .i64 sv ∧ i = .int .i64 k ∧ (0 ≤ sv ∧ sv ≤ 63) ∧ ((k = 0 ∧ sv = 0 ∧ li = 0) ∨ (0 < k ∧ sv ≠ 0 ∧ li = if may then 2 else 0)) ∧ BusAt wr l (told sv li) ∧ Below w.heap.size w wr) (fun _ i _ => 20 - (intOf i).toNat)
  case atStart => exact ⟨0, 0, 0, Nat.zero_le _, Nat.zero_le _, rfl, rfl, by decide, .inl ⟨rfl, rfl, rfl⟩, H1.out, BL1.out⟩
  case round =>
    obtain ⟨k, sv, li, hk, hk2, rfl, rfl, hsv, hli, hb, hbl⟩ := hrel
    by_cases hlt : k < xs.length ∧ k < 20
    · obtain ⟨h1, h2⟩ := hlt
      have d1 : decide ((k : Int) < (xs.length : Int)) = true := by simpa using h1
      have d2 : decide ((k : Int) < 20) = true := by simp; omega
      have x2 : (k : Int) < 20 := by omega
      obtain ⟨ad, ea, ca⟩ := (HS.out.below hbl).atN k h1
      subst ea
      obtain ⟨bt, hbt⟩ : ∃ bt, bt = wrap64 (2 ^ min (IntKind.u64.wrap ((wrap64 ((nth 0 xs k).tmod 6 + 6)).tmod 6)).toNat 64) := ⟨_, rfl⟩
      have hbi : isBit bt := by rw [hbt]; exact bit_of _
      have HT := Lib.hid (bus_Tell hb bt hbi may)
      have ho := or63 sv hsv bt hbi
      have hsv2 := Lib.hid (orBit_status sv bt hsv hbi)
      have hsp := Lib.hid (orBit_pos sv bt hsv.1 hbi)
      have HLI := Lib.hid hli
      have HBT := Lib.hid hbt
      have HBL := Lib.hid hbl
      clear hbi hli hbt hbl hb
      go_wp2_with fail
      rw [← HBT.out]
      refine HT.out.mono ?_; rintro e w2 ⟨rfl, h3, t3⟩
      rw [told_tell] at h3
      have H3 := Lib.hid h3
      have B3 := Lib.hid (HF.out.below HBL.out t3)
      clear h3 t3 HT
      go_wp2
      go_roundw
      case rel => exact ⟨k + 1, orBit sv bt, _, by omega, by omega, rfl, by go_num, hsv2.out, .inr ⟨by omega, hsp.out, by
        rcases HLI.out with ⟨_, _, rfl⟩ | ⟨_, _, rfl⟩ <;> cases may <;> rfl⟩, H3.out, B3.out⟩
      case measure => simp [intOf]; omega
    · have hcase : ((decide ((k : Int) < (xs.length : Int)) = false) ∧ ¬ (k : Int) < (xs.length : Int)) ∨ (decide ((k : Int) < (xs.length : Int)) = true ∧ decide ((k : Int) < 20) = false ∧ (k : Int) < (xs.length : Int) ∧ ¬ (k : Int) < 20) := by
        simp only [decide_eq_true_eq, decide_eq_false_iff_not]; omega
      have hst : ∃ ra : Bool, (decide (sv = 0) = !(ra || decide (sv ≠ 0))) ∧ ((ra = false ∧ li = 0 ∧ (sv = 0 ∨ may = false)) ∨ (ra = true ∧ li = 2 ∧ sv ≠ 0 ∧ may = true)) := by
        rcases hli with ⟨_, h1, h2⟩ | ⟨_, h1, h2⟩
        · exact ⟨false, by simp, .inl ⟨rfl, h2, .inl h1⟩⟩
        · cases may
          · exact ⟨false, by simp, .inl ⟨rfl, h2, .inr rfl⟩⟩
          · exact ⟨true, by simp [h1], .inr ⟨rfl, h2, h1, rfl⟩⟩
      obtain ⟨ra, _, hst⟩ := hst
      obtain ⟨B1, hB1, c1⟩ := told_w0
      obtain ⟨B2, hB2, c2⟩ := told_w1 c1
      obtain ⟨B3, hB3⟩ : ∃ B3 : BusV, B3 = { B2 with lag := 3072 } := ⟨_, rfl⟩
      have hr3 := told_rd c2 hB3
      have C1 := Lib.hid c1.lag
      have C2 := Lib.hid c2
      have HB1 := Lib.hid hB1
      have HB2 := Lib.hid hB2
      have HB3 := Lib.hid hB3
      have HR3 := Lib.hid hr3
      have HC3 := Lib.hid (show 0 ≤ B3.lag ∧ B3.lag ≤ 1099511627776 by rw [hB3]; exact ⟨by show (0 : Int) ≤ 3072; decide, by show (3072 : Int) ≤ 1099511627776; decide⟩)
      have HRd := Lib.hid (told_read sv li)
      have HR0 := Lib.hid (told_read 0 0)
      have HBk := Lib.hid hb
      have HBl := Lib.hid hbl
      have a1 := hb.irqC.2
      have a2 : w.heap.size = w.heap.size := rfl
      have HF2 := Lib.hid HF.out
      have li2 : clrBit li 2 = 0 := by rcases hst with ⟨_, rfl, _⟩ | ⟨_, rfl, _⟩ <;> decide
      have HL2 := Lib.hid li2
      clear hB1 hB2 hB3 c1 c2 hr3 hb hbl hli li2 a2 hlt
      have a3 : wr.cell? ⟨l.p, 9246, none⟩ = some (.int .i64 li) := a1
      clear a1
      rcases hst with ⟨rfl, rfl, hz⟩ | ⟨rfl, rfl, hz, rfl⟩
      · have hz2 : (sv != 0 && may) = false := by
          rcases hz with rfl | rfl <;> simp
        have hz3 : ((sv != 0) = false ∧ sv = 0) ∨ ((sv != 0) = true ∧ may = false) := by
          rcases hz with h | h
          · exact .inl ⟨by simp [h], h⟩
          · by_cases h0 : sv = 0
            · exact .inl ⟨by simp [h0], h0⟩
            · exact .inr ⟨by simp [h0], h⟩
        clear hz hz2
        rcases hz3 with ⟨hn, rfl⟩ | ⟨hn, rfl⟩
        all_goals rcases hcase with ⟨d1, d3⟩ | ⟨d1, d2, d3, d4⟩
        all_goals
          go_wp2_with fail
          refine (lw_Read HF2.out HBk.out HBl.out rfl 2088960 HRd.out.1 (HRd.out.2.trans (by rw [HL2.out]))).mono ?_; rintro e w2 ⟨rfl, h2, b2⟩
          have H2 := Lib.hid h2
          have B2L := Lib.hid b2
          clear h2 b2 a3
          go_wp2_with fail
          refine (lw_Read HF2.out H2.out B2L.out rfl 2088960 HR0.out.1 HR0.out.2).mono ?_; rintro e w3 ⟨rfl, h2, b2⟩
          have H3 := Lib.hid h2
          have B3L := Lib.hid b2
          have a3 : w3.cell? ⟨l.p, 9246, none⟩ = some (.int .i64 0) := h2.irqC.2
          clear h2 b2
          go_wp2_with fail
          refine (lw_Write HF2.out H3.out B3L.out rfl 2092032 0 HB1.out).mono ?_; rintro e w4 ⟨rfl, h2, b2⟩
          have H4 := Lib.hid h2
          have B4L := Lib.hid b2
          clear h2 b2 a3
          go_wp2_with fail
          refine (lw_Write HF2.out H4.out B4L.out C1.out 2092033 1 HB2.out).mono ?_; rintro e w5 ⟨rfl, h2, b2⟩
          have k4 := h2.lag
          have f4 := h2.free 9262
          have H5 := Lib.hid (h2.put1 17 (v := .int .i64 3072) (B' := B3) (o := 9262) rfl (by decide) (by rw [HB3.out]; rfl) (by rw [HB3.out]; exact { h2.ok with lag := by show (0 : Int) ≤ 3072; decide }) (by rw [HB3.out]) (by rw [HB3.out]))
          have B5L := Lib.hid (b2.setCell (p := ⟨l.p, 9262, none⟩) HF2.out.1 (.int .i64 3072))
          clear h2 b2
          go_wp2_with fail
          refine ((bus_Read H5.out HC3.out 2094083)).mono ?_; rintro e w6 ⟨rfl, h2, t2⟩
          have B6L := Lib.hid (HF2.out.below B5L.out t2)
          rw [HR3.out]
          clear h2 t2
          go_wp2
          go_ret
          exact ⟨rfl, B6L.out⟩
      · have hn : (sv != 0) = true := by simp [hz]
        clear hz
        rcases hcase with ⟨d1, d3⟩ | ⟨d1, d2, d3, d4⟩
        all_goals
          go_wp2_with fail
          refine (lw_Read HF2.out HBk.out HBl.out rfl 2088960 HRd.out.1 (HRd.out.2.trans (by rw [HL2.out]))).mono ?_; rintro e w2 ⟨rfl, h2, b2⟩
          have H2 := Lib.hid h2
          have B2L := Lib.hid b2
          clear h2 b2 a3
          go_wp2_with fail
          refine (lw_Read HF2.out H2.out B2L.out rfl 2088960 HR0.out.1 HR0.out.2).mono ?_; rintro e w3 ⟨rfl, h2, b2⟩
          have H3 := Lib.hid h2
          have B3L := Lib.hid b2
          have a3 : w3.cell? ⟨l.p, 9246, none⟩ = some (.int .i64 0) := h2.irqC.2
          clear h2 b2
          go_wp2_with fail
          refine (lw_Write HF2.out H3.out B3L.out rfl 2092032 0 HB1.out).mono ?_; rintro e w4 ⟨rfl, h2, b2⟩
          have H4 := Lib.hid h2
          have B4L := Lib.hid b2
          clear h2 b2 a3
          go_wp2_with fail
          refine (lw_Write HF2.out H4.out B4L.out C1.out 2092033 1 HB2.out).mono ?_; rintro e w5 ⟨rfl, h2, b2⟩
          have k4 := h2.lag
          have f4 := h2.free 9262
          have H5 := Lib.hid (h2.put1 17 (v := .int .i64 3072) (B' := B3) (o := 9262) rfl (by decide) (by rw [HB3.out]; rfl) (by rw [HB3.out]; exact { h2.ok with lag := by show (0 : Int) ≤ 3072; decide }) (by rw [HB3.out]) (by rw [HB3.out]))
          have B5L := Lib.hid (b2.setCell (p := ⟨l.p, 9262, none⟩) HF2.out.1 (.int .i64 3072))
          clear h2 b2
          go_wp2_with fail
          refine ((bus_Read H5.out HC3.out 2094083)).mono ?_; rintro e w6 ⟨rfl, h2, t2⟩
          have B6L := Lib.hid (HF2.out.below B5L.out t2)
          rw [HR3.out]
          clear h2 t2
          go_wp2
          go_ret
          exact ⟨rfl, B6L.out⟩
end Go.Proofs.YtnllkgjmoipgbaaGreatDoor
-- LawLwD
namespace Go.Proofs.YtnllkgjmoipgbaaGreatDoor
open Go Go.RowKit Go.ChangeShapes Go.WideShapes
set_option linter.unusedVariables false
set_option maxRecDepth 100000
variable {H : Type} {enc : TypeId × Value → H}
theorem law_BusStatus (W : World) (base : Nat) {v0 v1 : Value} {d0 d1 : DataW H} {p0 p1 : List MemPlace}
    (hv0 : Value.okWide Tryz.prog W .any base 66 v0) (h0 : DataW.Trod enc Tryz.prog W 0 (fun _ => true) true 66 v0 d0 p0)
    (hv1 : Value.okWide Tryz.prog W .any base 4 v1) (h1 : DataW.Trod enc Tryz.prog W 0 (fun _ => true) true 4 v1 d1 p1)
    {ts : List TypeId} {ds : List (DataW H)} (hsz : (DataW.weightsEach Tryz.prog ts ds).all (· ≤ reachBytes) = true) (e0 : ts[0]? = some 66) (f0 : ds[0]? = some d0) (e1 : ts[1]? = some 4) (f1 : ds[1]? = some d1) :
    Calls Tryz.prog 5 #[v0, v1] W fun e W' => e = .returned (.bool true) ∧ Below W.heap.size W W' := by
  obtain ⟨a, c, xs, rfl, hc, hm, S, _, _⟩ := open_sl_ints (P := Tryz.prog) Tryz.underlying66 Tryz.underlying3 (by kernel_rfl) hv0 h0
  obtain ⟨x1, rfl, _, _⟩ := open_bool Tryz.underlying4 hv1 h1
  exact busStatus_walk a c xs x1 W (Nat.le_trans hc hm) S
end Go.Proofs.YtnllkgjmoipgbaaGreatDoor
-- Start
namespace Go.Proofs.YtnllkgjmoipgbaaGreatDoor
open Go Go.RowKit
set_option maxRecDepth 100000
theorem start_words : ∃ r, behindMainWord (wordsSigns Tryz.prog.initOrder.toList) = "cut".toList :: r := by
  rw [show Tryz.prog.initOrder = String.ofList _ from rfl, String.toList_ofList]
  exact ⟨_, rfl⟩
theorem start_laysLater : Tryz.prog.laysLater = false := by kernel_rfl
theorem start_bearsReflect : Tryz.prog.bearsReflect = false := by kernel_rfl
theorem start_doorFits : Tryz.prog.doorFits [] = true := by kernel_rfl

section
variable (P : Program) (r : List (List Char)) (h : behindMainWord (wordsSigns P.initOrder.toList) = "cut".toList :: r)
theorem start_strip : stripLifts liftWords ("cut".toList :: r) = ([], "cut".toList :: r) := by kernel_rfl
include h
theorem liftsFinal_of : P.liftsFinal = false := by
  unfold Program.liftsFinal Program.headLifts
  rw [h]
  kernel_rfl
theorem mayEnter_of (h1 : P.laysLater = false) (h2 : P.bearsReflect = false) (h3 : P.doorFits [] = true) : P.mayEnter = true := by
  unfold Program.mayEnter
  rw [h]
  simp only [start_strip, h1, h2, h3]
  kernel_rfl
theorem make_of : P.make = some .cut := by
  unfold Program.make
  rw [h]
  kernel_rfl
end
theorem start_liftsFinal : Tryz.prog.liftsFinal = false := let ⟨r, h⟩ := start_words; liftsFinal_of _ r h
theorem start_mayEnter : Tryz.prog.mayEnter = true := let ⟨r, h⟩ := start_words; mayEnter_of _ r h start_laysLater start_bearsReflect start_doorFits
theorem start_make : Tryz.prog.make = some .cut := let ⟨r, h⟩ := start_words; make_of _ r h
end Go.Proofs.YtnllkgjmoipgbaaGreatDoor
-- StartC
namespace Go.Proofs.YtnllkgjmoipgbaaGreatDoor
open Go Go.RowKit
set_option maxRecDepth 100000
theorem start_mainIs : Tryz.prog.mainIs = some (true, "bd220f6371e34b9b9e24540febcd677c8de7384c4fae0106b73b2fe369ca2ce1".toList) := by
  unfold Program.mainIs
  rw [show Tryz.prog.initOrder = String.ofList _ from rfl, String.toList_ofList]
  kernel_rfl
theorem start_looks : Tryz.prog.looks [] = true := by kernel_rfl
end Go.Proofs.YtnllkgjmoipgbaaGreatDoor
