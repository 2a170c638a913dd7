/- Contracts of the program's functions, and what they rest on, part 4: each function's call returns what its plain form says; no condition but those typed. -/
import Derived.Test.YtnllkgjmoipgbaaGreatDoorK3
import Derived.Deep.CutBlock
import Derived.WalkSpells
import Derived.Test.YtnllkgjmoipgbaaGreatDoorRows
import Derived.WalkKit
import Derived.ProofKit
import Derived.ChangeOld
import Derived.SizedLaws
import Derived.Test.YtnllkgjmoipgbaaGreatDoorTie
import Derived.Test.YtnllkgjmoipgbaaGreatDoorCards
import Derived.SevenTiedAt
-- NobC
namespace Go.Proofs.YtnllkgjmoipgbaaGreatDoor
open Go Go.RowKit
set_option linter.unusedSimpArgs false
set_option linter.unusedVariables false
set_option maxRecDepth 100000

/-- Registers, and a processor, by value. -/
structure RgV where
  a : Int
  x : Int
  y : Int
  s : Int
  p : Int
  pc : Int
def RgV.list (r : RgV) : List Value := [.int .i64 r.a, .int .i64 r.x, .int .i64 r.y, .int .i64 r.s, .int .i64 r.p, .int .i64 r.pc]

def NoB (w : World) (v : Value) : Prop := v = .pointer none ∨ ∃ g, v = .pointer (some ⟨g, 0, none⟩) ∧ w.cell? ⟨g, 281, none⟩ = some (.pointer none)
theorem NoB.below {w w' : World} {v : Value} (h : NoB w v) (hb : Below w.heap.size w w') : NoB w' v := by
  rcases h with h | ⟨g, h, hc⟩
  · exact .inl h
  · exact .inr ⟨g, h, by rw [hb.cell (World.block_lt_of_cell? w _ hc)]; exact hc⟩
theorem cpu_none_no {w : World} {v : Value} (h : NoB w v) : Calls Tryz.prog 91 #[v] w fun e w' => e = .returned (.bool true) ∧ w = w' := by
  rcases h with rfl | ⟨g, rfl, h⟩
  all_goals
    go_enter Tryz.func91, Tryz.ntmps91
    go_wp2
    go_ret
    exact ⟨rfl, rfl⟩
theorem cpu_Step_no {w : World} {v : Value} (r : RgV) (f : Bool) (l : Int) (h : NoB w v) : Calls Tryz.prog 37 #[.agg #[.int .i64 r.a, .int .i64 r.x, .int .i64 r.y, .int .i64 r.s, .int .i64 r.p, .int .i64 r.pc, .bool f, .int .i64 l], v] w fun e w' => e = .returned (.tuple #[.agg #[.int .i64 r.a, .int .i64 r.x, .int .i64 r.y, .int .i64 r.s, .int .i64 r.p, .int .i64 r.pc, .bool f, .int .i64 l], .int .i64 0]) ∧ Below w.heap.size w w' := by
  go_enter Tryz.func37, Tryz.ntmps37
  go_wp2_with fail
  refine (cpu_none_no (h.below ?_)).mono ?_
  · exact ((Below.refl _ _).alloc (Nat.le_refl _) _).alloc (by simp) _
  rintro e w' ⟨rfl, rfl⟩
  go_wp2
  exact ret_row_tmp rfl rfl (Blk.new' (w.alloc _) _ _ (by simp)) Tryz.underlying96 rfl (by kernel_rfl) rfl rfl ⟨rfl, ((Below.refl _ _).alloc (Nat.le_refl _) _).alloc (by simp) _⟩
theorem cpu_Start_no {w : World} {v : Value} (h : NoB w v) : Calls Tryz.prog 42 #[v] w fun e w' => e = .returned (.agg #[.int .i64 0, .int .i64 0, .int .i64 0, .int .i64 0, .int .i64 0, .int .i64 0, .bool false, .int .i64 0]) ∧ Below w.heap.size w w' := by
  go_enter Tryz.func42, Tryz.ntmps42
  go_wp2_with fail
  refine (cpu_none_no (h.below ?_)).mono ?_
  · exact ((Below.refl _ _).alloc (Nat.le_refl _) _)
  rintro e w' ⟨rfl, rfl⟩
  go_wp2
  exact ret_row rfl rfl (Blk.new w _ _) Tryz.underlying96 rfl (by kernel_rfl) rfl ⟨rfl, (Below.refl _ _).alloc (Nat.le_refl _) _⟩
theorem cpu_Ticks (r : RgV) (f : Bool) (l n : Int) (hn : 0 ≤ n ∧ n ≤ 281474976710656) (w : World) : Calls Tryz.prog 41 #[.agg #[.int .i64 r.a, .int .i64 r.x, .int .i64 r.y, .int .i64 r.s, .int .i64 r.p, .int .i64 r.pc, .bool f, .int .i64 l], .int .i64 n] w fun e w' => e = .returned (.int .i64 (if f then 3 * n else 12 * n)) ∧ Below w.heap.size w w' := by
  have e1 : IntKind.i64.wrap (3 * n) = 3 * n := IntWalk.i64_in _ (by omega)
  have e2 : IntKind.i64.wrap (12 * n) = 12 * n := IntWalk.i64_in _ (by omega)
  cases f
  all_goals
    go_enter Tryz.func41, Tryz.ntmps41
    go_wp2
    go_ret
    exact ⟨rfl, (Below.refl _ _).alloc (Nat.le_refl _) _⟩
theorem zeroBus281 : (Tryz.zeroCells57)[281]? = some (.pointer none) := by kernel_rfl
end Go.Proofs.YtnllkgjmoipgbaaGreatDoor
-- NobB
namespace Go.Proofs.YtnllkgjmoipgbaaGreatDoor
open Go Go.RowKit
set_option linter.unusedSimpArgs false
set_option linter.unusedVariables false
set_option maxRecDepth 100000

theorem bus_none_no {w : World} {v : Value} (h : NoB w v) : Calls Tryz.prog 49 #[v] w fun e w' => e = .returned (.bool true) ∧ w = w' := by
  rcases h with rfl | ⟨g, rfl, h⟩
  all_goals
    go_enter Tryz.func49, Tryz.ntmps49
    go_wp2
    go_ret
    exact ⟨rfl, rfl⟩
theorem bus_Write_no {w : World} {v : Value} (h : NoB w v) (a b : Int) : Calls Tryz.prog 22 #[v, .int .i64 a, .int .i64 b] w fun e w' => e = .returned (.tuple #[]) ∧ w = w' := by
  have HN := Lib.hid (bus_none_no h)
  clear h
  go_enter Tryz.func22, Tryz.ntmps22
  go_wp2_with fail
  refine HN.out.mono ?_; rintro e w' ⟨rfl, rfl⟩
  go_wp2
  exact ⟨rfl, .tuple #[], by first | exact rfl | (unfold results; rfl) | kernel_rfl, rfl, rfl⟩
theorem bus_Settle_no {w : World} {v : Value} (h : NoB w v) : Calls Tryz.prog 23 #[v] w fun e w' => e = .returned (.tuple #[]) ∧ w = w' := by
  have HN := Lib.hid (bus_none_no h)
  clear h
  go_enter Tryz.func23, Tryz.ntmps23
  go_wp2_with fail
  refine HN.out.mono ?_; rintro e w' ⟨rfl, rfl⟩
  go_wp2
  exact ⟨rfl, .tuple #[], by first | exact rfl | (unfold results; rfl) | kernel_rfl, rfl, rfl⟩
theorem bus_Tell_no {w : World} {v : Value} (h : NoB w v) (a : Int) (b : Bool) : Calls Tryz.prog 24 #[v, .int .i64 a, .bool b] w fun e w' => e = .returned (.tuple #[]) ∧ w = w' := by
  have HN := Lib.hid (bus_none_no h)
  clear h
  go_enter Tryz.func24, Tryz.ntmps24
  go_wp2_with fail
  refine HN.out.mono ?_; rintro e w' ⟨rfl, rfl⟩
  go_wp2
  exact ⟨rfl, .tuple #[], by first | exact rfl | (unfold results; rfl) | kernel_rfl, rfl, rfl⟩
theorem bus_Read_no {w : World} {v : Value} (h : NoB w v) (a : Int) : Calls Tryz.prog 25 #[v, .int .i64 a] w fun e w' => e = .returned (.int .i64 0) ∧ w = w' := by
  have HN := Lib.hid (bus_none_no h)
  clear h
  go_enter Tryz.func25, Tryz.ntmps25
  go_wp2_with fail
  refine HN.out.mono ?_; rintro e w' ⟨rfl, rfl⟩
  go_wp2
  go_ret
  exact ⟨rfl, rfl⟩
theorem card_Pages_none (v : Value) (w : World) (h : v = .pointer none ∨ ∃ g, v = .pointer (some ⟨g, 0, none⟩) ∧ w.cell? ⟨g, 0, none⟩ = some (.slice none 0 0)) :
    Calls Tryz.prog 44 #[v] w fun e w' => e = .returned (.int .i64 0) ∧ w = w' := by
  rcases h with rfl | ⟨g, rfl, h⟩
  all_goals
    go_enter Tryz.func44, Tryz.ntmps44
    go_wp2
    go_ret
    exact ⟨rfl, rfl⟩
theorem bus_New_no (v : Value) (w : World) (h : v = .pointer none ∨ ∃ g, v = .pointer (some ⟨g, 0, none⟩) ∧ w.cell? ⟨g, 0, none⟩ = some (.slice none 0 0)) :
    Calls Tryz.prog 21 #[v] w fun e w' => e = .returned (.pointer none) ∧ w = w' := by
  have HN := Lib.hid (card_Pages_none v w h)
  clear h
  go_enter Tryz.func21, Tryz.ntmps21
  go_wp2_with fail
  refine HN.out.mono ?_; rintro e w' ⟨rfl, rfl⟩
  go_wp2
  go_ret
  exact ⟨rfl, rfl⟩
theorem zeroBusStatus : (Tryz.zeroCells57)[278]? = some (.int .i64 0) ∧ (Tryz.zeroCells57)[288]? = some (.int .u8 0) ∧ (Tryz.zeroCells57)[9246]? = some (.int .i64 0) := ⟨by kernel_rfl, by kernel_rfl, by kernel_rfl⟩
set_option maxHeartbeats 4000000 in
theorem busNobody_walk (phys v : Int) (w : World) : Calls Tryz.prog 3 #[.int .i64 phys, .int .i64 v] w fun e w' => e = .returned (.bool true) ∧ Below w.heap.size w w' := by
  have HM := Lib.hid (fun w => law24_machine 1 (.inl rfl) w)
  go_enter Tryz.func3, Tryz.ntmps3
  go_wp2_with fail
  refine (bus_New_no (.pointer none) _ (.inl rfl)).mono ?_; rintro e w' ⟨rfl, rfl⟩
  go_wp2_with fail
  refine (bus_New_no (.pointer (some ⟨w.heap.size, 0, none⟩)) _ (.inr ⟨_, rfl, (Blk.cell (Blk.new w _ _) 0).trans rfl⟩)).mono ?_; rintro e w' ⟨rfl, rfl⟩
  obtain ⟨n, hn⟩ : ∃ n, w.heap.size = n := ⟨_, rfl⟩
  have HN := Lib.hid hn
  clear hn
  go_upto_region 4 with (fail)
  go_loopw [6, 20] (fun _ i wr => ∃ k : Nat, k ≤ 2 ∧ i = .int .i64 k ∧ wr.cell? ⟨w.heap.size + 1, 281, none⟩ = some (.pointer none) ∧ wr.cell? ⟨w.heap.size + 1, 278, none⟩ = some (.int .i64 0) ∧ wr.cell? ⟨w.heap.size + 1, 288, none⟩ = some (.int .u8 0) ∧ wr.cell? ⟨w.heap.size + 1, 9246, none⟩ = some (.int .i64 0) ∧ wr.cell? ⟨w.heap.size + 1 + 1, 0, none⟩ = some (.pointer none) ∧ wr.cell? ⟨w.heap.size + 1 + 1, 1, none⟩ = some (.pointer (some ⟨w.heap.size + 1, 0, none⟩)) ∧ Below w.heap.size w wr) (fun _ i _ => 2 - (intOf i).toNat)
  case atStart =>
    refine ⟨0, by omega, rfl, ?_, ?_, ?_, ?_, ?_, ?_, ?_⟩
    · refine (Blk.cell (Blk.alloc (Blk.new' (w.alloc _) _ _ (by simp)) _) 281).trans ?_
      exact zeroBus281
    · refine (Blk.cell (Blk.alloc (Blk.new' (w.alloc _) _ _ (by simp)) _) 278).trans ?_
      exact zeroBusStatus.1
    · refine (Blk.cell (Blk.alloc (Blk.new' (w.alloc _) _ _ (by simp)) _) 288).trans ?_
      exact zeroBusStatus.2.1
    · refine (Blk.cell (Blk.alloc (Blk.new' (w.alloc _) _ _ (by simp)) _) 9246).trans ?_
      exact zeroBusStatus.2.2
    · exact (Blk.cell (Blk.new' ((w.alloc _).alloc _) _ _ (by simp)) 0).trans rfl
    · exact (Blk.cell (Blk.new' ((w.alloc _).alloc _) _ _ (by simp)) 1).trans rfl
    · exact (((Below.refl _ _).alloc (Nat.le_refl _) _).alloc (by simp) _).alloc (by simp; omega) _
  case round =>
    obtain ⟨k, hk, rfl, c1, c2, c3, c4, c5, c6, hb⟩ := hrel
    rcases (show k = 2 ∨ k = 0 ∨ k = 1 by omega) with rfl | rfl | rfl
    · have HB := Lib.hid hb
      clear c1 c2 c3 c4 c5 c6 hb
      go_wp2_with fail
      refine (HM.out _).mono ?_; rintro e w1 ⟨l, rfl, h2, b2, hF⟩
      have hs := HB.out.size
      have b3 := HB.out.trans (b2.mono hs)
      have hF2 : l.From w.heap.size := ⟨by have := hF.1; omega, by have := hF.2.1; omega, by have := hF.2.2; omega⟩
      have hk1 : regKind 2031621 = 1 ∧ regAt 2031621 = 5 := ⟨(reg_ram (k := 0) (j := 5) (by omega) (by omega)).1, (reg_ram (k := 0) (j := 5) (by omega) (by omega)).2⟩
      obtain ⟨B1, hB1⟩ : ∃ B1, (BusV.made 1 []).wr 2031621 7 = B1 := ⟨_, rfl⟩
      have e1 : B1 = (BusV.made 1 []).setRam 5 7 := by rw [← hB1, BusV.wr_ram _ _ _ 5 hk1.1 hk1.2]; rfl
      have hr : B1.rd 2031621 = 7 := by
        rw [BusV.rd_ram _ _ 5 hk1.1 hk1.2, e1]
        show nth 0 ((zeros 8192).set 5 7) 5 = 7
        rw [nth_set_eq (by rw [zeros_length]; omega)]
      have H2 := Lib.hid h2
      have B3 := Lib.hid b3
      have HF2 := Lib.hid hF2
      have HB1 := Lib.hid hB1
      have HR := Lib.hid hr
      have HL := Lib.hid (show B1.lag = 0 by rw [e1]; rfl)
      have HG := Lib.hid (BusV.go_none B1 2031621 (.inr (.inl hk1.1)))
      clear h2 b2 b3 hF hF2 hB1 hr hk1 hs e1
      go_wp2_with fail
      refine (lw_Write HF2.out H2.out B3.out rfl 2031621 7 HB1.out).mono ?_; rintro e w2 ⟨rfl, h2, b2⟩
      have H3 := Lib.hid h2
      have B4 := Lib.hid b2
      clear h2 b2
      go_wp2_with fail
      refine (lw_Read HF2.out H3.out B4.out HL.out 2031621 HR.out HG.out).mono ?_; rintro e w3 ⟨rfl, h2, b2⟩
      have B5 := Lib.hid b2
      clear h2 b2
      go_wp2
      go_ret
      exact ⟨rfl, B5.out⟩
    · have NV : NoB wr (.pointer none) := .inl rfl
      have HNV := Lib.hid NV
      have HB := Lib.hid hb
      clear NV hb
      go_wp2_with fail
      refine (bus_Write_no HNV.out _ _).mono ?_; rintro e w' ⟨rfl, rfl⟩
      go_wp2_with fail
      refine (bus_Settle_no HNV.out).mono ?_; rintro e w' ⟨rfl, rfl⟩
      go_wp2_with fail
      refine (bus_Tell_no HNV.out _ _).mono ?_; rintro e w' ⟨rfl, rfl⟩
      go_wp2_with fail
      refine (bus_Read_no HNV.out _).mono ?_; rintro e w' ⟨rfl, rfl⟩
      go_wp2
      go_roundw
      case rel => exact ⟨1, by omega, rfl, c1, c2, c3, c4, c5, c6, HB.out⟩
      case measure => simp [intOf]
    · have NV : NoB wr (.pointer (some ⟨w.heap.size + 1, 0, none⟩)) := .inr ⟨_, rfl, c1⟩
      have HNV := Lib.hid NV
      have HB := Lib.hid hb
      clear NV hb
      go_wp2_with fail
      refine (bus_Write_no HNV.out _ _).mono ?_; rintro e w' ⟨rfl, rfl⟩
      go_wp2_with fail
      refine (bus_Settle_no HNV.out).mono ?_; rintro e w' ⟨rfl, rfl⟩
      go_wp2_with fail
      refine (bus_Tell_no HNV.out _ _).mono ?_; rintro e w' ⟨rfl, rfl⟩
      go_wp2_with fail
      refine (bus_Read_no HNV.out _).mono ?_; rintro e w' ⟨rfl, rfl⟩
      go_wp2
      go_roundw
      case rel => exact ⟨2, by omega, rfl, c1, c2, c3, c4, c5, c6, HB.out⟩
      case measure => simp [intOf]
end Go.Proofs.YtnllkgjmoipgbaaGreatDoor
-- LawNobB
namespace Go.Proofs.YtnllkgjmoipgbaaGreatDoor
open Go Go.RowKit Go.ChangeShapes Go.WideShapes
set_option linter.unusedVariables false
set_option maxRecDepth 100000
variable {H : Type} {enc : TypeId × Value → H}
theorem law_BusNobody (W : World) (base : Nat) {v0 v1 : Value} {d0 d1 : DataW H} {p0 p1 : List MemPlace}
    (hv0 : Value.okWide Tryz.prog W .any base 3 v0) (h0 : DataW.Trod enc Tryz.prog W 0 (fun _ => true) true 3 v0 d0 p0)
    (hv1 : Value.okWide Tryz.prog W .any base 3 v1) (h1 : DataW.Trod enc Tryz.prog W 0 (fun _ => true) true 3 v1 d1 p1)
    {ts : List TypeId} {ds : List (DataW H)} (hsz : (DataW.weightsEach Tryz.prog ts ds).all (· ≤ reachBytes) = true) (e0 : ts[0]? = some 3) (f0 : ds[0]? = some d0) (e1 : ts[1]? = some 3) (f1 : ds[1]? = some d1) :
    Calls Tryz.prog 3 #[v0, v1] W fun e W' => e = .returned (.bool true) ∧ Below W.heap.size W W' := by
  obtain ⟨x0, rfl, _, _, z0⟩ := open_int Tryz.underlying3 hv0 h0
  obtain ⟨x1, rfl, _, _, z1⟩ := open_int Tryz.underlying3 hv1 h1
  exact busNobody_walk x0 x1 W
end Go.Proofs.YtnllkgjmoipgbaaGreatDoor
-- Start
namespace Go.Proofs.YtnllkgjmoipgbaaGreatDoor
open Go Go.RowKit
set_option maxRecDepth 100000
theorem start_words : ∃ r, behindMainWord (wordsSigns Tryz.prog.initOrder.toList) = "cut".toList :: r := by
  rw [show Tryz.prog.initOrder = String.ofList _ from rfl, String.toList_ofList]
  exact ⟨_, rfl⟩
theorem start_laysLater : Tryz.prog.laysLater = false := by kernel_rfl
theorem start_bearsReflect : Tryz.prog.bearsReflect = false := by kernel_rfl
theorem start_doorFits : Tryz.prog.doorFits [] = true := by kernel_rfl

section
variable (P : Program) (r : List (List Char)) (h : behindMainWord (wordsSigns P.initOrder.toList) = "cut".toList :: r)
theorem start_strip : stripLifts liftWords ("cut".toList :: r) = ([], "cut".toList :: r) := by kernel_rfl
include h
theorem liftsFinal_of : P.liftsFinal = false := by
  unfold Program.liftsFinal Program.headLifts
  rw [h]
  kernel_rfl
theorem mayEnter_of (h1 : P.laysLater = false) (h2 : P.bearsReflect = false) (h3 : P.doorFits [] = true) : P.mayEnter = true := by
  unfold Program.mayEnter
  rw [h]
  simp only [start_strip, h1, h2, h3]
  kernel_rfl
theorem make_of : P.make = some .cut := by
  unfold Program.make
  rw [h]
  kernel_rfl
end
theorem start_liftsFinal : Tryz.prog.liftsFinal = false := let ⟨r, h⟩ := start_words; liftsFinal_of _ r h
theorem start_mayEnter : Tryz.prog.mayEnter = true := let ⟨r, h⟩ := start_words; mayEnter_of _ r h start_laysLater start_bearsReflect start_doorFits
theorem start_make : Tryz.prog.make = some .cut := let ⟨r, h⟩ := start_words; make_of _ r h
end Go.Proofs.YtnllkgjmoipgbaaGreatDoor
-- StartC
namespace Go.Proofs.YtnllkgjmoipgbaaGreatDoor
open Go Go.RowKit
set_option maxRecDepth 100000
theorem start_mainIs : Tryz.prog.mainIs = some (true, "bd220f6371e34b9b9e24540febcd677c8de7384c4fae0106b73b2fe369ca2ce1".toList) := by
  unfold Program.mainIs
  rw [show Tryz.prog.initOrder = String.ofList _ from rfl, String.toList_ofList]
  kernel_rfl
theorem start_looks : Tryz.prog.looks [] = true := by kernel_rfl
end Go.Proofs.YtnllkgjmoipgbaaGreatDoor
