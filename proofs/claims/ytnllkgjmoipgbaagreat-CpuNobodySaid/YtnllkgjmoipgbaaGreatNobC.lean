/- The law CpuNobody, walked. -/
import Derived.Test.YtnllkgjmoipgbaaGreatRet
import Derived.Deep.CutBlock
import Derived.WalkSpells
namespace Go.Proofs.YtnllkgjmoipgbaaGreat
open Go Go.RowKit
set_option linter.unusedSimpArgs false
set_option linter.unusedVariables false
set_option maxRecDepth 100000

/-- Registers, and a processor, by value. -/
structure RgV where
  a : Int
  x : Int
  y : Int
  s : Int
  p : Int
  pc : Int
def RgV.list (r : RgV) : List Value := [.int .i64 r.a, .int .i64 r.x, .int .i64 r.y, .int .i64 r.s, .int .i64 r.p, .int .i64 r.pc]

def NoB (w : World) (v : Value) : Prop := v = .pointer none ∨ ∃ g, v = .pointer (some ⟨g, 0, none⟩) ∧ w.cell? ⟨g, 281, none⟩ = some (.pointer none)
theorem NoB.below {w w' : World} {v : Value} (h : NoB w v) (hb : Below w.heap.size w w') : NoB w' v := by
  rcases h with h | ⟨g, h, hc⟩
  · exact .inl h
  · exact .inr ⟨g, h, by rw [hb.cell (World.block_lt_of_cell? w _ hc)]; exact hc⟩
theorem cpu_none_no {w : World} {v : Value} (h : NoB w v) : Calls Tryz.prog 7 #[v] w fun e w' => e = .returned (.bool true) ∧ w = w' := by
  rcases h with rfl | ⟨g, rfl, h⟩
  all_goals
    go_enter Tryz.func7, Tryz.ntmps7
    go_wp2
    go_ret
    exact ⟨rfl, rfl⟩
theorem cpu_Step_no {w : World} {v : Value} (r : RgV) (f : Bool) (l : Int) (h : NoB w v) : Calls Tryz.prog 4 #[.agg #[.int .i64 r.a, .int .i64 r.x, .int .i64 r.y, .int .i64 r.s, .int .i64 r.p, .int .i64 r.pc, .bool f, .int .i64 l], v] w fun e w' => e = .returned (.tuple #[.agg #[.int .i64 r.a, .int .i64 r.x, .int .i64 r.y, .int .i64 r.s, .int .i64 r.p, .int .i64 r.pc, .bool f, .int .i64 l], .int .i64 0]) ∧ Below w.heap.size w w' := by
  go_enter Tryz.func4, Tryz.ntmps4
  go_wp2_with fail
  refine (cpu_none_no (h.below ?_)).mono ?_
  · exact ((Below.refl _ _).alloc (Nat.le_refl _) _).alloc (by simp) _
  rintro e w' ⟨rfl, rfl⟩
  go_wp2
  exact ret_row_tmp rfl rfl (Blk.new' (w.alloc _) _ _ (by simp)) Tryz.underlying58 rfl (by kernel_rfl) rfl rfl ⟨rfl, ((Below.refl _ _).alloc (Nat.le_refl _) _).alloc (by simp) _⟩
theorem cpu_Start_no {w : World} {v : Value} (h : NoB w v) : Calls Tryz.prog 5 #[v] w fun e w' => e = .returned (.agg #[.int .i64 0, .int .i64 0, .int .i64 0, .int .i64 0, .int .i64 0, .int .i64 0, .bool false, .int .i64 0]) ∧ Below w.heap.size w w' := by
  go_enter Tryz.func5, Tryz.ntmps5
  go_wp2_with fail
  refine (cpu_none_no (h.below ?_)).mono ?_
  · exact ((Below.refl _ _).alloc (Nat.le_refl _) _)
  rintro e w' ⟨rfl, rfl⟩
  go_wp2
  exact ret_row rfl rfl (Blk.new w _ _) Tryz.underlying58 rfl (by kernel_rfl) rfl ⟨rfl, (Below.refl _ _).alloc (Nat.le_refl _) _⟩
theorem cpu_Ticks (r : RgV) (f : Bool) (l n : Int) (hn : 0 ≤ n ∧ n ≤ 281474976710656) (w : World) : Calls Tryz.prog 6 #[.agg #[.int .i64 r.a, .int .i64 r.x, .int .i64 r.y, .int .i64 r.s, .int .i64 r.p, .int .i64 r.pc, .bool f, .int .i64 l], .int .i64 n] w fun e w' => e = .returned (.int .i64 (if f then 3 * n else 12 * n)) ∧ Below w.heap.size w w' := by
  have e1 : IntKind.i64.wrap (3 * n) = 3 * n := IntWalk.i64_in _ (by omega)
  have e2 : IntKind.i64.wrap (12 * n) = 12 * n := IntWalk.i64_in _ (by omega)
  cases f
  all_goals
    go_enter Tryz.func6, Tryz.ntmps6
    go_wp2
    go_ret
    exact ⟨rfl, (Below.refl _ _).alloc (Nat.le_refl _) _⟩
theorem zeroBus281 : (Tryz.zeroCells55)[281]? = some (.pointer none) := by kernel_rfl
set_option maxHeartbeats 2000000 in
theorem cpuNobody_walk (r : RgV) (w : World) : Calls Tryz.prog 3 #[.agg #[.int .i64 r.a, .int .i64 r.x, .int .i64 r.y, .int .i64 r.s, .int .i64 r.p, .int .i64 r.pc]] w fun e w' => e = .returned (.bool true) ∧ Below w.heap.size w w' := by
  go_enter Tryz.func3, Tryz.ntmps3
  go_upto_region 2 with (fail)
  generalize hn : w.heap.size = n at *
  go_loopw [11] (fun i wr => ∃ k : Nat, k ≤ 2 ∧ i = .int .i64 k ∧ Blk wr n #[.int .i64 r.a, .int .i64 r.x, .int .i64 r.y, .int .i64 r.s, .int .i64 r.p, .int .i64 r.pc] 23 ∧ wr.cell? ⟨n + 1, 281, none⟩ = some (.pointer none) ∧ wr.cell? ⟨n + 1 + 1, 0, none⟩ = some (.pointer none) ∧ wr.cell? ⟨n + 1 + 1, 1, none⟩ = some (.pointer (some ⟨n + 1, 0, none⟩)) ∧ Below n w wr) (fun i _ => 2 - (intOf i).toNat)
  case atStart =>
    refine ⟨0, by omega, rfl, (Blk.alloc (Blk.alloc (Blk.new' w _ _ hn.symm) _) _), ?_, ?_, ?_, ?_⟩
    · refine (Blk.cell (Blk.alloc (Blk.new' (w.alloc _) _ _ (by rw [← hn]; simp)) _) 281).trans ?_
      exact zeroBus281
    · exact (Blk.cell (Blk.new' ((w.alloc _).alloc _) _ _ (by rw [← hn]; simp)) 0).trans rfl
    · exact (Blk.cell (Blk.new' ((w.alloc _).alloc _) _ _ (by rw [← hn]; simp)) 1).trans rfl
    · rw [← hn]; exact (((Below.refl _ _).alloc (Nat.le_refl _) _).alloc (by simp) _).alloc (by simp; omega) _
  case round =>
    obtain ⟨k, hk, rfl, A, c1, c2, c3, B⟩ := hrel
    have s1 := B.size
    have q0 := Blk.cell A 0
    have q1 := Blk.cell A 1
    have q2 := Blk.cell A 2
    have q3 := Blk.cell A 3
    have q4 := Blk.cell A 4
    have q5 := Blk.cell A 5
    simp only [List.getElem?_toArray, List.getElem?_cons_zero, List.getElem?_cons_succ] at q0 q1 q2 q3 q4 q5
    have hlt : n + 1 + 1 < wr.heap.size := World.block_lt_of_cell? wr ⟨n + 1 + 1, 0, none⟩ c2
    rcases (show k = 2 ∨ k < 2 by omega) with rfl | hk2
    · clear q0 q1 q2 q3 q4 q5 c1 c2 c3
      have hT := fun w => cpu_Ticks ⟨0, 0, 0, 0, 0, 0⟩ true 0 2 (by decide) w
      have hF := fun w => cpu_Ticks ⟨0, 0, 0, 0, 0, 0⟩ false 0 2 (by decide) w
      simp only at hT hF
      have HT := Lib.hid hT
      have HF := Lib.hid hF
      clear hT hF
      go_wp2_with fail
      refine (HT.out _).mono ?_; rintro e w2 ⟨rfl, b2⟩
      go_wp2_with fail
      refine (HF.out _).mono ?_; rintro e w3 ⟨rfl, b3⟩
      go_wp2
      go_ret
      exact ⟨rfl, by rw [hn]; exact (B.trans (b2.mono (by omega))).trans (b3.mono (by have := b2.size; omega))⟩
    · have hv : ∃ v, wr.cell? ⟨n + 1 + 1, k, none⟩ = some v ∧ NoB wr v := by
        rcases (show k = 0 ∨ k = 1 by omega) with rfl | rfl
        · exact ⟨_, c2, .inl rfl⟩
        · exact ⟨_, c3, .inr ⟨_, rfl, c1⟩⟩
      obtain ⟨v, cv, hv⟩ := hv
      have i1 : (k : Int) < 2 := by omega
      have d1 : decide ((k : Int) < 2) = true := by simpa using i1
      have HV := Lib.hid hv
      have AA := Lib.hid A
      go_wp2_with fail
      refine (cpu_Step_no r false 0 HV.out).mono ?_; rintro e w2 ⟨rfl, b2⟩
      have A2 := Blk.below AA.out b2
      have c12 := (b2.cell (World.block_lt_of_cell? wr _ c1)).trans c1
      have c22 := (b2.cell (World.block_lt_of_cell? wr _ c2)).trans c2
      have c32 := (b2.cell (World.block_lt_of_cell? wr _ c3)).trans c3
      have B2 := B.trans (b2.mono (show n ≤ wr.heap.size by omega))
      have s2 := B2.size
      have HV2 := Lib.hid (HV.out.below b2)
      have q0 := Blk.cell A2 0
      have q1 := Blk.cell A2 1
      have q2 := Blk.cell A2 2
      have q3 := Blk.cell A2 3
      have q4 := Blk.cell A2 4
      have q5 := Blk.cell A2 5
      simp only [List.getElem?_toArray, List.getElem?_cons_zero, List.getElem?_cons_succ] at q0 q1 q2 q3 q4 q5
      have AA := Lib.hid A2
      clear A A2 c1 c2 c3 cv B
      have lt2 := Blk.lt AA.out
      go_wp2_with fail
      have b3 : Below w2.heap.size w2 (w2.alloc (Obj.cells #[.int .i64 r.a, .int .i64 r.x, .int .i64 r.y, .int .i64 r.s, .int .i64 r.p, .int .i64 r.pc, .bool false, .int .i64 0] 58)) := (Below.refl _ _).alloc (Nat.le_refl _) _
      have A3 := Blk.below AA.out b3
      have c13 := (b3.cell (World.block_lt_of_cell? w2 _ c12)).trans c12
      have c23 := (b3.cell (World.block_lt_of_cell? w2 _ c22)).trans c22
      have c33 := (b3.cell (World.block_lt_of_cell? w2 _ c32)).trans c32
      have HV3 := Lib.hid (HV2.out.below b3)
      have B3 := B2.trans (b3.mono (show n ≤ w2.heap.size by omega))
      generalize w2.alloc (Obj.cells #[.int .i64 r.a, .int .i64 r.x, .int .i64 r.y, .int .i64 r.s, .int .i64 r.p, .int .i64 r.pc, .bool false, .int .i64 0] 58) = w3 at *
      refine (cpu_Start_no HV3.out).mono ?_; rintro e w4 ⟨rfl, b4⟩
      have s3 := B3.size
      have B4 := B3.trans (b4.mono (show n ≤ w3.heap.size by omega))
      have A4 := Blk.below A3 b4
      have c14 := (b4.cell (World.block_lt_of_cell? w3 _ c13)).trans c13
      have c24 := (b4.cell (World.block_lt_of_cell? w3 _ c23)).trans c23
      have c34 := (b4.cell (World.block_lt_of_cell? w3 _ c33)).trans c33
      clear HV HV2 HV3 AA A3 q0 q1 q2 q3 q4 q5 c12 c22 c32 c13 c23 c33 b2 b3 b4 B2 B3
      go_wp2
      go_roundw
      case rel => exact ⟨k + 1, by omega, by go_num, A4, c14, c24, c34, B4⟩
      case measure => simp [intOf]; omega
end Go.Proofs.YtnllkgjmoipgbaaGreat
