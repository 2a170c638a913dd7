/- The law LinePlain, walked. -/
import Derived.Test.YtlhnfllfankjhaaLnE
namespace Go.Proofs.Ytlhnfllfankjhaa
open Go Go.RowKit
set_option linter.unusedSimpArgs false
set_option linter.unusedVariables false
set_option maxRecDepth 100000

theorem buildVce (w : World) : (Instr.build 95 #[]).run Try.prog w = .ok (.agg VceV.zero.cells.toArray) w := by
  refine run_build w _ _ _ ?_
  have h : (Try.prog.info? 95).map (·.zero) = some (some (.agg VceV.zero.cells.toArray)) := by kernel_rfl
  obtain ⟨it, hi, hz⟩ := Option.map_eq_some_iff.1 h
  rw [built_struct (places := [(0, 1), (1, 1), (2, 512)]) hi Try.underlying95 hz (by kernel_rfl)]
  rfl
/-- The numbers, as their colours. -/
def idL : List Int := (List.range 512).map fun i : Nat => (i : Int)
theorem idL_length : idL.length = 512 := by simp [idL]
theorem nth_idL (k : Nat) (hk : k < 512) : nth 0 idL k = (k : Int) := by
  rw [nth_lt (by rw [idL_length]; exact hk)]; simp [idL]
def idV (k : Nat) : VceV := ⟨0, 0, tableN 512 idL k⟩
theorem idV_len (k : Nat) : (idV k).Len := tableN_length 512 idL k
theorem idV_zero : idV 0 = VceV.zero := by unfold idV VceV.zero; rw [tableN_zero]
theorem idV_colour (z : Int) (hz : 0 ≤ z ∧ z < 512) : (idV 512).colour z = z := by
  unfold VceV.colour
  have e : (z % 512).toNat < 512 := by omega
  have e2 : nth 0 (idV 512).table (z % 512).toNat = z := by
    show nth 0 (tableN 512 idL 512) _ = z
    rw [nth_tableN 512 idL 512 _ e, if_pos e, nth_idL _ e]; omega
  rw [e2, if_pos (show bitI (idV 512).control 7 = 0 from rfl)]
  omega
theorem exit_id {K : Act → World → Prop} {Q : Exit → Act → World → Prop} {e : Exit} {a : Act} {w : World} (h : Exit.then K Q e a w) : Exit.then K Q e a w := h
def plainR (z : Int) (M : Int) : RegsV := ⟨0, ((zeros 20).set 5 z).set 9 (M % 256)⟩
theorem plainR_len (z M : Int) : (plainR z M).Len := by unfold RegsV.Len plainR; simp [zeros_length]
theorem plainR_5 (z M : Int) : (plainR z M).reg 5 = z := by
  show nth 0 (((zeros 20).set 5 z).set 9 (M % 256)) 5 = z
  rw [nth_set_ne (by decide), nth_set_eq (by rw [zeros_length]; decide)]
def plainU (z : Int) (s : SceneV) (t : List Int) : LnV := ⟨plainR z s.M, t, idV 512, s.X, s.Y, s.L % 256, 60⟩
theorem plainU_ok (z : Int) (s : SceneV) (t : List Int) (ht : t.length = 256) : (plainU z s t).Ok := ⟨plainR_len _ _, ht, idV_len _⟩
/-- The first line: what the two mix to. -/
theorem plain_draw (s : SceneV) (t : List Int) (V : VS) (hV : ∀ n, 0 ≤ V.word n ∧ V.word n < 65536) :
    (plainU 192 s t).draw V.word 60 = mixL (lineK V.word ⟨(plainR 192 s.M).wide, (plainR 192 s.M).high, s.X, s.Y⟩ 0 60) (sprLine V.word 60 t (s.L % 256)).1.cols (sprLine V.word 60 t (s.L % 256)).1.front 60 := by
  have h5 : (plainU 192 s t).r.reg 5 = 192 := plainR_5 192 s.M
  have e1 : (plainU 192 s t).back V.word 60 = lineK V.word ⟨(plainR 192 s.M).wide, (plainR 192 s.M).high, s.X, s.Y⟩ 0 60 := by
    unfold LnV.back; rw [h5, if_pos (show bitI 192 7 = 1 by rfl)]; rfl
  have e2 : (plainU 192 s t).spr V.word 60 = sprLine V.word 60 t (s.L % 256) := by
    unfold LnV.spr; rw [h5, if_pos (show bitI 192 6 = 1 by rfl)]; rfl
  have em : (plainU 192 s t).mix V.word 60 = mixL (lineK V.word ⟨(plainR 192 s.M).wide, (plainR 192 s.M).high, s.X, s.Y⟩ 0 60) (sprLine V.word 60 t (s.L % 256)).1.cols (sprLine V.word 60 t (s.L % 256)).1.front 60 := by
    unfold LnV.mix; rw [e1, e2]
  unfold LnV.draw
  rw [← em]
  have hl := LnV.mix_length (plainU 192 s t) V.word 60
  refine nth_ext 0 (by rw [List.length_map]) fun i hi => ?_
  rw [List.length_map, hl] at hi
  have hr := LnV.mix_range (plainU 192 s t) V hV 60 i hi
  rw [nth_lt (by rw [List.length_map, hl]; exact hi), List.getElem_map, ← nth_lt (d := (0 : Int)) (by rw [hl]; exact hi)]
  exact idV_colour _ hr
theorem plain_spr (s : SceneV) (t : List Int) (f : Int → Int) : (plainU 192 s t).spr f 60 = sprLine f 60 t (s.L % 256) := by
  unfold LnV.spr; rw [show (plainU 192 s t).r.reg 5 = 192 from plainR_5 192 s.M, if_pos (show bitI 192 6 = 1 by rfl)]; rfl
/-- The second: dark. -/
theorem dark_spr (s : SceneV) (t : List Int) (f : Int → Int) : (plainU 63 s t).spr f 60 = (⟨[], [], [], false⟩, false) := by
  unfold LnV.spr; rw [show (plainU 63 s t).r.reg 5 = 63 from plainR_5 63 s.M, if_neg (show ¬ bitI 63 6 = 1 by decide)]
theorem dark_draw (s : SceneV) (t : List Int) (f : Int → Int) (i : Nat) (hi : i < 60) : nth 0 ((plainU 63 s t).draw f 60) i = 0 := by
  have e1 : (plainU 63 s t).back f 60 = List.replicate 60 0 := by unfold LnV.back; rw [show (plainU 63 s t).r.reg 5 = 63 from plainR_5 63 s.M, if_neg (show ¬ bitI 63 7 = 1 by decide)]
  have hz : nth (0 : Int) (List.replicate 60 0) i = 0 := nth_zeros 60 i
  unfold LnV.draw LnV.mix
  rw [e1, dark_spr]
  unfold mixL
  rw [nth_lt (by simpa using hi)]
  simp only [List.getElem_map, List.getElem_range]
  rw [hz]
  have : mixAt [] [] i 0 = 0 := by unfold mixAt; simp
  rw [this]
  exact idV_colour 0 (by decide)
theorem zeroInV : ∀ w : World, (zeroValue 103).run Try.prog w = .ok (.agg (LnV.zero.cells (.pointer none)).toArray) w := by
  obtain ⟨i, hi, hz⟩ := zeroIn
  intro w; simp [zeroValue, typeInfo, hi, hz]
theorem LnV.one {u : LnV} {pv : Value} (h : pv.oneCell' = true) : (u.cells pv).toArray.all (·.oneCell') = true := all_oneCell_toArray fun x hx => by
  unfold LnV.cells LnV.base RegsV.cells VceV.cells intsC at hx
  simp only [List.mem_append, List.mem_cons, List.mem_map, List.not_mem_nil, or_false] at hx
  rcases hx with rfl | (rfl | ⟨_, _, rfl⟩) | ⟨_, _, rfl⟩ | ((rfl | rfl) | ⟨_, _, rfl⟩) | rfl | rfl | rfl | rfl <;> first | exact h | rfl
theorem LnV.cells_length {u : LnV} (h : u.Ok) (pv : Value) : (u.cells pv).toArray.size = 796 := by
  have := LnV.base_length h
  simp [LnV.cells, this]
theorem plain_dark (s : SceneV) (t : List Int) (ht : t.length = 256) (pv : Value) : ((plainU 192 s t).cells pv).toArray.setIfInBounds 7 (.int .i64 63) = ((plainU 63 s t).cells pv).toArray := by
  rw [List.setIfInBounds_toArray]
  congr 1
theorem idV_set (k : Nat) (hk : k < 512) : (idV k).cells.toArray.setIfInBounds (2 + k) (.int .i64 k) = (idV (k + 1)).cells.toArray := by
  have := VceV.set_cells 0 0 (tableN 512 idL k) k k
  have e := tableN_set 512 idL k
  rw [nth_idL k hk] at e
  rw [e] at this
  exact this

set_option maxHeartbeats 8000000 in
theorem linePlain_walk (s : SceneV) (w : World) (h : s.At w) : Calls Try.prog 23 #[.agg s.cells] w fun e w' => e = .returned (.bool true) ∧ Below w.heap.size w w' := by
  have HZ := Lib.hid zero256
  have HZ12 := Lib.hid zeroVce12
  have HZR := Lib.hid zeroRegs
  have HBR := Lib.hid buildRegs
  have B := (Below.refl w.heap.size w).alloc (Nat.le_refl _) (Obj.cells s.cells 92)
  have A := Blk.new w s.cells 92
  have hP := h.p.below B
  have hT := h.t.below B
  have hC := h.c.below B
  generalize hsc : s.cells = sc at *
  have hrd : ∀ wq, Blk wq w.heap.size sc 92 → _ := fun wq hq => SceneV.reads (s := s) (by rw [hsc]; exact hq)
  have HRD := Lib.hid hrd
  clear hrd hsc
  go_enter Try.func23, Try.ntmps23
  go_upto_region 1 with (fail)
  generalize hw1 : w.alloc (Obj.cells sc 92) = w1 at *
  clear hw1
  obtain ⟨k0, k1, k2, k3, k4, k5, k6, k7, k8⟩ := HRD.out w1 A
  clear k1 k2 k3 k4 k5 k6 k7 k8
  go_wp2_with fail
  refine (law17_Made s.a1 s.c1 s.xs hP h.i h.m1).mono ?_; rintro e w2 ⟨p, g, q, hh, rfl, T⟩
  clear k0 hP
  have b2 := T.below
  replace A := Blk.below A b2
  replace hT := hT.below b2
  replace hC := hC.below b2
  have s1 := B.size
  replace B := B.trans (b2.mono s1)
  have hx := T.x
  have hy := T.y
  clear b2 T
  obtain ⟨k0, k1, k2, k3, k4, k5, k6, k7, k8⟩ := HRD.out w2 A
  clear k0 k2 k3 k4 k5 k6 k7 k8
  go_wp2_with fail
  refine (law18_Table s.a2 s.c2 s.ts w2 h.m2 hT).mono ?_; rintro e w3 ⟨rfl, b3⟩
  replace A := Blk.below A b3
  replace hC := hC.below b3
  have s1 := B.size
  replace B := B.trans (b3.mono s1)
  replace hx := hx.below b3
  replace hy := hy.below b3
  have htl := table_length s.ts (min s.ts.length 256)
  have hti : ∀ i, I64 (nth 0 (table s.ts (min s.ts.length 256)) i) := fun i => table_in s.ts h.ti _ (by omega) i
  generalize table s.ts (min s.ts.length 256) = t at *
  clear b3 hT k1
  have Z := Blk.new w3 (cellsI (zeros 256)) 37
  have hz := HZ.out
  have hsz1 : (Try.prog.info? 37).map (·.size) = some (cellsI t).size := by rw [cellsI_size, htl]; exact size256
  have hsz2 : (cellsI (zeros 256)).size = (cellsI t).size := by rw [cellsI_size, cellsI_size, htl, zeros_length]
  have HT1 := Lib.hid hsz1
  have HT2 := Lib.hid hsz2
  clear hsz1 hsz2
  go_upto_region 3 with (refine wpList_store_row rfl 37 _ _ rfl w3.heap.size (cellsI t) rfl rfl 37 (cellsI (zeros 256)) Z HT1.out HT2.out (cellsI_one _) ?_)
  clear hz
  have A5 : BlkL (Value.int .i64) _ w3.heap.size t _ := Blk.setRow Z (cellsI t)
  have b4 : Below w3.heap.size w3 ((w3.alloc (Obj.cells (cellsI (zeros 256)) 37)).setRow w3.heap.size (cellsI t)) := below_setRow ((Below.refl _ _).alloc (Nat.le_refl _) _) (Nat.le_refl _) _
  have lA := Blk.lt A
  replace A := Blk.below A b4
  replace hC := hC.below b4
  have s1 := B.size
  replace B := B.trans (b4.mono s1)
  replace hx := hx.below b4
  replace hy := hy.below b4
  generalize hg5 : w3.heap.size = g5 at *
  generalize (w3.alloc (Obj.cells (cellsI (zeros 256)) 37)).setRow g5 (cellsI t) = w4 at *
  clear b4 Z hg5
  clear hC HBR HT2 hy
  have HBR := Lib.hid buildRegs
  have HBV := Lib.hid buildVce
  obtain ⟨zv, hzv⟩ : ∃ zv, zv = VceV.zero.cells.toArray := ⟨_, rfl⟩
  have l0 : VceV.zero.cells.toArray.size = 514 := by simpa using VceV.length VceV.zero_len
  have Z := Blk.new w4 zv 95
  have hz := HZ12.out
  have hbv := HBV.out
  rw [← hzv] at hz hbv l0
  have hsz1 : (Try.prog.info? 95).map (·.size) = some zv.size := by rw [l0]; exact tVce12
  have hone : zv.all (·.oneCell') = true := by rw [hzv]; exact VceV.one
  have HV1 := Lib.hid hsz1
  have HO := Lib.hid hone
  have HZV := Lib.hid hzv
  clear hsz1 hone l0 hzv
  go_upto_region 4 with (refine wpList_store_row rfl 95 _ _ rfl w4.heap.size zv rfl rfl 95 zv Z HV1.out rfl HO.out ?_)
  clear hz hbv HZ12 HBV
  have A6 := Blk.setRow Z zv
  have b6 : Below w4.heap.size w4 ((w4.alloc (Obj.cells zv 95)).setRow w4.heap.size zv) := below_setRow ((Below.refl _ _).alloc (Nat.le_refl _) _) (Nat.le_refl _) _
  generalize (w4.alloc (Obj.cells zv 95)).setRow w4.heap.size zv = w6 at *
  rw [HZV.out, ← idV_zero] at A6
  clear HZV HV1 HO Z
  go_wp2_with fail
  go_loopw [7] (fun i wr => ∃ k : Nat, k ≤ 512 ∧ i = .int .i64 k ∧ Blk wr w4.heap.size (idV k).cells.toArray 95 ∧ Below w4.heap.size w4 wr) (fun i _ => 512 - (intOf i).toNat)
  case atStart => exact ⟨0, by omega, rfl, A6, b6⟩
  case round =>
    clear A6 b6
    obtain ⟨k, hk, rfl, A6, b6⟩ := hrel
    by_cases hlt : k < 512
    · have d1 : decide ((k : Int) < 512) = true := by simp; omega
      have i1 : (k : Int) < 512 := by omega
      have c1 := (VceV.reads (range_of_blk A6) (idV_len k)).2.2 k hlt
      rw [Nat.zero_add] at c1
      have f1 := Blk.free A6 (2 + k)
      have A7 := Blk.set A6 (i := 2 + k) (.int .i64 k)
      rw [idV_set k hlt] at A7
      have HA := Lib.hid A7
      clear A7 A6
      generalize (idV k).table = tb at *
      go_wp2
      go_roundw
      case rel => exact ⟨k + 1, by omega, by go_num, HA.out, b6.setCell (Nat.le_refl _) _⟩
      case measure => simp [intOf]; omega
    · obtain rfl : k = 512 := by omega
      have d1 : decide (((512 : Nat) : Int) < 512) = false := by decide
      replace A := Blk.below A b6
      replace A5 : BlkL (Value.int .i64) _ _ _ _ := Blk.below A5 b6
      have lA5 := Blk.lt A5
      have s1 := B.size
      replace B := B.trans (b6.mono s1)
      replace hx := hx.below b6
      have l6 := b6.size
      generalize hg6 : w4.heap.size = g6 at *
      clear b6 hg6
      have hzr := HZR.out
      have hbr := HBR.out
      have zl : RegsV.zero.cells.toArray.size = 21 := by simpa using RegsV.length (v := RegsV.zero) (zeros_length 20)
      have hzr1 : (Try.prog.info? 99).map (·.size) = some RegsV.zero.cells.toArray.size := by rw [zl]; exact tRegs
      have hzo := RegsV.one (v := RegsV.zero)
      have hzc : ∀ (w : World) (b : Nat) (ty : TypeId), Blk w b RegsV.zero.cells.toArray ty → Blk w b RegsV.zero.cells.toArray ty := fun _ _ _ h => h
      generalize hzz : RegsV.zero.cells.toArray = zr at *
      have HZ1 := Lib.hid hzr1
      have HZO := Lib.hid hzo
      have HZZ := Lib.hid hzz
      clear hzr1 hzo hzz zl hzc HZR HBR
      have Z := Blk.new wr zr 99
      go_upto_region 9 with (refine wpList_store_row rfl 99 _ _ rfl wr.heap.size zr rfl rfl 99 zr Z HZ1.out rfl HZO.out ?_)
      clear hzr hbr
      have A7 := Blk.setRow Z zr
      have b7 : Below wr.heap.size wr ((wr.alloc (Obj.cells zr 99)).setRow wr.heap.size zr) := below_setRow ((Below.refl _ _).alloc (Nat.le_refl _) _) (Nat.le_refl _) _
      have lA6 := Blk.lt A6
      have s6 := B.size
      generalize hw7 : (wr.alloc (Obj.cells zr 99)).setRow wr.heap.size zr = w7 at *
      clear Z hw7
      rw [← HZZ.out] at A7
      clear HZZ HZ1 HZO
      let D : Nat → World → Prop := fun m w' => Below wr.heap.size wr w' ∧ Blk w' wr.heap.size (if m = 0 then RegsV.zero else if m = 1 then ⟨0, (zeros 20).set 5 192⟩ else plainR 192 s.M).cells.toArray 99
      have hf : ∀ m wq, D m wq → wq.cell? ⟨w.heap.size, 3, none⟩ = some (.int .i64 s.C) ∧ wq.cell? ⟨w.heap.size, 4, none⟩ = some (.int .i64 s.M) ∧ (∃ z, wq.cell? ⟨wr.heap.size, 6, none⟩ = some z) ∧ (∃ z, wq.cell? ⟨wr.heap.size, 10, none⟩ = some z) ∧ wq.frozen? ⟨wr.heap.size, 6, none⟩ = false ∧ wq.frozen? ⟨wr.heap.size, 10, none⟩ = false := by
        intro m wq hq
        obtain ⟨k0, k1, k2, k3, k4, k5, k6, k7, k8⟩ := HRD.out wq (Blk.below A hq.1)
        have hr : ∃ r : RegsV, r.Len ∧ Blk wq wr.heap.size r.cells.toArray 99 := ⟨_, by
          split
          · exact zeros_length 20
          · split
            · unfold RegsV.Len; simp [zeros_length]
            · exact plainR_len 192 s.M, hq.2⟩
        obtain ⟨r, hl, hb⟩ := hr
        have hr := (RegsV.reads (range_of_blk hb) hl).2
        exact ⟨k3, k4, ⟨_, hr 5 (by decide)⟩, ⟨_, hr 9 (by decide)⟩, Blk.free hb _, Blk.free hb _⟩
      have FA := Lib.hid hf
      have e0 : D 0 w7.drew := ⟨below_drewN b7 1, A7⟩
      have e1 : ∀ wq, D 0 wq → D 1 (wq.setCell ⟨wr.heap.size, 6, none⟩ (.int .i64 192)) := fun wq hq => ⟨hq.1.setCell (Nat.le_refl _) _, by
        have := Blk.set (i := 1 + 5) hq.2 (.int .i64 192)
        rw [RegsV.set_cells] at this
        exact this⟩
      have e2 : ∀ wq, D 1 wq → D 2 (wq.setCell ⟨wr.heap.size, 10, none⟩ (.int .i64 (s.M % 256))) := fun wq hq => ⟨hq.1.setCell (Nat.le_refl _) _, by
        have := Blk.set (i := 1 + 9) hq.2 (.int .i64 (s.M % 256))
        rw [RegsV.set_cells] at this
        exact this⟩
      have e3 : ∀ wq, D 2 wq → Below wr.heap.size wr wq ∧ Blk wq wr.heap.size (plainR 192 s.M).cells.toArray 99 := fun wq hq => hq
      have E1 := Lib.hid e1
      have E2 := Lib.hid e2
      have hm2 := and_255 s.M
      clear hf e1 e2 A7 b7
      clear_value D
      refine wp_region_n [5, 8] D (by kernel_rfl) (by kernel_rfl) (by kernel_rfl) (by kernel_rfl) e0 ?_
      clear e0
      iterate 5
        (refine wpN_other rfl (by decide) (fun K hK => ?_)
         apply Exists.intro
         refine ⟨fun m wq hm hq => ?_, hK _ ?_⟩
         · obtain ⟨r1, r2, ⟨z3, r3⟩, ⟨z4, r4⟩, f1, f2⟩ := FA.out m wq hq
           go_simp
           first | exact rfl | exact ⟨hq, rfl⟩ | exact ⟨rfl, rfl⟩
         clear hK K
         simp only [Act.put, List.setIfInBounds_toArray, List.set_cons_zero, List.set_cons_succ])
      refine wpN_turn 0 rfl (by decide) rfl (by kernel_rfl) ⟨undef, fun wq hq => ?_, ?_⟩
      · obtain ⟨r1, r2, ⟨z3, r3⟩, ⟨z4, r4⟩, f1, f2⟩ := FA.out 0 wq hq
        go_simp
        exact E1.out wq hq
      simp only [Act.put, List.setIfInBounds_toArray, List.set_cons_zero, List.set_cons_succ]
      iterate 2
        (refine wpN_other rfl (by decide) (fun K hK => ?_)
         apply Exists.intro
         refine ⟨fun m wq hm hq => ?_, hK _ ?_⟩
         · obtain ⟨r1, r2, ⟨z3, r3⟩, ⟨z4, r4⟩, f1, f2⟩ := FA.out m wq hq
           go_simp
           first | exact rfl | exact ⟨hq, rfl⟩ | exact ⟨rfl, rfl⟩
         clear hK K
         simp only [Act.put, List.setIfInBounds_toArray, List.set_cons_zero, List.set_cons_succ])
      refine wpN_turn 1 rfl (by decide) rfl (by kernel_rfl) ⟨undef, fun wq hq => ?_, ?_⟩
      · obtain ⟨r1, r2, ⟨z3, r3⟩, ⟨z4, r4⟩, f1, f2⟩ := FA.out 1 wq hq
        go_simp
        exact E2.out wq hq
      simp only [Act.put, List.setIfInBounds_toArray, List.set_cons_zero, List.set_cons_succ]
      intro w8 hw8
      obtain ⟨b8, A7⟩ := e3 w8 hw8
      clear FA E1 E2 hw8 e3 hm2
      have lx := hx.lt
      replace A := Blk.below A b8
      replace A5 : BlkL (Value.int .i64) _ _ _ _ := Blk.below A5 b8
      replace A6 := Blk.below A6 b8
      replace B := B.trans (b8.mono s6)
      replace hx := hx.below b8
      generalize hgR : wr.heap.size = gR at *
      clear b8 hgR
      have huo := plainU_ok 192 s t htl
      have hbin : ∀ w, (Instr.build 103 #[(0, .pointer (some ⟨p, 0, none⟩)), (1, .agg (plainR 192 s.M).cells.toArray), (2, .agg (intsC t).toArray), (3, .agg (idV 512).cells.toArray), (4, .int .i64 s.X), (5, .int .i64 s.Y), (6, .int .i64 (s.L % 256)), (7, .int .i64 60)]).run Try.prog w = .ok (.agg ((plainU 192 s t).cells (.pointer (some ⟨p, 0, none⟩))).toArray) w := build_In (plainU 192 s t) huo (.pointer (some ⟨p, 0, none⟩)) rfl
      have HB1 := Lib.hid hbin
      have hz1 : (Try.prog.info? 99).map (·.size) = some (plainR 192 s.M).cells.toArray.size := by
        have := RegsV.length (plainR_len 192 s.M)
        rw [tRegs]; simp [this]
      have hz3 : (Try.prog.info? 95).map (·.size) = some (idV 512).cells.toArray.size := by
        have := VceV.length (idV_len 512)
        rw [tVce]; simp [this]
      have A5' : Blk w8 g5 (intsC t).toArray 37 := A5
      have hz2 : (Try.prog.info? 37).map (·.size) = some (intsC t).toArray.size := HT1.out
      have hz4 : (Try.prog.info? 103).map (·.size) = some ((plainU 192 s t).cells (.pointer (some ⟨p, 0, none⟩))).toArray.size := by rw [LnV.cells_length huo, tIn]
      have hz5 : (LnV.zero.cells (.pointer none)).toArray.size = ((plainU 192 s t).cells (.pointer (some ⟨p, 0, none⟩))).toArray.size := by rw [LnV.cells_length huo, LnV.cells_length LnV.zero_ok]
      have hone := LnV.one (u := plainU 192 s t) (pv := .pointer (some ⟨p, 0, none⟩)) rfl
      obtain ⟨zi, hzi⟩ : ∃ zi, zi = (LnV.zero.cells (.pointer none)).toArray := ⟨_, rfl⟩
      have hzv := zeroInV
      rw [← hzi] at hz5 hzv
      have HR1 := Lib.hid hz1
      have HT3 := Lib.hid hz2
      have HV1 := Lib.hid hz3
      have HI1 := Lib.hid hz4
      have HI2 := Lib.hid hz5
      have HI3 := Lib.hid hone
      have HSL := Lib.hid (and_255 s.L)
      have hdr1 := fun (w0 : World) (hW : Words w0 (.pointer (some ⟨p, 0, none⟩)) (madeOf s.xs).word) => line_Draw hW (plainU 192 s t) huo 60 rfl (by decide) (by decide)
      rw [plain_spr] at hdr1
      have HD1 := Lib.hid hdr1
      have hdark := plain_dark s t htl (.pointer (some ⟨p, 0, none⟩))
      have HDK := Lib.hid hdark
      have hmap := fun w0 => regs_Map (plainR 192 s.M) (plainR_len 192 s.M) w0
      have HMP := Lib.hid hmap
      have hpd := plain_draw s t (madeOf s.xs) (fun m => hx.ok.word m)
      have HPD := Lib.hid hpd
      have hdr2 := fun (w0 : World) (hW : Words w0 (.pointer (some ⟨p, 0, none⟩)) (madeOf s.xs).word) => line_Draw hW (plainU 63 s t) (plainU_ok 63 s t htl) 60 rfl (by decide) (by decide)
      rw [dark_spr] at hdr2
      have HD2 := Lib.hid hdr2
      have hd0 := fun i hi => dark_draw s t (madeOf s.xs).word i hi
      have HD0 := Lib.hid hd0
      have HL2 := Lib.hid (LnV.draw_length (plainU 63 s t) (madeOf s.xs).word 60)
      have HLB := Lib.hid (lineK_length (madeOf s.xs).word ⟨(plainR 192 s.M).wide, (plainR 192 s.M).high, s.X, s.Y⟩ 0 60)
      clear A5 HT1 hz1 hz2 hz3 hz4 hz5 hone hbin hzi hdr1 hdark hmap hpd hdr2 hd0 huo
      generalize ((plainU 192 s t).cells (.pointer (some ⟨p, 0, none⟩))).toArray = uc at *
      generalize ((plainU 63 s t).cells (.pointer (some ⟨p, 0, none⟩))).toArray = uk at *
      generalize (plainR 192 s.M).cells.toArray = rc at *
      generalize (idV 512).cells.toArray = vcs at *
      generalize (plainU 192 s t).draw (madeOf s.xs).word 60 = L1 at *
      generalize (plainU 63 s t).draw (madeOf s.xs).word 60 = L2 at *
      generalize (plainR 192 s.M).wide = wd at *
      generalize (plainR 192 s.M).high = hg at *
      obtain ⟨k0, k1, k2, k3, k4, k5, k6, k7, k8⟩ := HRD.out w8 A
      clear k0 k1 k2 k3 k4 k8
      have Z := Blk.new w8 zi 103
      have hsl := HSL.out
      go_upto_region 10 with (fail)
      go_cut [9] (fun v wx => ∃ g9, v = .pointer (some ⟨g9, 0, none⟩) ∧ p < g9 ∧ g < g9 ∧ gR < g9 ∧ w.heap.size < g9 ∧ Blk wx g9 uc 103 ∧ Blk wx w.heap.size sc 92 ∧ Blk wx g5 (intsC t).toArray 37 ∧ Blk wx gR rc 99 ∧ VAt 69 wx p g (madeOf s.xs) ∧ Below w.heap.size w wx)
      case first =>
        go_wp2_with (first
          | (refine wpList_load_row rfl 99 _ rfl gR rfl 99 rc (0, 0) _ A7 Try.underlying99 rfl HR1.out ?_)
          | (refine wpList_load_row rfl 37 _ rfl g5 rfl 37 (intsC t).toArray (0, 0) _ A5' Try.underlying37 rfl HT3.out ?_)
          | (refine wpList_load_row rfl 95 _ rfl g6 rfl 95 vcs (0, 0) _ A6 Try.underlying95 rfl HV1.out ?_)
          | (refine wpList_built rfl 103 _ rfl (HB1.out _) (by kernel_rfl) ?_)
          | (refine wpList_store_row rfl 103 _ _ rfl w8.heap.size uc rfl rfl 103 zi Z HI1.out HI2.out HI3.out ?_))
        go_meet
        have b9 : Below w8.heap.size w8 ((w8.alloc (Obj.cells zi 103)).setRow w8.heap.size uc) := below_setRow ((Below.refl _ _).alloc (Nat.le_refl _) _) (Nat.le_refl _) _
        have lR := Blk.lt A7
        have lS := Blk.lt A
        have lx9 := hx.lt
        exact ⟨w8.heap.size, rfl, lx9.1, lx9.2, lR, lS, Blk.setRow Z uc, Blk.below A b9, Blk.below A5' b9, Blk.below A7 b9, hx.below b9, B.trans (b9.mono B.size)⟩
      case rest =>
        clear A A5' A6 A7 hx B Z HV1 HB1 HI2 hzv HI3 k5 k6 k7
        obtain ⟨g9, rfl, lx1, lx2, lR, lS, Z9, A, A5', A7, hx, B⟩ := hcut
        generalize wc = w9 at *
        go_wp2_with (refine wpList_load_row rfl 103 _ rfl g9 rfl 103 uc (0, 0) _ Z9 Try.underlying103 rfl HI1.out ?_)
        refine (HD1.out _ hx.toWords).mono ?_; rintro e w10 ⟨gd, cap, rfl, H1, _, _, _, b10⟩
        have S1 := H1.sl
        have hL1 : L1.length = 60 := by rw [HPD.out, mixL_length]
        replace A := Blk.below A b10
        replace A5' := Blk.below A5' b10
        replace A7 := Blk.below A7 b10
        replace Z9 := Blk.below Z9 b10
        have s9 := B.size
        replace B := B.trans (b10.mono s9)
        replace hx := hx.below b10
        clear b10 H1 HD1
        go_wp2_with (refine wpList_load_row rfl 99 _ rfl gR rfl 99 rc (0, 0) _ A7 Try.underlying99 rfl HR1.out ?_)
        refine (HMP.out _).mono ?_; rintro e w11 ⟨rfl, b11⟩
        replace A := Blk.below A b11
        replace A5' := Blk.below A5' b11
        replace Z9 := Blk.below Z9 b11
        replace S1 := S1.below b11
        have s9 := B.size
        replace B := B.trans (b11.mono s9)
        replace hx := hx.below b11
        clear b11 A7 HMP
        obtain ⟨k0, k1, k2, k3, k4, k5, k6, k7, k8⟩ := HRD.out w11 A
        clear k0 k1 k2 k3 k4 k7 k8
        go_wp2_with fail
        have hL := tiles_Line hx.toWords ⟨wd, hg, s.X, s.Y⟩ 0 60 (by decide) (by decide)
        unfold ViewV.val ViewV.cells at hL
        refine hL.mono ?_; rintro e w12 ⟨rfl, G1, b12⟩
        clear hL k5 k6
        replace A := Blk.below A b12
        replace A5' := Blk.below A5' b12
        replace Z9 := Blk.below Z9 b12
        replace S1 := S1.below b12
        have s9 := B.size
        replace B := B.trans (b12.mono s9)
        replace hx := hx.below b12
        generalize w11.heap.size + 1 = gL at *
        clear b12
        obtain ⟨k0, k1, k2, k3, k4, k5, k6, k7, k8⟩ := HRD.out w12 A
        clear k0 k1 k2 k3 k4 k5 k6 k8 A HRD
        have hsl := HSL.out
        go_wp2_with (refine wpList_load_row rfl 37 _ rfl g5 rfl 37 (intsC t).toArray (0, 0) _ A5' Try.underlying37 rfl HT3.out ?_)
        have hL := sprites_Line hx.toWords t htl (s.L % 256) 60 (by decide) (by decide)
        rw [aggI_of] at hL
        refine hL.mono ?_; rintro e w13 ⟨gc, gf, rfl, hc, hf, lc, lf, b13⟩
        clear hL k7 hsl HSL
        have hk := sprLine_ok (madeOf s.xs).word 60 t (s.L % 256)
        replace Z9 := Blk.below Z9 b13
        replace S1 := S1.below b13
        replace G1 : BlkL (Value.int .i64) _ _ _ _ := Blk.below G1 b13
        have s9 := B.size
        replace B := B.trans (b13.mono s9)
        have l13 := Blk.lt Z9
        replace hx := hx.below b13
        generalize sprLine (madeOf s.xs).word 60 t (s.L % 256) = sp at *
        generalize lineK (madeOf s.xs).word ⟨wd, hg, s.X, s.Y⟩ 0 60 = bk at *
        go_upto_region 15 with (fail)
        have b14 : Below w13.heap.size w13 (w13.alloc (Obj.cells #[Value.slice (some ⟨gc, 0, none⟩) 60 60, Value.slice (some ⟨gf, 0, none⟩) 60 60] 80)) := (Below.refl _ _).alloc (Nat.le_refl _) _
        have P8 := Blk.new w13 #[Value.slice (some ⟨gc, 0, none⟩) 60 60, Value.slice (some ⟨gf, 0, none⟩) 60 60] 80
        replace Z9 := Blk.below Z9 b14
        replace S1 := S1.below b14
        replace G1 : BlkL (Value.int .i64) _ _ _ _ := Blk.below G1 b14
        replace hc : BlkL (Value.int .i64) _ _ _ _ := Blk.below hc b14
        replace hf : BlkL Value.bool _ _ _ _ := Blk.below hf b14
        have s9 := B.size
        replace B := B.trans (b14.mono s9)
        replace hx := hx.below b14
        generalize hg8 : w13.heap.size = g8 at *
        generalize w13.alloc (Obj.cells #[Value.slice (some ⟨gc, 0, none⟩) 60 60, Value.slice (some ⟨gf, 0, none⟩) 60 60] 80) = w14 at *
        clear b14
        have q0 := Blk.cell P8 0
        have q1 := Blk.cell P8 1
        simp only [List.getElem?_toArray, List.getElem?_cons_zero, List.getElem?_cons_succ] at q0 q1
        have hlb : bk.length = 60 := by rw [HLB.out]
        have hM := line_Mix (some ⟨gL, 0, none⟩) (some ⟨gc, 0, none⟩) (some ⟨gf, 0, none⟩) 60 60 60 bk sp.1.cols sp.1.front w14 (by omega) (by rw [hk.cols]; unfold maxLen; omega) (by rw [hk.front]; unfold maxLen; omega) (SlAt.of_blkL G1) (SlAt.of_blkL hc) (SlAt.of_blkL hf)
        rw [hlb, hk.cols, hk.front] at hM
        go_wp2_with fail
        refine hM.mono ?_; rintro e w15 ⟨v, rfl, ho, b15⟩
        rw [← HPD.out] at ho
        obtain ⟨am, cm, rfl, _, _, Sm⟩ := Own.sl (d := 0) ho
        replace Z9 := Blk.below Z9 b15
        replace S1 := S1.below b15
        have s9 := B.size
        replace B := B.trans (b15.mono s9)
        replace hx := hx.below b15
        clear hM b15 ho q0 q1 P8 G1 hc hf
        have hint := law19_ints (some ⟨gd, 0, none⟩) am cap cm L1 L1 w15 (by rw [hL1]; unfold maxLen; omega) (by rw [hL1]; unfold maxLen; omega) S1 Sm
        rw [hL1, show decide (L1 = L1) = true by simp] at hint
        rw [hL1]
        go_wp2_with fail
        refine hint.mono ?_; rintro e w16 ⟨rfl, n16, rfl⟩
        have hZ : Blk (w15.drewN n16) g9 uc 103 := Z9
        have hB : Below w.heap.size w (w15.drewN n16) := below_drewN B n16
        have hX : VAt 69 (w15.drewN n16) p g (madeOf s.xs) := hx.below (below_drewN (Below.refl _ _) n16)
        generalize w15.drewN n16 = w16 at *
        have hus : uc.size = 796 := by
          have := HI1.out
          rw [tIn] at this
          exact (Option.some.inj this).symm
        obtain ⟨z7, hz7⟩ : ∃ z, uc[7]? = some z := ⟨_, Array.getElem?_eq_getElem (by omega)⟩
        have c7 := (Blk.cell hZ 7).trans hz7
        have f7 := Blk.free hZ 7
        clear hint S1 Sm Z9 B hx hus hz7
        generalize sp.2 = o1 at *
        generalize sp.1.hit = o2 at *
        go_upto_region 18 with (fail)
        have Zk := Blk.set (i := 7) hZ (.int .i64 63)
        have hks : uk.size = uc.size := by rw [← HDK.out]; simp
        rw [HDK.out] at Zk
        have hWk : Words (w16.setCell ⟨g9, 7, none⟩ (.int .i64 63)) (.pointer (some ⟨p, 0, none⟩)) (madeOf s.xs).word := by
          exact (hX.tr ((Tr.refl [g9] w16).setCell (b := g9) 7 (by simp) (.int .i64 63)) (by simp; omega) (by simp; omega)).toWords
        have hBk := hB.setCell (p := ⟨g9, 7, none⟩) (by show w.heap.size ≤ g9; omega) (.int .i64 63)
        have hki := HI1.out
        rw [← hks] at hki
        have HK1 := Lib.hid hki
        clear hki c7 f7 hZ hB
        generalize w16.setCell ⟨g9, 7, none⟩ (.int .i64 63) = w17 at *
        go_wp2_with (refine wpList_load_row rfl 103 _ rfl g9 rfl 103 uk (0, 0) _ Zk Try.underlying103 rfl HK1.out ?_)
        refine (HD2.out _ hWk).mono ?_; rintro e w18 ⟨gk, cap2, rfl, H2, _, _, _, b18⟩
        have s9 := hBk.size
        replace hBk := hBk.trans (b18.mono s9)
        have hl2 : L2.length = 60 := HL2.out
        clear b18
        go_wp2_with fail
        go_loopw [22] (fun i wr => ∃ k : Nat, k ≤ 60 ∧ i = .int .i64 k ∧ HeadL wr gk L2 ∧ Below w.heap.size w wr) (fun i _ => 60 - (intOf i).toNat)
        case atStart => exact ⟨0, by omega, rfl, H2, hBk⟩
        case round =>
          clear H2 hBk
          obtain ⟨k, hk6, rfl, H2, hBk⟩ := hrel
          by_cases hlt : k < 60
          · have d1 : decide ((k : Int) < 60) = true := by simp; omega
            have i1 : (k : Int) < 60 := by omega
            have c1 := H2.cell (i := k) (by omega)
            rw [HD0.out k hlt] at c1
            go_wp2
            go_roundw
            case rel => exact ⟨k + 1, by omega, by go_num, H2, hBk⟩
            case measure => simp [intOf]; omega
          · obtain rfl : k = 60 := by omega
            have d1 : decide (((60 : Nat) : Int) < 60) = false := by decide
            go_wp2
            go_ret
            exact ⟨rfl, hBk⟩
end Go.Proofs.Ytlhnfllfankjhaa
