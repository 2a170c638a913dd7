/- The law LineDraws, walked. -/
import Derived.Test.YtlhnfllfankjhaaLnR
import Derived.Test.YtlhnfllfankjhaaMade
import Derived.Test.YtlhnfllfankjhaaLnQ
namespace Go.Proofs.Ytlhnfllfankjhaa
open Go Go.RowKit
set_option linter.unusedSimpArgs false
set_option linter.unusedVariables false
set_option maxRecDepth 100000

/-- What a scene is set up from. -/
structure SceneV where
  a1 : Option Addr
  c1 : Nat
  xs : List PokeV
  a2 : Option Addr
  c2 : Nat
  ts : List Int
  a3 : Option Addr
  c3 : Nat
  cs : List Int
  C : Int
  M : Int
  X : Int
  Y : Int
  L : Int
  N : Int
def SceneV.cells (s : SceneV) : Array Value := #[.slice s.a1 s.xs.length s.c1, .slice s.a2 s.ts.length s.c2, .slice s.a3 s.cs.length s.c3, .int .i64 s.C, .int .i64 s.M, .int .i64 s.X, .int .i64 s.Y, .int .i64 s.L, .int .i64 s.N]
structure SceneV.At (s : SceneV) (w : World) : Prop where
  p : PokesAt w s.a1 s.xs
  i : ∀ x ∈ s.xs, x.In
  m1 : s.xs.length ≤ maxLen
  t : SlAt (Value.int .i64) 0 w s.a2 s.ts
  m2 : s.ts.length ≤ maxLen
  ti : ∀ z ∈ s.ts, I64 z
  c : SlAt (Value.int .i64) 0 w s.a3 s.cs
  m3 : s.cs.length ≤ maxLen
  ci : ∀ z ∈ s.cs, I64 z
  C : I64 s.C
  M : I64 s.M
  X : I64 s.X
  Y : I64 s.Y
  L : I64 s.L
  N : I64 s.N
theorem SceneV.reads {s : SceneV} {w : World} {b : Nat} {t : TypeId} (h : Blk w b s.cells t) : w.cell? ⟨b, 0, none⟩ = some (.slice s.a1 s.xs.length s.c1) ∧ w.cell? ⟨b, 1, none⟩ = some (.slice s.a2 s.ts.length s.c2) ∧ w.cell? ⟨b, 2, none⟩ = some (.slice s.a3 s.cs.length s.c3) ∧
    w.cell? ⟨b, 3, none⟩ = some (.int .i64 s.C) ∧ w.cell? ⟨b, 4, none⟩ = some (.int .i64 s.M) ∧ w.cell? ⟨b, 5, none⟩ = some (.int .i64 s.X) ∧ w.cell? ⟨b, 6, none⟩ = some (.int .i64 s.Y) ∧ w.cell? ⟨b, 7, none⟩ = some (.int .i64 s.L) ∧ w.cell? ⟨b, 8, none⟩ = some (.int .i64 s.N) :=
  ⟨Blk.cell h 0, Blk.cell h 1, Blk.cell h 2, Blk.cell h 3, Blk.cell h 4, Blk.cell h 5, Blk.cell h 6, Blk.cell h 7, Blk.cell h 8⟩
def SceneV.regs (s : SceneV) : RegsV := ⟨0, ((zeros 20).set 5 (s.C % 8192)).set 9 (s.M % 256)⟩
theorem SceneV.regs_len (s : SceneV) : s.regs.Len := by unfold RegsV.Len SceneV.regs; simp [zeros_length]
theorem zeroRegs : ∀ w : World, (zeroValue 99).run Try.prog w = .ok (.agg RegsV.zero.cells.toArray) w := by
  have h : (Try.prog.info? 99).map (·.zero) = some (some (.agg RegsV.zero.cells.toArray)) := by kernel_rfl
  obtain ⟨i, hi, hz⟩ := Option.map_eq_some_iff.1 h
  intro w; simp [zeroValue, typeInfo, hi, hz]
theorem buildRegs (w : World) : (Instr.build 99 #[]).run Try.prog w = .ok (.agg RegsV.zero.cells.toArray) w := by
  refine run_build w _ _ _ ?_
  have h : (Try.prog.info? 99).map (·.zero) = some (some (.agg RegsV.zero.cells.toArray)) := by kernel_rfl
  obtain ⟨it, hi, hz⟩ := Option.map_eq_some_iff.1 h
  rw [built_struct (places := [(0, 1), (1, 20)]) hi Try.underlying99 hz (by kernel_rfl)]
  rfl
theorem RegsV.one {v : RegsV} : v.cells.toArray.all (·.oneCell') = true := all_oneCell_toArray fun x hx => by
  simp only [RegsV.cells, intsC, List.mem_append, List.mem_cons, List.mem_map, List.not_mem_nil, or_false] at hx
  rcases hx with rfl | ⟨_, _, rfl⟩ <;> rfl
theorem RegsV.set_cells (v : RegsV) (i : Nat) (x : Int) : v.cells.toArray.setIfInBounds (1 + i) (.int .i64 x) = (RegsV.cells ⟨v.sel, v.R.set i x⟩).toArray := by
  rw [List.setIfInBounds_toArray]
  congr 1
  unfold RegsV.cells intsC
  rw [List.set_append_right _ _ (by simp), List.map_set]
  simp

theorem madeTo_in (xs : List Int) (h : ∀ z ∈ xs, I64 z) : ∀ k, k ≤ xs.length → ∀ i, I64 (nth 0 (madeTo xs k) i)
  | 0, _, i => by show I64 (nth 0 (zeros 512) i); rw [nth_zeros]; unfold I64; decide
  | k + 1, hk, i => by
    rw [madeTo]
    by_cases hi : k * 37 % 512 = i
    · subst hi
      rw [nth_set_eq (by rw [madeTo_length]; omega)]
      exact h _ (nth_mem (by omega))
    · rw [nth_set_ne hi]; exact madeTo_in xs h k (by omega) i
theorem madeVce_in (a b : Int) (xs : List Int) (h : ∀ z ∈ xs, I64 z) : ∀ i, I64 (nth 0 (madeVce a b xs).table i) := madeTo_in xs h _ (by omega)
theorem table_in (xs : List Int) (h : ∀ z ∈ xs, I64 z) (k : Nat) (hk : k ≤ xs.length) (i : Nat) : I64 (nth 0 (table xs k) i) := by
  by_cases hi : i < 256
  · rw [nth_table xs k i hi]
    split
    · exact h _ (nth_mem (by omega))
    · unfold I64; decide
  · rw [nth_ge (by rw [table_length]; omega)]; unfold I64; decide

/-- What a drawing answers. -/
def LnV.outL (u : LnV) (f : Int → Int) : List Int := if 1 ≤ u.n ∧ u.n ≤ 512 then u.draw f u.n.toNat else []
def LnV.outO (u : LnV) (f : Int → Int) : Bool := if 1 ≤ u.n ∧ u.n ≤ 512 then (u.spr f u.n.toNat).2 else false
def LnV.outH (u : LnV) (f : Int → Int) : Bool := if 1 ≤ u.n ∧ u.n ≤ 512 then (u.spr f u.n.toNat).1.hit else false
theorem LnV.outL_le (u : LnV) (f : Int → Int) : (u.outL f).length ≤ 512 := by
  unfold LnV.outL
  split
  · rw [LnV.draw_length]; omega
  · exact Nat.zero_le _
theorem line_Out {w : World} {pv : Value} {f : Int → Int} (hW : Words w pv f) (u : LnV) (hu : u.Ok) :
    Calls Try.prog 55 #[.agg (u.cells pv).toArray] w fun e w' => ∃ ad cap, e = .returned (.tuple #[.slice ad (u.outL f).length cap, .bool (u.outO f), .bool (u.outH f)]) ∧ SlAt (Value.int .i64) 0 w' ad (u.outL f) ∧ Below w.heap.size w w' := by
  by_cases hn : 1 ≤ u.n ∧ u.n ≤ 512
  · have e : u.n = (u.n.toNat : Int) := by omega
    refine (line_Draw hW u hu u.n.toNat e (by omega) (by omega)).mono ?_
    rintro e w' ⟨g, cap, rfl, H, _, _, _, hb⟩
    unfold LnV.outL LnV.outO LnV.outH
    rw [if_pos hn, if_pos hn, if_pos hn]
    refine ⟨some ⟨g, 0, none⟩, cap, ?_, H.sl, hb⟩
    rw [LnV.draw_length]
  · refine (line_Draw_no u hu (by omega)).mono ?_
    rintro e w' ⟨rfl, hb⟩
    unfold LnV.outL LnV.outO LnV.outH
    rw [if_neg hn, if_neg hn, if_neg hn]
    exact ⟨none, 0, rfl, SlAt.nil, hb⟩
theorem ref_Out {w : World} {p g : Nat} {V : VS} (hv : VAt 66 w p g V) (u : LnV) (hu : u.Ok) (hi : u.In) :
    Calls Try.prog 56 #[.pointer (some ⟨p, 0, none⟩), .agg u.base.toArray] w fun e w' => ∃ ad cap, e = .returned (.tuple #[.slice ad (u.outL V.word).length cap, .bool (u.outO V.word), .bool (u.outH V.word)]) ∧ SlAt (Value.int .i64) 0 w' ad (u.outL V.word) ∧ Below w.heap.size w w' := by
  by_cases hn : 1 ≤ u.n ∧ u.n ≤ 512
  · have e : u.n = (u.n.toNat : Int) := by omega
    refine (ref19_Draw hv u hu hi u.n.toNat e (by omega) (by omega)).mono ?_
    rintro e w' ⟨g, cap, rfl, H, _, _, _, hb⟩
    unfold LnV.outL LnV.outO LnV.outH
    rw [if_pos hn, if_pos hn, if_pos hn]
    refine ⟨some ⟨g, 0, none⟩, cap, ?_, H.sl, hb⟩
    rw [LnV.draw_length]
  · refine (ref19_Draw_no u hu (by omega)).mono ?_
    rintro e w' ⟨rfl, hb⟩
    unfold LnV.outL LnV.outO LnV.outH
    rw [if_neg hn, if_neg hn, if_neg hn]
    exact ⟨none, 0, rfl, SlAt.nil, hb⟩

theorem SceneV.regs_in (s : SceneV) (j : Nat) : I64 (s.regs.reg j) := by
  show I64 (nth 0 (((zeros 20).set 5 (s.C % 8192)).set 9 (s.M % 256)) j)
  by_cases h9 : 9 = j
  · subst h9; rw [nth_set_eq (by simp [zeros_length])]; unfold I64; omega
  · rw [nth_set_ne h9]
    by_cases h5 : 5 = j
    · subst h5; rw [nth_set_eq (by simp [zeros_length])]; unfold I64; omega
    · rw [nth_set_ne h5, nth_zeros]; unfold I64; decide

set_option maxHeartbeats 4000000 in
theorem lineDraws_walk (s : SceneV) (w : World) (h : s.At w) : Calls Try.prog 22 #[.agg s.cells] w fun e w' => e = .returned (.bool true) ∧ Below w.heap.size w w' := by
  have HZ := Lib.hid zero256
  have HZ12 := Lib.hid zeroVce12
  have HZR := Lib.hid zeroRegs
  have HBR := Lib.hid buildRegs
  have B := (Below.refl w.heap.size w).alloc (Nat.le_refl _) (Obj.cells s.cells 92)
  have A := Blk.new w s.cells 92
  have hP := h.p.below B
  have hT := h.t.below B
  have hC := h.c.below B
  generalize hsc : s.cells = sc at *
  have hrd : ∀ wq, Blk wq w.heap.size sc 92 → _ := fun wq hq => SceneV.reads (s := s) (by rw [hsc]; exact hq)
  have HRD := Lib.hid hrd
  clear hrd hsc
  go_enter Try.func22, Try.ntmps22
  go_upto_region 1 with (fail)
  generalize hw1 : w.alloc (Obj.cells sc 92) = w1 at *
  clear hw1
  obtain ⟨k0, k1, k2, k3, k4, k5, k6, k7, k8⟩ := HRD.out w1 A
  clear k1 k2 k3 k4 k5 k6 k7 k8
  go_wp2_with fail
  refine (law17_Made s.a1 s.c1 s.xs hP h.i h.m1).mono ?_; rintro e w2 ⟨p, g, q, hh, rfl, T⟩
  clear k0 hP
  have b2 := T.below
  replace A := Blk.below A b2
  replace hT := hT.below b2
  replace hC := hC.below b2
  have s1 := B.size
  replace B := B.trans (b2.mono s1)
  have hx := T.x
  have hy := T.y
  clear b2 T
  obtain ⟨k0, k1, k2, k3, k4, k5, k6, k7, k8⟩ := HRD.out w2 A
  clear k0 k2 k3 k4 k5 k6 k7 k8
  go_wp2_with fail
  refine (law18_Table s.a2 s.c2 s.ts w2 h.m2 hT).mono ?_; rintro e w3 ⟨rfl, b3⟩
  replace A := Blk.below A b3
  replace hC := hC.below b3
  have s1 := B.size
  replace B := B.trans (b3.mono s1)
  replace hx := hx.below b3
  replace hy := hy.below b3
  have htl := table_length s.ts (min s.ts.length 256)
  have hti : ∀ i, I64 (nth 0 (table s.ts (min s.ts.length 256)) i) := fun i => table_in s.ts h.ti _ (by omega) i
  generalize table s.ts (min s.ts.length 256) = t at *
  clear b3 hT k1
  have Z := Blk.new w3 (cellsI (zeros 256)) 37
  have hz := HZ.out
  have hsz1 : (Try.prog.info? 37).map (·.size) = some (cellsI t).size := by rw [cellsI_size, htl]; exact size256
  have hsz2 : (cellsI (zeros 256)).size = (cellsI t).size := by rw [cellsI_size, cellsI_size, htl, zeros_length]
  have HT1 := Lib.hid hsz1
  have HT2 := Lib.hid hsz2
  clear hsz1 hsz2
  go_upto_region 3 with (refine wpList_store_row rfl 37 _ _ rfl w3.heap.size (cellsI t) rfl rfl 37 (cellsI (zeros 256)) Z HT1.out HT2.out (cellsI_one _) ?_)
  clear hz
  have A5 : BlkL (Value.int .i64) _ w3.heap.size t _ := Blk.setRow Z (cellsI t)
  have b4 : Below w3.heap.size w3 ((w3.alloc (Obj.cells (cellsI (zeros 256)) 37)).setRow w3.heap.size (cellsI t)) := below_setRow ((Below.refl _ _).alloc (Nat.le_refl _) _) (Nat.le_refl _) _
  have lA := Blk.lt A
  replace A := Blk.below A b4
  replace hC := hC.below b4
  have s1 := B.size
  replace B := B.trans (b4.mono s1)
  replace hx := hx.below b4
  replace hy := hy.below b4
  generalize hg5 : w3.heap.size = g5 at *
  generalize (w3.alloc (Obj.cells (cellsI (zeros 256)) 37)).setRow g5 (cellsI t) = w4 at *
  clear b4 Z hg5
  obtain ⟨k0, k1, k2, k3, k4, k5, k6, k7, k8⟩ := HRD.out w4 A
  clear k0 k1 k4 k5 k6 k7 k8
  go_wp2_with fail
  refine (law12_Made (s.C / 65536) 0 s.a3 s.c3 s.cs w4 h.m3 hC).mono ?_; rintro e w5 ⟨rfl, b5⟩
  replace A := Blk.below A b5
  replace A5 : BlkL (Value.int .i64) _ _ _ _ := Blk.below A5 b5
  have s1 := B.size
  replace B := B.trans (b5.mono s1)
  replace hx := hx.below b5
  replace hy := hy.below b5
  have hvl := madeVce_len (s.C / 65536) 0 s.cs
  have hvk : I64 (madeVce (s.C / 65536) 0 s.cs).control := by have := h.C; unfold I64 at *; show -9223372036854775808 ≤ s.C / 65536 ∧ s.C / 65536 ≤ 9223372036854775807; omega
  have hvt := madeVce_in (s.C / 65536) 0 s.cs h.ci
  generalize madeVce (s.C / 65536) 0 s.cs = vc at *
  clear b5 hC k2 k3
  have Z := Blk.new w5 VceV.zero.cells.toArray 95
  have hz := HZ12.out
  have l0 : VceV.zero.cells.toArray.size = 514 := by simpa using VceV.length VceV.zero_len
  have l1 : vc.cells.toArray.size = 514 := by simpa using VceV.length hvl
  have hsz1 : (Try.prog.info? 95).map (·.size) = some vc.cells.toArray.size := by rw [l1]; exact tVce12
  have hsz2 : VceV.zero.cells.toArray.size = vc.cells.toArray.size := by rw [l0, l1]
  have HV1 := Lib.hid hsz1
  have HV2 := Lib.hid hsz2
  clear hsz1 hsz2 l0 l1
  generalize VceV.zero.cells.toArray = zv at *
  go_upto_region 4 with (refine wpList_store_row rfl 95 _ _ rfl w5.heap.size vc.cells.toArray rfl rfl 95 zv Z HV1.out HV2.out VceV.one ?_)
  clear hz
  have A6 := Blk.setRow Z vc.cells.toArray
  have b6 : Below w5.heap.size w5 ((w5.alloc (Obj.cells zv 95)).setRow w5.heap.size vc.cells.toArray) := below_setRow ((Below.refl _ _).alloc (Nat.le_refl _) _) (Nat.le_refl _) _
  have lA := Blk.lt A
  have lA5 := Blk.lt A5
  replace A := Blk.below A b6
  replace A5 : BlkL (Value.int .i64) _ _ _ _ := Blk.below A5 b6
  have s1 := B.size
  replace B := B.trans (b6.mono s1)
  replace hx := hx.below b6
  replace hy := hy.below b6
  generalize hg6 : w5.heap.size = g6 at *
  generalize (w5.alloc (Obj.cells zv 95)).setRow g6 vc.cells.toArray = w6 at *
  clear b6 Z hg6
  have hzr := HZR.out
  have hbr := HBR.out
  have zl : RegsV.zero.cells.toArray.size = 21 := by simpa using RegsV.length (v := RegsV.zero) (zeros_length 20)
  have hzr1 : (Try.prog.info? 99).map (·.size) = some RegsV.zero.cells.toArray.size := by rw [zl]; exact tRegs
  have hzo := RegsV.one (v := RegsV.zero)
  have hzc : ∀ (w : World) (b : Nat) (ty : TypeId), Blk w b RegsV.zero.cells.toArray ty → Blk w b RegsV.zero.cells.toArray ty := fun _ _ _ h => h
  generalize hzz : RegsV.zero.cells.toArray = zr at *
  have HZ1 := Lib.hid hzr1
  have HZO := Lib.hid hzo
  have HZZ := Lib.hid hzz
  clear hzr1 hzo hzz zl hzc HZR HBR
  have Z := Blk.new w6 zr 99
  go_upto_region 5 with (refine wpList_store_row rfl 99 _ _ rfl w6.heap.size zr rfl rfl 99 zr Z HZ1.out rfl HZO.out ?_)
  clear hzr hbr
  have A7 := Blk.setRow Z zr
  have b7 : Below w6.heap.size w6 ((w6.alloc (Obj.cells zr 99)).setRow w6.heap.size zr) := below_setRow ((Below.refl _ _).alloc (Nat.le_refl _) _) (Nat.le_refl _) _
  have lA6 := Blk.lt A6
  have s6 := B.size
  generalize hw7 : (w6.alloc (Obj.cells zr 99)).setRow w6.heap.size zr = w7 at *
  clear Z hw7
  rw [← HZZ.out] at A7
  clear HZZ HZ1 HZO
  let D : Nat → World → Prop := fun m w' => Below w6.heap.size w6 w' ∧ Blk w' w6.heap.size (if m = 0 then RegsV.zero else if m = 1 then ⟨0, (zeros 20).set 5 (s.C % 8192)⟩ else s.regs).cells.toArray 99
  have hf : ∀ m wq, D m wq → wq.cell? ⟨w.heap.size, 3, none⟩ = some (.int .i64 s.C) ∧ wq.cell? ⟨w.heap.size, 4, none⟩ = some (.int .i64 s.M) ∧ (∃ z, wq.cell? ⟨w6.heap.size, 6, none⟩ = some z) ∧ (∃ z, wq.cell? ⟨w6.heap.size, 10, none⟩ = some z) ∧ wq.frozen? ⟨w6.heap.size, 6, none⟩ = false ∧ wq.frozen? ⟨w6.heap.size, 10, none⟩ = false := by
    intro m wq hq
    obtain ⟨k0, k1, k2, k3, k4, k5, k6, k7, k8⟩ := HRD.out wq (Blk.below A hq.1)
    have hr : ∃ r : RegsV, r.Len ∧ Blk wq w6.heap.size r.cells.toArray 99 := ⟨_, by
      split
      · exact zeros_length 20
      · split
        · unfold RegsV.Len; simp [zeros_length]
        · exact s.regs_len, hq.2⟩
    obtain ⟨r, hl, hb⟩ := hr
    have hr := (RegsV.reads (range_of_blk hb) hl).2
    exact ⟨k3, k4, ⟨_, hr 5 (by decide)⟩, ⟨_, hr 9 (by decide)⟩, Blk.free hb _, Blk.free hb _⟩
  have FA := Lib.hid hf
  have e0 : D 0 w7.drew := ⟨below_drewN b7 1, A7⟩
  have e1 : ∀ wq, D 0 wq → D 1 (wq.setCell ⟨w6.heap.size, 6, none⟩ (.int .i64 (s.C % 8192))) := fun wq hq => ⟨hq.1.setCell (Nat.le_refl _) _, by
    have := Blk.set (i := 1 + 5) hq.2 (.int .i64 (s.C % 8192))
    rw [RegsV.set_cells] at this
    exact this⟩
  have e2 : ∀ wq, D 1 wq → D 2 (wq.setCell ⟨w6.heap.size, 10, none⟩ (.int .i64 (s.M % 256))) := fun wq hq => ⟨hq.1.setCell (Nat.le_refl _) _, by
    have := Blk.set (i := 1 + 9) hq.2 (.int .i64 (s.M % 256))
    rw [RegsV.set_cells] at this
    exact this⟩
  have e3 : ∀ wq, D 2 wq → Below w6.heap.size w6 wq ∧ Blk wq w6.heap.size s.regs.cells.toArray 99 := fun wq hq => hq
  have E1 := Lib.hid e1
  have E2 := Lib.hid e2
  have hm1 := and_8191 s.C
  have hm2 := and_255 s.M
  clear hf e1 e2 A7 b7
  clear_value D
  refine wp_region_n [8, 11] D (by kernel_rfl) (by kernel_rfl) (by kernel_rfl) (by kernel_rfl) e0 ?_
  clear e0
  iterate 8
    (refine wpN_other rfl (by decide) (fun K hK => ?_)
     apply Exists.intro
     refine ⟨fun m wq hm hq => ?_, hK _ ?_⟩
     · obtain ⟨r1, r2, ⟨z3, r3⟩, ⟨z4, r4⟩, f1, f2⟩ := FA.out m wq hq
       go_simp
       first | exact rfl | exact ⟨hq, rfl⟩ | exact ⟨rfl, rfl⟩
     clear hK K
     simp only [Act.put, List.setIfInBounds_toArray, List.set_cons_zero, List.set_cons_succ])
  refine wpN_turn 0 rfl (by decide) rfl (by kernel_rfl) ⟨undef, fun wq hq => ?_, ?_⟩
  · obtain ⟨r1, r2, ⟨z3, r3⟩, ⟨z4, r4⟩, f1, f2⟩ := FA.out 0 wq hq
    go_simp
    exact E1.out wq hq
  simp only [Act.put, List.setIfInBounds_toArray, List.set_cons_zero, List.set_cons_succ]
  iterate 2
    (refine wpN_other rfl (by decide) (fun K hK => ?_)
     apply Exists.intro
     refine ⟨fun m wq hm hq => ?_, hK _ ?_⟩
     · obtain ⟨r1, r2, ⟨z3, r3⟩, ⟨z4, r4⟩, f1, f2⟩ := FA.out m wq hq
       go_simp
       first | exact rfl | exact ⟨hq, rfl⟩ | exact ⟨rfl, rfl⟩
     clear hK K
     simp only [Act.put, List.setIfInBounds_toArray, List.set_cons_zero, List.set_cons_succ])
  refine wpN_turn 1 rfl (by decide) rfl (by kernel_rfl) ⟨undef, fun wq hq => ?_, ?_⟩
  · obtain ⟨r1, r2, ⟨z3, r3⟩, ⟨z4, r4⟩, f1, f2⟩ := FA.out 1 wq hq
    go_simp
    exact E2.out wq hq
  simp only [Act.put, List.setIfInBounds_toArray, List.set_cons_zero, List.set_cons_succ]
  intro w8 hw8
  obtain ⟨b8, A7⟩ := e3 w8 hw8
  clear FA E1 E2 hw8 e3 hm1 hm2
  have lx := hx.lt
  replace A := Blk.below A b8
  replace A5 : BlkL (Value.int .i64) _ _ _ _ := Blk.below A5 b8
  replace A6 := Blk.below A6 b8
  replace B := B.trans (b8.mono s6)
  replace hx := hx.below b8
  replace hy := hy.below b8
  generalize hgR : w6.heap.size = gR at *
  clear b8 hgR
  obtain ⟨u, hu⟩ : ∃ u : LnV, u = ⟨s.regs, t, vc, s.X, s.Y, s.L, s.N⟩ := ⟨_, rfl⟩
  have huo : u.Ok := by rw [hu]; exact ⟨s.regs_len, htl, hvl⟩
  have hur : u.r = s.regs := by rw [hu]
  have hut : u.t = t := by rw [hu]
  have huv : u.v = vc := by rw [hu]
  have hux : u.x = s.X := by rw [hu]
  have huy : u.y = s.Y := by rw [hu]
  have hul : u.l = s.L := by rw [hu]
  have hun : u.n = s.N := by rw [hu]
  have hui : u.In := by
    rw [hu]
    refine ⟨fun j => s.regs_in j, ?_, hti, hvk, hvt, h.X, h.Y⟩
    show 0 ≤ nth 0 s.regs.R 5 ∧ nth 0 s.regs.R 5 < 8192
    unfold SceneV.regs
    rw [nth_set_ne (by decide), nth_set_eq (by rw [zeros_length]; decide)]
    omega
  have hbin := build_In u huo (.pointer (some ⟨p, 0, none⟩)) rfl
  have hb19 := build_19 u huo
  rw [hur, hut, huv, hux, huy, hul, hun] at hbin hb19
  have hz1 : (Try.prog.info? 99).map (·.size) = some s.regs.cells.toArray.size := by
    have := RegsV.length s.regs_len
    rw [tRegs]; simp [this]
  have HZR1 := Lib.hid hz1
  have HB1 := Lib.hid hbin
  have HB2 := Lib.hid hb19
  have A5' : Blk w8 g5 (intsC t).toArray 37 := A5
  have ht1 : (Try.prog.info? 37).map (·.size) = some (intsC t).toArray.size := HT1.out
  have HT3 := Lib.hid ht1
  clear ht1 A5 HT1 HT2 hz1 hbin hb19 hu hur hut huv hux huy hul hun hti hvk hvt htl hvl
  generalize s.regs.cells.toArray = rc at *
  generalize (intsC t).toArray = tc at *
  generalize vc.cells.toArray = vcs at *
  obtain ⟨k0, k1, k2, k3, k4, k5, k6, k7, k8⟩ := HRD.out w8 A
  clear k0 k1 k2 k3 k4
  go_wp2_with (first
    | (refine wpList_load_row rfl 99 _ rfl gR rfl 99 rc (0, 0) _ A7 Try.underlying99 rfl HZR1.out ?_)
    | (refine wpList_load_row rfl 37 _ rfl g5 rfl 37 tc (0, 0) _ A5' Try.underlying37 rfl HT3.out ?_)
    | (refine wpList_load_row rfl 95 _ rfl g6 rfl 95 vcs (0, 0) _ A6 Try.underlying95 rfl HV1.out ?_)
    | (refine wpList_built rfl 103 _ rfl (HB1.out _) (by kernel_rfl) ?_))
  have hD1 := line_Out hx.toWords u huo
  refine hD1.mono ?_; rintro e w9 ⟨ad1, cap1, rfl, S1, b9⟩
  clear hD1 HB1 k5 k6 k7 k8
  replace A := Blk.below A b9
  replace A5' := Blk.below A5' b9
  replace A6 := Blk.below A6 b9
  replace A7 := Blk.below A7 b9
  have s9 := B.size
  replace B := B.trans (b9.mono s9)
  replace hx := hx.below b9
  replace hy := hy.below b9
  obtain ⟨k0, k1, k2, k3, k4, k5, k6, k7, k8⟩ := HRD.out w9 A
  clear k0 k1 k2 k3 k4 b9
  have hle := u.outL_le (madeOf s.xs).word
  have h2l : (LnV.outL { LnV.zero with n := 2 } (madeOf s.xs).word).length = 2 := by
    unfold LnV.outL
    rw [if_pos (by decide), LnV.draw_length]; rfl
  have hD2 := ref_Out hy u huo hui
  generalize u.outL (madeOf s.xs).word = oL at *
  generalize u.outO (madeOf s.xs).word = oO at *
  generalize u.outH (madeOf s.xs).word = oH at *
  go_wp2_with (first
    | (refine wpList_load_row rfl 99 _ rfl gR rfl 99 rc (0, 0) _ A7 Try.underlying99 rfl HZR1.out ?_)
    | (refine wpList_load_row rfl 37 _ rfl g5 rfl 37 tc (0, 0) _ A5' Try.underlying37 rfl HT3.out ?_)
    | (refine wpList_load_row rfl 95 _ rfl g6 rfl 95 vcs (0, 0) _ A6 Try.underlying95 rfl HV1.out ?_)
    | (refine wpList_built rfl 108 _ rfl (HB2.out _) (by kernel_rfl) ?_))
  refine hD2.mono ?_; rintro e w10 ⟨ad2, cap2, rfl, S2, b10⟩
  clear hD2 HB2 k5 k6 k7 k8 A5' A6 A7 A
  have s10 := B.size
  replace B := B.trans (b10.mono s10)
  replace hx := hx.below b10
  replace S1 := S1.below b10
  have hB3 := build_two (.pointer (some ⟨p, 0, none⟩)) 2 rfl
  have HB3 := Lib.hid hB3
  clear hB3 b10
  go_wp2_with (refine wpList_built rfl 103 _ rfl (HB3.out _) (by kernel_rfl) ?_)
  have hD3 := line_Out hx.toWords { LnV.zero with n := 2 } ⟨LnV.zero_ok.r, LnV.zero_ok.t, LnV.zero_ok.v⟩
  rw [h2l] at hD3
  refine hD3.mono ?_; rintro e w11 ⟨ad3, cap3, rfl, S3, b11⟩
  clear hD3 HB3 hy
  have s11 := B.size
  replace B := B.trans (b11.mono s11)
  replace S1 := S1.below b11
  replace S2 := S2.below b11
  generalize LnV.outO { LnV.zero with n := 2 } (madeOf s.xs).word = o3 at *
  generalize LnV.outH { LnV.zero with n := 2 } (madeOf s.xs).word = h3 at *
  clear b11 S3 hx
  have hint := law19_ints ad1 ad2 cap1 cap2 oL oL w11 (by unfold maxLen; omega) (by unfold maxLen; omega) S1 S2
  rw [show decide (oL = oL) = true by simp] at hint
  go_wp2_with fail
  refine hint.mono ?_; rintro e w12 ⟨rfl, n12, rfl⟩
  go_wp2
  go_ret
  exact ⟨rfl, below_drewN B _⟩
end Go.Proofs.Ytlhnfllfankjhaa
