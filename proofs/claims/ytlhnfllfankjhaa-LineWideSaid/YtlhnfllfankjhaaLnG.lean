/- The law LineWide, walked. -/
import Derived.Test.YtlhnfllfankjhaaLnF
import Derived.Deep.RegionHeld
namespace Go.Proofs.Ytlhnfllfankjhaa
open Go Go.RowKit
set_option linter.unusedSimpArgs false
set_option linter.unusedVariables false
set_option maxRecDepth 100000

/-- A struct that is built, in a region that draws its order. -/
theorem yieldsIf_built {P : Program} {ops : Array Oper} {S : World → Prop} {op : Oper} {a : Act} (hw : Region.wanted op (yielded ops a.tmps) = true) (t : TypeId) (parts : Array (Nat × Operand)) (ho : op.op = .build t parts)
    {vs : Array (Nat × Value)} {v : Value} (hc : ∀ w, (Instr.build t vs).run P w = .ok v w) (he : (parts.map fun (i, x) => (i, a.eval x)) = vs) : YieldsIf P ops S op v a :=
  .inl ⟨hw, fun w' _ => by
    subst he
    unfold execOp
    simp only [ho, Sem.run_bind, hc, Result.andThen_ok]
    rfl⟩
theorem build_wide (u : LnV) (hu : u.Ok) (hv : u.v = VceV.zero) (pv : Value) (h1 : pv.cells = #[pv]) (w : World) : (Instr.build 103 #[(0, pv), (1, .agg u.r.cells.toArray), (2, .agg (intsC u.t).toArray), (4, .int .i64 u.x), (5, .int .i64 u.y), (6, .int .i64 u.l), (7, .int .i64 u.n)]).run Try.prog w = .ok (.agg (u.cells pv).toArray) w := by
  refine run_build w _ _ _ ?_
  have o0 := LnV.zero_ok
  have o1 : LnV.Ok { LnV.zero with r := u.r } := ⟨hu.r, o0.t, o0.v⟩
  have o2 : LnV.Ok { LnV.zero with r := u.r, t := u.t } := ⟨hu.r, hu.t, o0.v⟩
  have o4 : LnV.Ok { LnV.zero with r := u.r, t := u.t, x := u.x } := ⟨hu.r, hu.t, o0.v⟩
  have o5 : LnV.Ok { LnV.zero with r := u.r, t := u.t, x := u.x, y := u.y } := ⟨hu.r, hu.t, o0.v⟩
  have o6 : LnV.Ok { LnV.zero with r := u.r, t := u.t, x := u.x, y := u.y, l := u.l } := ⟨hu.r, hu.t, o0.v⟩
  rw [builtIn, fillIn0 pv _ _ h1,
    fillIn o0 pv 1 0 21 _ u.r.cells _ rfl rfl (RegsV.length hu.r) (by decide) (LnV.laid_r o0 hu.r)]
  show Instr.fill _ (LnV.cells { LnV.zero with r := u.r } pv).toArray _ = _
  rw [fillIn o1 pv 2 21 256 _ (intsC u.t) _ rfl rfl (by rw [intsC_length, hu.t]) (by decide) (LnV.laid_t o1 hu.t)]
  show Instr.fill _ (LnV.cells { LnV.zero with r := u.r, t := u.t } pv).toArray _ = _
  rw [fillIn o2 pv 4 791 1 _ [.int .i64 u.x] _ rfl rfl rfl (by decide) (LnV.laid_x o2 u.x)]
  show Instr.fill _ (LnV.cells { LnV.zero with r := u.r, t := u.t, x := u.x } pv).toArray _ = _
  rw [fillIn o4 pv 5 792 1 _ [.int .i64 u.y] _ rfl rfl rfl (by decide) (LnV.laid_y o4 u.y)]
  show Instr.fill _ (LnV.cells { LnV.zero with r := u.r, t := u.t, x := u.x, y := u.y } pv).toArray _ = _
  rw [fillIn o5 pv 6 793 1 _ [.int .i64 u.l] _ rfl rfl rfl (by decide) (LnV.laid_l o5 u.l)]
  show Instr.fill _ (LnV.cells { LnV.zero with r := u.r, t := u.t, x := u.x, y := u.y, l := u.l } pv).toArray _ = _
  rw [fillIn o6 pv 7 794 1 _ [.int .i64 u.n] _ rfl rfl rfl (by decide) (LnV.laid_n o6 u.n)]
  obtain ⟨r, t, v, x, y, l, n⟩ := u
  simp only at hv
  subst hv
  rfl

/-- The first pixel, whatever the width. -/
structure Head0 (S T : SS) : Prop where
  c : nth 0 S.cols 0 = nth 0 T.cols 0
  f : nth false S.front 0 = nth false T.front 0
theorem Head0.dot {S T : SS} {n m : Nat} (hS : S.Ok n) (hT : T.Ok m) (hn : 1 ≤ n) (hm : 1 ≤ m) (h : Head0 S T) (k : Int) (s : SpV) (x c : Int) : Head0 (S.dot n k s x c) (T.dot m k s x c) := by
  have other : ∀ {S : SS} {n : Nat}, x ≠ 0 → nth 0 (S.dot n k s x c).cols 0 = nth 0 S.cols 0 ∧ nth false (S.dot n k s x c).front 0 = nth false S.front 0 := by
    intro S n hx
    unfold SS.dot
    split
    · rename_i hc
      have h0 : x.toNat ≠ 0 := by omega
      simp only
      split
      · exact ⟨nth_set_ne h0, nth_set_ne h0⟩
      · exact ⟨rfl, rfl⟩
    · exact ⟨rfl, rfl⟩
  by_cases hx : x = 0
  · subst hx
    unfold SS.dot
    by_cases hc : c ≠ 0
    · have q1 : ((0 : Int) ≤ 0 ∧ (0 : Int) < (n : Int)) ∧ c ≠ 0 := ⟨by omega, hc⟩
      have q2 : ((0 : Int) ≤ 0 ∧ (0 : Int) < (m : Int)) ∧ c ≠ 0 := ⟨by omega, hc⟩
      rw [if_pos q1, if_pos q2]
      have hcc := h.c
      simp only [Int.toNat_zero]
      by_cases hz : nth 0 S.cols 0 = 0
      · have hz' : nth 0 T.cols 0 = 0 := by rw [← hcc]; exact hz
        simp only [if_pos hz, if_pos hz']
        exact ⟨by rw [nth_set_eq (by rw [hS.cols]; exact hn), nth_set_eq (by rw [hT.cols]; exact hm)], by rw [nth_set_eq (by rw [hS.front]; exact hn), nth_set_eq (by rw [hT.front]; exact hm)]⟩
      · have hz' : ¬ nth 0 T.cols 0 = 0 := by rw [← hcc]; exact hz
        simp only [if_neg hz, if_neg hz']
        exact ⟨h.c, h.f⟩
    · rw [if_neg (fun k => hc k.2), if_neg (fun k => hc k.2)]; exact h
  · obtain ⟨a1, a2⟩ := other (S := S) (n := n) hx
    obtain ⟨b1, b2⟩ := other (S := T) (n := m) hx
    exact ⟨by rw [a1, b1]; exact h.c, by rw [a2, b2]; exact h.f⟩
theorem Head0.sp {S T : SS} {n m : Nat} (hS : S.Ok n) (hT : T.Ok m) (hn : 1 ≤ n) (hm : 1 ≤ m) (h : Head0 S T) (f : Int → Int) (k : Int) {s : SpV} (hs : s.In) (y : Int) : ∀ i, Head0 (S.sp f n k s y i) (T.sp f m k s y i)
  | 0 => h
  | i + 1 => Head0.dot (hS.sp f k hs y i) (hT.sp f k hs y i) hn hm (Head0.sp hS hT hn hm h f k hs y i) _ _ _ _
theorem scan_head {n m : Nat} (hn : 1 ≤ n) (hm : 1 ≤ m) (f : Int → Int) (t : List Int) (y : Int) : ∀ (l k : Nat) (S T : SS) (tk : Int), S.Ok n → T.Ok m → Head0 S T → Head0 (scan f n t y l k S tk).1 (scan f m t y l k T tk).1
  | 0, _, _, _, _, _, _, h => h
  | l + 1, k, S, T, tk, hS, hT, h => by
    by_cases ho : (spOf t k).on y
    · by_cases ht : 16 < tk + (spOf t k).W / 16
      · rw [scan_over f n t y l k S tk ho ht, scan_over f m t y l k T tk ho ht]; exact h
      · rw [scan_on f n t y l k S tk ho ht, scan_on f m t y l k T tk ho ht]
        exact scan_head hn hm f t y l _ _ _ _ (hS.sp f k (spOf_in t k) y _) (hT.sp f k (spOf_in t k) y _) (Head0.sp hS hT hn hm h f k (spOf_in t k) y _)
    · rw [scan_off f n t y l k S tk ho, scan_off f m t y l k T tk ho]
      exact scan_head hn hm f t y l _ _ _ _ hS hT h
theorem nth_map0 (g : Nat → Int) (n : Nat) (hn : 1 ≤ n) : nth 0 ((List.range n).map g) 0 = g 0 := by
  rw [nth_lt (by simp; omega)]; simp
theorem draw_first (u u1 : LnV) (f : Int → Int) (n : Nat) (hn : 1 ≤ n) (hu : u1 = { u with n := 1 }) : nth 0 (u1.draw f 1) 0 = nth 0 (u.draw f n) 0 := by
  subst hu
  have hb : nth 0 (LnV.back { u with n := 1 } f 1) 0 = nth 0 (u.back f n) 0 := by
    unfold LnV.back
    show nth 0 (if bitI (u.r.reg 5) 7 = 1 then lineK f u.view 0 1 else List.replicate 1 0) 0 = _
    split
    · unfold lineK
      rw [nth_map0 _ 1 (by decide), nth_map0 _ n hn]
    · rw [nth_lt (by simp), nth_lt (by simp; omega)]; simp
  have hs : Head0 (LnV.spr { u with n := 1 } f 1).1 (u.spr f n).1 ∧ ((LnV.spr { u with n := 1 } f 1).1.cols.length = 0 ∧ (u.spr f n).1.cols.length = 0 ∨ 0 < min (LnV.spr { u with n := 1 } f 1).1.cols.length (LnV.spr { u with n := 1 } f 1).1.front.length ∧ 0 < min (u.spr f n).1.cols.length (u.spr f n).1.front.length) := by
    unfold LnV.spr
    show Head0 (if bitI (u.r.reg 5) 6 = 1 then sprLine f 1 u.t u.l else _).1 _ ∧ ((if bitI (u.r.reg 5) 6 = 1 then sprLine f 1 u.t u.l else _).1.cols.length = 0 ∧ _ ∨ 0 < min (if bitI (u.r.reg 5) 6 = 1 then sprLine f 1 u.t u.l else _).1.cols.length (if bitI (u.r.reg 5) 6 = 1 then sprLine f 1 u.t u.l else _).1.front.length ∧ _)
    by_cases h6 : bitI (u.r.reg 5) 6 = 1
    · rw [if_pos h6, if_pos h6]
      have k1 := sprLine_ok f 1 u.t u.l
      have k2 := sprLine_ok f n u.t u.l
      refine ⟨scan_head (by decide) hn f u.t u.l 64 0 _ _ 0 (SS.Ok.zero 1) (SS.Ok.zero n) ⟨?_, ?_⟩, .inr ⟨by rw [k1.cols, k1.front]; decide, by rw [k2.cols, k2.front]; omega⟩⟩
      · have a : nth 0 (SS.zero 1).cols 0 = 0 := nth_zeros 1 0
        have b : nth 0 (SS.zero n).cols 0 = 0 := nth_zeros n 0
        rw [a, b]
      · show nth false (List.replicate 1 false) 0 = nth false (List.replicate n false) 0
        rw [nth_lt (by simp), nth_lt (by simp; omega)]; simp
    · rw [if_neg h6, if_neg h6]
      exact ⟨⟨rfl, rfl⟩, .inl ⟨rfl, rfl⟩⟩
  obtain ⟨⟨hc, hf⟩, hl⟩ := hs
  have hm : nth 0 (LnV.mix { u with n := 1 } f 1) 0 = nth 0 (u.mix f n) 0 := by
    unfold LnV.mix mixL
    rw [nth_map0 _ 1 (by decide), nth_map0 _ n hn, hb]
    unfold mixAt
    rw [hc, hf]
    rcases hl with ⟨h1, h2⟩ | ⟨h1, h2⟩
    · rw [if_neg (by rw [h1]; omega), if_neg (by rw [h2]; omega)]
    · by_cases hq : nth 0 (u.spr f n).1.cols 0 ≠ 0 ∧ (nth false (u.spr f n).1.front 0 = true ∨ nth 0 (u.back f n) 0 = 0)
      · rw [if_pos ⟨h1, hq⟩, if_pos ⟨h2, hq⟩]
      · rw [if_neg (fun h => hq h.2), if_neg (fun h => hq h.2)]
  have l1 := LnV.mix_length { u with n := 1 } f 1
  have l2 := LnV.mix_length u f n
  unfold LnV.draw
  rw [nth_lt (by simp; omega), nth_lt (by simp; omega), List.getElem_map, List.getElem_map, ← nth_lt (d := (0 : Int)), ← nth_lt (d := (0 : Int)), hm]
theorem draw_in (u : LnV) (f : Int → Int) (n i : Nat) (hi : i < n) : 0 ≤ nth 0 (u.draw f n) i ∧ nth 0 (u.draw f n) i < 512 := by
  have l2 := LnV.mix_length u f n
  unfold LnV.draw
  rw [nth_lt (by simp; omega), List.getElem_map]
  exact VceV.colour_in _ _

/-- The colours, seven by seven. -/
def sevL : List Int := (List.range 512).map fun i : Nat => (i : Int) * 7
theorem nth_sevL (k : Nat) (hk : k < 512) : nth 0 sevL k = (k : Int) * 7 := by
  rw [nth_lt (by simp [sevL]; exact hk)]; simp [sevL]
def sevV (k : Nat) : VceV := ⟨0, 0, tableN 512 sevL k⟩
theorem sevV_len (k : Nat) : (sevV k).Len := tableN_length 512 sevL k
theorem sevV_zero : sevV 0 = VceV.zero := by unfold sevV VceV.zero; rw [tableN_zero]
theorem sev_set (u : LnV) (hu : u.Ok) (pv : Value) (k : Nat) (hk : k < 512) : (LnV.cells { u with v := sevV k } pv).toArray.setIfInBounds (280 + k) (.int .i64 ((k : Int) * 7)) = (LnV.cells { u with v := sevV (k + 1) } pv).toArray := by
  have e := VceV.set_cells 0 0 (tableN 512 sevL k) k ((k : Int) * 7)
  have e2 := tableN_set 512 sevL k
  rw [nth_sevL k hk] at e2
  rw [e2, List.setIfInBounds_toArray] at e
  have e3 : (sevV k).cells.set (2 + k) (.int .i64 ((k : Int) * 7)) = (sevV (k + 1)).cells := congrArg Array.toList e
  have hl := VceV.length (sevV_len k)
  have hr := RegsV.length hu.r
  have ht : (intsC u.t).length = 256 := by rw [intsC_length, hu.t]
  rw [List.setIfInBounds_toArray]
  congr 1
  unfold LnV.cells LnV.base
  simp only
  rw [show 280 + k = (21 + (256 + (2 + k))) + 1 by omega, List.set_cons_succ, List.set_append_right _ _ (by omega), hr, List.set_append_right _ _ (by omega), ht, List.set_append_left _ _ (by omega),
    show 21 + (256 + (2 + k)) - 21 - 256 = 2 + k by omega, e3]
theorem one_set (u : LnV) (hu : u.Ok) (pv : Value) : (u.cells pv).toArray.setIfInBounds 795 (.int .i64 1) = (LnV.cells { u with n := 1 } pv).toArray := by
  have hl := VceV.length hu.v
  have hr := RegsV.length hu.r
  have ht : (intsC u.t).length = 256 := by rw [intsC_length, hu.t]
  rw [List.setIfInBounds_toArray]
  congr 1
  unfold LnV.cells LnV.base
  simp only
  rw [List.set_cons_succ, List.set_append_right _ _ (by omega), hr, List.set_append_right _ _ (by omega), ht, List.set_append_right _ _ (by omega), hl]
  rfl

set_option maxHeartbeats 8000000 in
theorem lineWide_walk (s : SceneV) (wide : Int) (hwd : I64 wide) (w : World) (h : s.At w) : Calls Try.prog 24 #[.agg s.cells, .int .i64 wide] w fun e w' => e = .returned (.bool true) ∧ Below w.heap.size w w' := by
  have HZR := Lib.hid zeroRegs
  have HBR := Lib.hid buildRegs
  have B := (Below.refl w.heap.size w).alloc (Nat.le_refl _) (Obj.cells s.cells 92)
  have A := Blk.new w s.cells 92
  have hP := h.p.below B
  have hT := h.t.below B
  generalize hsc : s.cells = sc at *
  have hrd : ∀ wq, Blk wq w.heap.size sc 92 → _ := fun wq hq => SceneV.reads (s := s) (by rw [hsc]; exact hq)
  have HRD := Lib.hid hrd
  clear hrd hsc
  go_enter Try.func24, Try.ntmps24
  go_upto_region 1 with (fail)
  generalize hw1 : w.alloc (Obj.cells sc 92) = w1 at *
  clear hw1
  obtain ⟨k0, k1, k2, k3, k4, k5, k6, k7, k8⟩ := HRD.out w1 A
  clear k1 k2 k3 k4 k5 k6 k7 k8
  go_wp2_with fail
  refine (law17_Made s.a1 s.c1 s.xs hP h.i h.m1).mono ?_; rintro e w2 ⟨p, g, q, hh, rfl, T⟩
  clear k0 hP
  have b2 := T.below
  replace A := Blk.below A b2
  replace hT := hT.below b2
  have s1 := B.size
  replace B := B.trans (b2.mono s1)
  have hx := T.x
  have hy := T.y
  clear b2 T
  have hzr := HZR.out
  have hbr := HBR.out
  have zl : RegsV.zero.cells.toArray.size = 21 := by simpa using RegsV.length (v := RegsV.zero) (zeros_length 20)
  have hzr1 : (Try.prog.info? 99).map (·.size) = some RegsV.zero.cells.toArray.size := by rw [zl]; exact tRegs
  have hzo := RegsV.one (v := RegsV.zero)
  have hzc : ∀ (w : World) (b : Nat) (ty : TypeId), Blk w b RegsV.zero.cells.toArray ty → Blk w b RegsV.zero.cells.toArray ty := fun _ _ _ h => h
  generalize hzz : RegsV.zero.cells.toArray = zr at *
  have HZ1 := Lib.hid hzr1
  have HZO := Lib.hid hzo
  have HZZ := Lib.hid hzz
  clear hzr1 hzo hzz zl hzc HZR HBR
  have Z := Blk.new w2 zr 99
  go_upto_region 3 with (refine wpList_store_row rfl 99 _ _ rfl w2.heap.size zr rfl rfl 99 zr Z HZ1.out rfl HZO.out ?_)
  clear hzr hbr
  have A7 := Blk.setRow Z zr
  have b7 : Below w2.heap.size w2 ((w2.alloc (Obj.cells zr 99)).setRow w2.heap.size zr) := below_setRow ((Below.refl _ _).alloc (Nat.le_refl _) _) (Nat.le_refl _) _
  have s6 := B.size
  generalize hw7 : (w2.alloc (Obj.cells zr 99)).setRow w2.heap.size zr = w7 at *
  clear Z hw7
  rw [← HZZ.out] at A7
  clear HZZ HZ1 HZO
  let D : Nat → World → Prop := fun m w' => Below w2.heap.size w2 w' ∧ Blk w' w2.heap.size (if m = 0 then RegsV.zero else if m = 1 then ⟨0, (zeros 20).set 5 (s.C % 8192)⟩ else s.regs).cells.toArray 99
  have hf : ∀ m wq, D m wq → wq.cell? ⟨w.heap.size, 3, none⟩ = some (.int .i64 s.C) ∧ wq.cell? ⟨w.heap.size, 4, none⟩ = some (.int .i64 s.M) ∧ (∃ z, wq.cell? ⟨w2.heap.size, 6, none⟩ = some z) ∧ (∃ z, wq.cell? ⟨w2.heap.size, 10, none⟩ = some z) ∧ wq.frozen? ⟨w2.heap.size, 6, none⟩ = false ∧ wq.frozen? ⟨w2.heap.size, 10, none⟩ = false := by
    intro m wq hq
    obtain ⟨k0, k1, k2, k3, k4, k5, k6, k7, k8⟩ := HRD.out wq (Blk.below A hq.1)
    have hr : ∃ r : RegsV, r.Len ∧ Blk wq w2.heap.size r.cells.toArray 99 := ⟨_, by
      split
      · exact zeros_length 20
      · split
        · unfold RegsV.Len; simp [zeros_length]
        · exact s.regs_len, hq.2⟩
    obtain ⟨r, hl, hb⟩ := hr
    have hr := (RegsV.reads (range_of_blk hb) hl).2
    exact ⟨k3, k4, ⟨_, hr 5 (by decide)⟩, ⟨_, hr 9 (by decide)⟩, Blk.free hb _, Blk.free hb _⟩
  have FA := Lib.hid hf
  have e0 : D 0 w7.drew := ⟨below_drewN b7 1, A7⟩
  have e1 : ∀ wq, D 0 wq → D 1 (wq.setCell ⟨w2.heap.size, 6, none⟩ (.int .i64 (s.C % 8192))) := fun wq hq => ⟨hq.1.setCell (Nat.le_refl _) _, by
    have := Blk.set (i := 1 + 5) hq.2 (.int .i64 (s.C % 8192))
    rw [RegsV.set_cells] at this
    exact this⟩
  have e2 : ∀ wq, D 1 wq → D 2 (wq.setCell ⟨w2.heap.size, 10, none⟩ (.int .i64 (s.M % 256))) := fun wq hq => ⟨hq.1.setCell (Nat.le_refl _) _, by
    have := Blk.set (i := 1 + 9) hq.2 (.int .i64 (s.M % 256))
    rw [RegsV.set_cells] at this
    exact this⟩
  have e3 : ∀ wq, D 2 wq → Below w2.heap.size w2 wq ∧ Blk wq w2.heap.size s.regs.cells.toArray 99 := fun wq hq => hq
  have E1 := Lib.hid e1
  have E2 := Lib.hid e2
  have hm1 := and_8191 s.C
  have hm2 := and_255 s.M
  clear hf e1 e2 A7 b7
  clear_value D
  refine wp_region_n [8, 11] D (by kernel_rfl) (by kernel_rfl) (by kernel_rfl) (by kernel_rfl) e0 ?_
  clear e0
  iterate 8
    (refine wpN_other rfl (by decide) (fun K hK => ?_)
     apply Exists.intro
     refine ⟨fun m wq hm hq => ?_, hK _ ?_⟩
     · obtain ⟨r1, r2, ⟨z3, r3⟩, ⟨z4, r4⟩, f1, f2⟩ := FA.out m wq hq
       go_simp
       first | exact rfl | exact ⟨hq, rfl⟩ | exact ⟨rfl, rfl⟩
     clear hK K
     simp only [Act.put, List.setIfInBounds_toArray, List.set_cons_zero, List.set_cons_succ])
  refine wpN_turn 0 rfl (by decide) rfl (by kernel_rfl) ⟨undef, fun wq hq => ?_, ?_⟩
  · obtain ⟨r1, r2, ⟨z3, r3⟩, ⟨z4, r4⟩, f1, f2⟩ := FA.out 0 wq hq
    go_simp
    exact E1.out wq hq
  simp only [Act.put, List.setIfInBounds_toArray, List.set_cons_zero, List.set_cons_succ]
  iterate 2
    (refine wpN_other rfl (by decide) (fun K hK => ?_)
     apply Exists.intro
     refine ⟨fun m wq hm hq => ?_, hK _ ?_⟩
     · obtain ⟨r1, r2, ⟨z3, r3⟩, ⟨z4, r4⟩, f1, f2⟩ := FA.out m wq hq
       go_simp
       first | exact rfl | exact ⟨hq, rfl⟩ | exact ⟨rfl, rfl⟩
     clear hK K
     simp only [Act.put, List.setIfInBounds_toArray, List.set_cons_zero, List.set_cons_succ])
  refine wpN_turn 1 rfl (by decide) rfl (by kernel_rfl) ⟨undef, fun wq hq => ?_, ?_⟩
  · obtain ⟨r1, r2, ⟨z3, r3⟩, ⟨z4, r4⟩, f1, f2⟩ := FA.out 1 wq hq
    go_simp
    exact E2.out wq hq
  simp only [Act.put, List.setIfInBounds_toArray, List.set_cons_zero, List.set_cons_succ]
  intro w8 hw8
  obtain ⟨b8, A7⟩ := e3 w8 hw8
  clear FA E1 E2 hw8 e3 hm1 hm2
  have lx := hx.lt
  have lA := Blk.lt A
  replace A := Blk.below A b8
  replace hT := hT.below b8
  replace B := B.trans (b8.mono s6)
  replace hx := hx.below b8
  generalize hgR : w2.heap.size = gR at *
  clear b8 hgR hy
  go_upto_region 4 with (fail)
  obtain ⟨tb, htb⟩ : ∃ tb, tb = table s.ts (min s.ts.length 256) := ⟨_, rfl⟩
  have htl : tb.length = 256 := by rw [htb]; exact table_length _ _
  have hcall : ∀ w0, Below w8.heap.size w8 w0 → Calls Try.prog 50 #[.slice s.a2 s.ts.length s.c2] w0 fun e w' => e = .returned (.agg (intsC tb).toArray) ∧ Below w0.heap.size w0 w' := fun w0 h0 => by
    have := law18_Table s.a2 s.c2 s.ts w0 h.m2 (hT.below h0)
    rw [aggI_of, ← htb] at this
    exact this
  obtain ⟨u, hu⟩ : ∃ u : LnV, u = ⟨s.regs, tb, VceV.zero, s.X, s.Y, s.L % 256, wide⟩ := ⟨_, rfl⟩
  have huo : u.Ok := by rw [hu]; exact ⟨s.regs_len, htl, VceV.zero_len⟩
  have hbin : ∀ w, (Instr.build 103 #[(0, .pointer (some ⟨p, 0, none⟩)), (1, .agg s.regs.cells.toArray), (2, .agg (intsC tb).toArray), (4, .int .i64 s.X), (5, .int .i64 s.Y), (6, .int .i64 (s.L % 256)), (7, .int .i64 wide)]).run Try.prog w = .ok (.agg (u.cells (.pointer (some ⟨p, 0, none⟩))).toArray) w := by
    have := build_wide u huo (by rw [hu]) (.pointer (some ⟨p, 0, none⟩)) rfl
    rw [hu] at this ⊢
    exact this
  have hz1 : (Try.prog.info? 99).map (·.size) = some s.regs.cells.length := by rw [RegsV.length s.regs_len]; exact tRegs
  have hz4 : (Try.prog.info? 103).map (·.size) = some (u.cells (.pointer (some ⟨p, 0, none⟩))).toArray.size := by rw [LnV.cells_length huo, tIn]
  have hz5 : (LnV.zero.cells (.pointer none)).toArray.size = (u.cells (.pointer (some ⟨p, 0, none⟩))).toArray.size := by rw [LnV.cells_length huo, LnV.cells_length LnV.zero_ok]
  have hone := LnV.one (u := u) (pv := .pointer (some ⟨p, 0, none⟩)) rfl
  obtain ⟨zi, hzi⟩ : ∃ zi, zi = (LnV.zero.cells (.pointer none)).toArray := ⟨_, rfl⟩
  have hzv := zeroInV
  rw [← hzi] at hz5 hzv
  have HC := Lib.hid hcall
  have HB1 := Lib.hid hbin
  have HR1 := Lib.hid hz1
  have HI1 := Lib.hid hz4
  have HI2 := Lib.hid hz5
  have HI3 := Lib.hid hone
  have HZI := Lib.hid hzv
  have HU := Lib.hid hu
  have HSL := Lib.hid (and_255 s.L)
  clear hcall hbin hz1 hz4 hz5 hone hzv hu hzi htb hT
  generalize huc : (u.cells (.pointer (some ⟨p, 0, none⟩))).toArray = uc at *
  go_cut [8] (fun v wx => ∃ g9, v = .pointer (some ⟨g9, 0, none⟩) ∧ w8.heap.size ≤ g9 ∧ Blk wx g9 uc 103 ∧ Below w8.heap.size w8 wx)
  case first =>
    let S : World → Prop := fun w' => Below w8.heap.size w8 w'
    refine wp_region_held_drew (S := S) (by kernel_rfl) (below_drewN (Below.refl _ _) 1) (fun hS => ?_)
    have hrd : ∀ w', S w' → w'.rangeAt gR 0 s.regs.cells := fun w' h0 => range_of_blk (Blk.below A7 h0)
    refine wpAnyH_take (i := 1) (v := .agg s.regs.cells.toArray) rfl (by kernel_rfl) (by kernel_rfl) (by kernel_rfl) (fun _ _ _ h => h) (yieldsIf_load_mid (by rfl) _ _ rfl gR 0 rfl s.regs.cells _ hrd Try.underlying99 rfl HR1.out) hS ?_
    simp only [Act.put, List.setIfInBounds_toArray, List.set_cons_zero, List.set_cons_succ]
    have hsl := HSL.out
    refine wpAnyH_take (i := 0) (v := .pointer (some ⟨p, 0, none⟩)) rfl (by kernel_rfl) (by kernel_rfl) (by kernel_rfl) (fun _ _ _ h => h) (Or.inl ⟨by rfl, fun w' h0 => ?_⟩) hS ?_
    · obtain ⟨k0, k1, k2, k3, k4, k5, k6, k7, k8⟩ := HRD.out w' (Blk.below A h0)
      go_simp
    simp only [Act.put, List.setIfInBounds_toArray, List.set_cons_zero, List.set_cons_succ]
    refine wpAnyH_take (i := 2) (v := .pointer (some ⟨w.heap.size, 1, none⟩)) rfl (by kernel_rfl) (by kernel_rfl) (by kernel_rfl) (fun _ _ _ h => h) (Or.inl ⟨by rfl, fun w' h0 => ?_⟩) hS ?_
    · obtain ⟨k0, k1, k2, k3, k4, k5, k6, k7, k8⟩ := HRD.out w' (Blk.below A h0)
      go_simp
    simp only [Act.put, List.setIfInBounds_toArray, List.set_cons_zero, List.set_cons_succ]
    refine wpAnyH_take (i := 3) (v := .slice s.a2 s.ts.length s.c2) rfl (by kernel_rfl) (by kernel_rfl) (by kernel_rfl) (fun _ _ _ h => h) (Or.inl ⟨by rfl, fun w' h0 => ?_⟩) hS ?_
    · obtain ⟨k0, k1, k2, k3, k4, k5, k6, k7, k8⟩ := HRD.out w' (Blk.below A h0)
      go_simp
    simp only [Act.put, List.setIfInBounds_toArray, List.set_cons_zero, List.set_cons_succ]
    refine wpAnyH_take (i := 5) (v := .pointer (some ⟨w.heap.size, 5, none⟩)) rfl (by kernel_rfl) (by kernel_rfl) (by kernel_rfl) (fun _ _ _ h => h) (Or.inl ⟨by rfl, fun w' h0 => ?_⟩) hS ?_
    · obtain ⟨k0, k1, k2, k3, k4, k5, k6, k7, k8⟩ := HRD.out w' (Blk.below A h0)
      go_simp
    simp only [Act.put, List.setIfInBounds_toArray, List.set_cons_zero, List.set_cons_succ]
    refine wpAnyH_take (i := 6) (v := .int .i64 s.X) rfl (by kernel_rfl) (by kernel_rfl) (by kernel_rfl) (fun _ _ _ h => h) (Or.inl ⟨by rfl, fun w' h0 => ?_⟩) hS ?_
    · obtain ⟨k0, k1, k2, k3, k4, k5, k6, k7, k8⟩ := HRD.out w' (Blk.below A h0)
      go_simp
    simp only [Act.put, List.setIfInBounds_toArray, List.set_cons_zero, List.set_cons_succ]
    refine wpAnyH_take (i := 7) (v := .pointer (some ⟨w.heap.size, 6, none⟩)) rfl (by kernel_rfl) (by kernel_rfl) (by kernel_rfl) (fun _ _ _ h => h) (Or.inl ⟨by rfl, fun w' h0 => ?_⟩) hS ?_
    · obtain ⟨k0, k1, k2, k3, k4, k5, k6, k7, k8⟩ := HRD.out w' (Blk.below A h0)
      go_simp
    simp only [Act.put, List.setIfInBounds_toArray, List.set_cons_zero, List.set_cons_succ]
    refine wpAnyH_take (i := 8) (v := .int .i64 s.Y) rfl (by kernel_rfl) (by kernel_rfl) (by kernel_rfl) (fun _ _ _ h => h) (Or.inl ⟨by rfl, fun w' h0 => ?_⟩) hS ?_
    · obtain ⟨k0, k1, k2, k3, k4, k5, k6, k7, k8⟩ := HRD.out w' (Blk.below A h0)
      go_simp
    simp only [Act.put, List.setIfInBounds_toArray, List.set_cons_zero, List.set_cons_succ]
    refine wpAnyH_take (i := 9) (v := .pointer (some ⟨w.heap.size, 7, none⟩)) rfl (by kernel_rfl) (by kernel_rfl) (by kernel_rfl) (fun _ _ _ h => h) (Or.inl ⟨by rfl, fun w' h0 => ?_⟩) hS ?_
    · obtain ⟨k0, k1, k2, k3, k4, k5, k6, k7, k8⟩ := HRD.out w' (Blk.below A h0)
      go_simp
    simp only [Act.put, List.setIfInBounds_toArray, List.set_cons_zero, List.set_cons_succ]
    refine wpAnyH_take (i := 10) (v := .int .i64 s.L) rfl (by kernel_rfl) (by kernel_rfl) (by kernel_rfl) (fun _ _ _ h => h) (Or.inl ⟨by rfl, fun w' h0 => ?_⟩) hS ?_
    · obtain ⟨k0, k1, k2, k3, k4, k5, k6, k7, k8⟩ := HRD.out w' (Blk.below A h0)
      go_simp
    simp only [Act.put, List.setIfInBounds_toArray, List.set_cons_zero, List.set_cons_succ]
    refine wpAnyH_take (i := 11) (v := .int .i64 (s.L % 256)) rfl (by kernel_rfl) (by kernel_rfl) (by kernel_rfl) (fun _ _ _ h => h) (Or.inl ⟨by rfl, fun w' h0 => ?_⟩) hS ?_
    · obtain ⟨k0, k1, k2, k3, k4, k5, k6, k7, k8⟩ := HRD.out w' (Blk.below A h0)
      go_simp
    simp only [Act.put, List.setIfInBounds_toArray, List.set_cons_zero, List.set_cons_succ]
    refine wpAnyH_take (i := 12) (v := .int .i64 wide) rfl (by kernel_rfl) (by kernel_rfl) (by kernel_rfl) (fun _ _ _ h => h) (Or.inl ⟨by rfl, fun w' h0 => ?_⟩) hS ?_
    · obtain ⟨k0, k1, k2, k3, k4, k5, k6, k7, k8⟩ := HRD.out w' (Blk.below A h0)
      go_simp
    simp only [Act.put, List.setIfInBounds_toArray, List.set_cons_zero, List.set_cons_succ]
    refine wpAnyH_ready (rs := [4, 14]) (by kernel_rfl) (by simp) ?_
    refine AllReadyH.cons rfl (fun K hK => ?_) (AllReadyH.cons rfl (fun K hK => ?_) AllReadyH.nil)
    · go_simp
      refine (HC.out _ hS).mono ?_; rintro e w9 ⟨rfl, b9⟩
      have l8 := Below.size hS
      refine hK.out _ _ (show S w9 from Below.trans hS (b9.mono l8)) (fun hS => ?_)
      clear hK K b9 l8
      refine wpAnyH_take (i := 13) (v := .agg uc) rfl (by kernel_rfl) (by kernel_rfl) (by kernel_rfl) (fun _ _ _ h => h) (yieldsIf_built (by rfl) 103 _ rfl HB1.out (by kernel_rfl)) hS ?_
      simp only [Act.put, List.setIfInBounds_toArray, List.set_cons_zero, List.set_cons_succ]
      refine wpAnyH_ready (rs := [14]) (by kernel_rfl) (by simp) ?_
      refine AllReadyH.cons rfl (fun K hK => ?_) AllReadyH.nil
      have hz := HZI.out
      go_simp
      clear hz
      have Z := Blk.new w9 zi 103
      have l9 := Below.size hS
      refine hK.out _ _ (show S _ from Below.alloc hS l9 (Obj.cells zi 103)) (fun hS => ?_)
      clear hK K
      refine wpAnyH_ready (rs := [15]) (by kernel_rfl) (by simp) ?_
      refine AllReadyH.cons rfl (fun K hK => ?_) AllReadyH.nil
      rw [if_pos (by rfl)]
      refine wp_store_row 103 _ _ rfl w9.heap.size uc rfl rfl 103 zi Z HI1.out HI2.out HI3.out ?_
      refine hK.out _ _ (show S _ from below_setRow hS l9 uc) (fun hS => ?_)
      clear hK K
      refine wpAnyH_done (by kernel_rfl) ?_ _
      go_wp2_with fail
      go_meet
      exact ⟨w9.heap.size, rfl, l9, Blk.setRow Z uc, hS⟩
    · have hz := HZI.out
      go_simp
      clear hz
      have Z := Blk.drewN (Blk.new w8 zi 103) 1
      refine hK.out _ _ (show S _ from below_drewN ((Below.refl _ _).alloc (Nat.le_refl _) (Obj.cells zi 103)) 1) (fun hS => ?_)
      clear hK K
      change Blk (w8.alloc (Obj.cells zi 103)).drew w8.heap.size zi 103 at Z
      generalize (w8.alloc (Obj.cells zi 103)).drew = wz at *
      refine wpAnyH_ready (rs := [4]) (by kernel_rfl) (by simp) ?_
      refine AllReadyH.cons rfl (fun K hK => ?_) AllReadyH.nil
      go_simp
      refine (HC.out _ hS).mono ?_; rintro e w9 ⟨rfl, b9⟩
      have l8 := Below.size hS
      replace Z := Blk.below Z b9
      refine hK.out _ _ (show S w9 from Below.trans hS (b9.mono l8)) (fun hS => ?_)
      clear hK K b9 l8
      refine wpAnyH_take (i := 13) (v := .agg uc) rfl (by kernel_rfl) (by kernel_rfl) (by kernel_rfl) (fun _ _ _ h => h) (yieldsIf_built (by rfl) 103 _ rfl HB1.out (by kernel_rfl)) hS ?_
      simp only [List.getElem_toArray, List.getElem_cons_succ, List.getElem_cons_zero]
      simp only [Act.put, List.setIfInBounds_toArray, List.set_cons_zero, List.set_cons_succ]
      refine wpAnyH_ready (rs := [15]) (by kernel_rfl) (by simp) ?_
      refine AllReadyH.cons rfl (fun K hK => ?_) AllReadyH.nil
      rw [if_pos (by rfl)]
      refine wp_store_row 103 _ _ rfl w8.heap.size uc rfl rfl 103 zi Z HI1.out HI2.out HI3.out ?_
      refine hK.out _ _ (show S _ from below_setRow hS (Nat.le_refl _) uc) (fun hS => ?_)
      clear hK K
      refine wpAnyH_done (by kernel_rfl) ?_ _
      go_wp2_with fail
      go_meet
      exact ⟨w8.heap.size, rfl, Nat.le_refl _, Blk.setRow Z uc, hS⟩
  case rest =>
    obtain ⟨g9, rfl, l9, Z9, b9⟩ := hcut
    replace hx := hx.below b9
    have s8 := B.size
    replace B := B.trans (b9.mono s8)
    have lx8 : p < g9 ∧ g < g9 ∧ w.heap.size ≤ g9 := by have := Blk.lt A7; omega
    clear A A7 b9 HC HB1 HR1 HSL
    generalize wc = w9 at *
    obtain ⟨pv, hpv⟩ : ∃ pv : Value, pv = .pointer (some ⟨p, 0, none⟩) := ⟨_, rfl⟩
    have hW0 : ∀ wq, VAt 69 wq p g (madeOf s.xs) → Words wq pv (madeOf s.xs).word := fun wq h => by rw [hpv]; exact h.toWords
    have HW := Lib.hid hW0
    have hpo : pv.oneCell' = true := by rw [hpv]; rfl
    have HPO := Lib.hid hpo
    have e0 : uc = (LnV.cells { u with v := sevV 0 } pv).toArray := by
      rw [← huc, hpv, sevV_zero]
      have : u.v = VceV.zero := by rw [HU.out]
      rw [← this]
    rw [e0] at Z9
    have huw : u.n = wide := by rw [HU.out]
    have HUW := Lib.hid huw
    clear huc hpv HU e0 hW0 hpo huw HI3
    go_wp2_with fail
    go_loopw [9] (fun i wr => ∃ k : Nat, k ≤ 512 ∧ i = .int .i64 k ∧ Blk wr g9 (LnV.cells { u with v := sevV k } pv).toArray 103 ∧ Tr [g9] w9 wr) (fun i _ => 512 - (intOf i).toNat)
    case atStart => exact ⟨0, by omega, rfl, Z9, Tr.refl _ _⟩
    case round =>
      clear Z9
      obtain ⟨k, hk, rfl, Z9, T9⟩ := hrel
      by_cases hlt : k < 512
      · have d1 : decide ((k : Int) < 512) = true := by simp; omega
        have i1 : (k : Int) < 512 := by omega
        have w7 : IntKind.i64.wrap ((k : Int) * 7) = (k : Int) * 7 := IntWalk.i64_in _ (by omega)
        have hsz := LnV.cells_length (u := { u with v := sevV k }) ⟨huo.r, huo.t, sevV_len k⟩ pv
        obtain ⟨z1, hz1⟩ : ∃ z, (LnV.cells { u with v := sevV k } pv).toArray[280 + k]? = some z := ⟨_, Array.getElem?_eq_getElem (by omega)⟩
        have c1 := (Blk.cell Z9 (280 + k)).trans hz1
        have f1 := Blk.free Z9 (280 + k)
        have A7 := Blk.set Z9 (i := 280 + k) (.int .i64 ((k : Int) * 7))
        rw [sev_set u huo pv k hlt] at A7
        have HA := Lib.hid A7
        clear A7 Z9 hsz hz1
        go_wp2
        go_roundw
        case rel => exact ⟨k + 1, by omega, by go_num, HA.out, T9.setCell _ (by simp) _⟩
        case measure => simp [intOf]; omega
      · obtain rfl : k = 512 := by omega
        have d1 : decide (((512 : Nat) : Int) < 512) = false := by decide
        have hx' : VAt 69 wr p g (madeOf s.xs) := hx.tr T9 (by simp; omega) (by simp; omega)
        have B' : Below w.heap.size w wr := Tr.below B T9 (Nat.le_refl _) (by simp; omega)
        clear hx B T9
        obtain ⟨u2, hu2⟩ : ∃ u2, u2 = { u with v := sevV 512 } := ⟨_, rfl⟩
        have ho2 : u2.Ok := by rw [hu2]; exact ⟨huo.r, huo.t, sevV_len 512⟩
        have hn2 : u2.n = wide := by rw [hu2]; exact HUW.out
        rw [← hu2] at Z9
        clear hu2
        have hone := one_set u2 ho2 pv
        obtain ⟨u1, hu1⟩ : ∃ u1 : LnV, u1 = { u2 with n := 1 } := ⟨_, rfl⟩
        rw [← hu1] at hone
        have ho1 : u1.Ok := by rw [hu1]; exact ⟨ho2.r, ho2.t, ho2.v⟩
        have hD1 := fun (w0 : World) (hW : Words w0 pv (madeOf s.xs).word) => line_Out hW u2 ho2
        have hD2 := fun (w0 : World) (hW : Words w0 pv (madeOf s.xs).word) => line_Out hW u1 ho1
        have ho11 : u1.n = 1 := by rw [hu1]
        have hL1 : u1.outL (madeOf s.xs).word = u1.draw (madeOf s.xs).word 1 := by unfold LnV.outL; rw [ho11, if_pos (by decide)]; rfl
        rw [hL1] at hD2
        have hl1 := LnV.draw_length u1 (madeOf s.xs).word 1
        have hfst := fun n hn => draw_first u2 u1 (madeOf s.xs).word n hn hu1
        have hin := fun n i hi => draw_in u2 (madeOf s.xs).word n i hi
        have hl2 := fun n => LnV.draw_length u2 (madeOf s.xs).word n
        have hno : ¬ (1 ≤ wide ∧ wide ≤ 512) → u2.outL (madeOf s.xs).word = [] ∧ u2.outO (madeOf s.xs).word = false ∧ u2.outH (madeOf s.xs).word = false := fun h => by
          unfold LnV.outL LnV.outO LnV.outH
          rw [hn2, if_neg h, if_neg h, if_neg h]; exact ⟨rfl, rfl, rfl⟩
        have hyes : 1 ≤ wide ∧ wide ≤ 512 → u2.outL (madeOf s.xs).word = u2.draw (madeOf s.xs).word wide.toNat := fun h => by
          unfold LnV.outL
          rw [hn2, if_pos h]
        have hle := LnV.outL_le u2 (madeOf s.xs).word
        have hs1 : (Try.prog.info? 103).map (·.size) = some (u1.cells pv).toArray.size := by rw [LnV.cells_length ho1, tIn]
        have hs2 : (Try.prog.info? 103).map (·.size) = some (u2.cells pv).toArray.size := by rw [LnV.cells_length ho2, tIn]
        have hs3 : zi.size = (u2.cells pv).toArray.size := by rw [HI2.out]; have := HI1.out; rw [this] at hs2; exact (Option.some.inj hs2)
        have ho3 := LnV.one (u := u2) (pv := pv) HPO.out
        have hz7 : ∃ z, (u2.cells pv).toArray[795]? = some z := ⟨_, Array.getElem?_eq_getElem (by rw [LnV.cells_length ho2]; decide)⟩
        have HO1 := Lib.hid hone
        have HD1 := Lib.hid hD1
        have HD2 := Lib.hid hD2
        have HF := Lib.hid hfst
        have HIN := Lib.hid hin
        have HL2 := Lib.hid hl2
        have HNO := Lib.hid hno
        have HYES := Lib.hid hyes
        have HS1 := Lib.hid hs1
        have HS2 := Lib.hid hs2
        have HS3 := Lib.hid hs3
        have HO3 := Lib.hid ho3
        have HZ7 := Lib.hid hz7
        clear hone hu1 ho1 hD1 hD2 hfst hin hl2 hno hyes hs1 hs2 hs3 ho3 hz7 ho11 hL1 hn2 ho2 HUW HI1 HI2
        generalize u2.outL (madeOf s.xs).word = L2 at *
        generalize u2.outO (madeOf s.xs).word = o2 at *
        generalize u2.outH (madeOf s.xs).word = h2 at *
        generalize u1.draw (madeOf s.xs).word 1 = L1 at *
        generalize u1.outO (madeOf s.xs).word = o1 at *
        generalize u1.outH (madeOf s.xs).word = h1 at *
        generalize u2.draw (madeOf s.xs).word = dr at *
        generalize (u2.cells pv).toArray = c2 at *
        generalize (u1.cells pv).toArray = c1 at *
        go_wp2_with (refine wpList_load_row rfl 103 _ rfl g9 rfl 103 c2 (0, 0) _ Z9 Try.underlying103 rfl HS2.out ?_)
        refine (HD1.out _ (HW.out _ hx')).mono ?_; rintro e w10 ⟨ad1, cap1, rfl, S1, b10⟩
        clear HD1
        replace Z9 := Blk.below Z9 b10
        have s9 := B'.size
        replace B' := B'.trans (b10.mono s9)
        replace hx' := hx'.below b10
        have lz := Blk.lt Z9
        have lx' := hx'.lt
        clear b10
        have Z := Blk.new w10 zi 103
        have b11 := (Below.refl w10.heap.size w10).alloc (Nat.le_refl _) (Obj.cells zi 103)
        have hz := HZI.out
        go_upto_region 11 with (first
          | (refine wpList_load_row rfl 103 _ rfl g9 rfl 103 c2 (0, 0) _ Z9 Try.underlying103 rfl HS2.out ?_)
          | (refine wpList_store_row rfl 103 _ _ rfl w10.heap.size c2 rfl rfl 103 zi Z HS2.out HS3.out HO3.out ?_))
        clear hz
        have Z2 := Blk.setRow Z c2
        have b12 := below_setRow b11 (Nat.le_refl _) c2
        have hS1 := S1.below (b12.setCell (p := ⟨w10.heap.size, 795, none⟩) (Nat.le_refl _) (.int .i64 1))
        replace hx' := hx'.below b12
        have s10 := B'.size
        replace B' := B'.trans (b12.mono s10)
        obtain ⟨z7, hz7⟩ := HZ7.out
        have c7 := (Blk.cell Z2 795).trans hz7
        have f7 := Blk.free Z2 795
        have Z3 := Blk.set Z2 (i := 795) (.int .i64 1)
        rw [HO1.out] at Z3
        clear b11 b12 Z Z2 hz7 HZ7 HO1 Z9 HZI HS3 HO3 HS2
        generalize hg10 : w10.heap.size = g10 at *
        generalize (w10.alloc (Obj.cells zi 103)).setRow g10 c2 = w11 at *
        have hX1 : VAt 69 (w11.setCell ⟨g10, 795, none⟩ (.int .i64 1)) p g (madeOf s.xs) := hx'.tr ((Tr.refl [g10] w11).setCell (b := g10) 795 (by simp) _) (by simp; omega) (by simp; omega)
        have B1 := B'.setCell (p := ⟨g10, 795, none⟩) (by show w.heap.size ≤ g10; omega) (.int .i64 1)
        have HS := Lib.hid hS1
        clear hS1 S1
        go_upto_region 12 with (fail)
        clear c7 f7 hx' B'
        generalize w11.setCell ⟨g10, 795, none⟩ (.int .i64 1) = w12 at *
        go_wp2_with (refine wpList_load_row rfl 103 _ rfl g10 rfl 103 c1 (0, 0) _ Z3 Try.underlying103 rfl HS1.out ?_)
        refine (HD2.out _ (HW.out _ hX1)).mono ?_; rintro e w13 ⟨ad2, cap2, rfl, S2, b13⟩
        clear HD2
        have S1 := HS.out.below b13
        have s9 := B1.size
        replace B1 := B1.trans (b13.mono s9)
        clear b13 hX1 Z3 HS HS1 HW HPO hg10 lx' lz
        rw [hl1]
        by_cases hw : 1 ≤ wide ∧ wide ≤ 512
        · obtain ⟨n, rfl⟩ : ∃ n : Nat, wide = (n : Int) := ⟨wide.toNat, by omega⟩
          have e2 := HYES.out hw
          have hl := HL2.out n
          have hi := HIN.out n
          have hf := HF.out n (by omega)
          clear HNO HYES HL2 HIN HF hle
          rw [Int.toNat_natCast] at e2
          rw [← e2] at hl hi hf
          have d1 : decide ((n : Int) < 1) = false := by simp; omega
          have d2 : decide ((n : Int) > 512) = false := by simp; omega
          have d3 : decide (512 < (n : Int)) = false := by simp; omega
          have HFF := Lib.hid hf
          rw [hl]
          have HLL := Lib.hid hl
          clear hf e2 hl
          go_wp2_with fail
          go_loopw [17] (fun i wr => ∃ k : Nat, k ≤ n ∧ i = .int .i64 k ∧ SlAt (Value.int .i64) 0 wr ad1 L2 ∧ SlAt (Value.int .i64) 0 wr ad2 L1 ∧ Below w.heap.size w wr) (fun i _ => n - (intOf i).toNat)
          case atStart => exact ⟨0, by omega, rfl, S1, S2, B1⟩
          case round =>
            clear S1 S2 B1
            obtain ⟨k, hk6, rfl, S1, S2, B1⟩ := hrel
            by_cases hlt : k < n
            · have d5 : decide ((k : Int) < (n : Int)) = true := by simpa using hlt
              have i1 : (k : Int) < (n : Int) := by omega
              obtain ⟨ad, rfl, c4⟩ := S1.atN k (by rw [HLL.out]; exact hlt)
              have hk2 := hi k hlt
              have d6 : decide (nth 0 L2 k < 0) = false := by simp; omega
              have d7 : decide (nth 0 L2 k > 511) = false := by simp; omega
              have d8 : decide (511 < nth 0 L2 k) = false := by simp; omega
              have HS1' := Lib.hid S1
              clear S1
              generalize nth 0 L2 k = z at *
              go_wp2
              go_roundw
              case rel => exact ⟨k + 1, by omega, by go_num, HS1'.out, S2, B1⟩
              case measure => simp [intOf]; omega
            · obtain rfl : k = n := by omega
              have d5 : decide ((k : Int) < (k : Int)) = false := by simp
              obtain ⟨ad, rfl, c4⟩ := S1.atN 0 (by rw [HLL.out]; omega)
              obtain ⟨ae, rfl, c5⟩ := S2.atN 0 (by omega)
              rw [HFF.out] at c5
              have i1 : (0 : Int) < (k : Int) := by omega
              have a0 : ∀ a : Addr, a.add 0 = a := fun a => by rw [Addr.add]; simp
              rw [a0] at c4 c5
              clear S1 S2 hi HFF HLL
              generalize nth 0 L2 0 = z at *
              go_wp2_with fail
              go_quiet (fail)
              go_wp2
              go_ret
              exact ⟨rfl, below_drewN B1 _⟩
        · obtain ⟨e1, e2, e3⟩ := HNO.out hw
          subst e1 e2 e3
          clear HNO HYES HL2 HIN HF hle S1 S2
          have hd : (decide (wide < 1) = true) ∨ (decide (wide < 1) = false ∧ decide (wide > 512) = true ∧ decide (512 < wide) = true) := by
            simp; omega
          rcases hd with d1 | ⟨d1, d2, d3⟩
          all_goals
            go_wp2
            go_ret
            exact ⟨rfl, B1⟩
end Go.Proofs.Ytlhnfllfankjhaa
