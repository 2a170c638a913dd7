/- The walk of TilesRound. -/
import Derived.Test.YtlhnfllfankjhaaTiH
namespace Go.Proofs.Ytlhnfllfankjhaa
open Go Go.RowKit
set_option linter.unusedSimpArgs false
set_option linter.unusedVariables false
set_option maxRecDepth 100000

theorem nil_pixel (v : ViewV) (x y : Int) : pixel (fun _ => 0) v x y = 0 := by
  unfold pixel
  split
  · exact pixV_zero _ _ _ _ rfl rfl
  · rfl
theorem round_moved (f : Int → Int) (wd hg X Y y : Int) (i : Nat) (hw : wd = 32 ∨ wd = 64 ∨ wd = 128) (hh : hg = 32 ∨ hg = 64) (hX : 0 ≤ X ∧ X < 4096) (hi : i < 64) :
    pixel f ⟨wd, hg, X + 1, Y⟩ (i : Nat) y = pixel f ⟨wd, hg, X, Y⟩ ((i + 1 : Nat) : Int) y := by
  have e : ViewV.px ⟨wd, hg, X + 1, Y⟩ (i : Nat) = ViewV.px ⟨wd, hg, X, Y⟩ ((i + 1 : Nat) : Int) := by
    unfold ViewV.px; simp only; congr 1; omega
  unfold pixel
  rw [e]
  have hr1 : ViewV.Right ⟨wd, hg, X + 1, Y⟩ := ⟨hw, hh⟩
  have hr2 : ViewV.Right ⟨wd, hg, X, Y⟩ := ⟨hw, hh⟩
  rw [if_pos hr1, if_pos hr2]; rfl
theorem round_x (f : Int → Int) (wd hg X Y x y : Int) (hw : wd = 32 ∨ wd = 64 ∨ wd = 128) (hX : 0 ≤ X ∧ X < 4096) (hx : 0 ≤ x ∧ x < 4096) :
    pixel f ⟨wd, hg, X, Y⟩ (x + 8 * wd) y = pixel f ⟨wd, hg, X, Y⟩ x y := by
  have e : ViewV.px ⟨wd, hg, X, Y⟩ (x + 8 * wd) = ViewV.px ⟨wd, hg, X, Y⟩ x := by
    unfold ViewV.px; simp only; rcases hw with rfl | rfl | rfl <;> omega
  unfold pixel; rw [e]
theorem round_y (f : Int → Int) (wd hg X Y x y : Int) (hh : hg = 32 ∨ hg = 64) (hY : 0 ≤ Y ∧ Y < 4096) (hy : 0 ≤ y ∧ y < 4096) :
    pixel f ⟨wd, hg, X, Y⟩ x (y + 8 * hg) = pixel f ⟨wd, hg, X, Y⟩ x y := by
  have e : ViewV.py ⟨wd, hg, X, Y⟩ (y + 8 * hg) = ViewV.py ⟨wd, hg, X, Y⟩ y := by
    unfold ViewV.py; simp only; rcases hh with rfl | rfl <;> omega
  unfold pixel; rw [e]
theorem pixel_range' {w : World} {pv : Value} {f : Int → Int} (hW : Words w pv f) (v : ViewV) (x y : Int) : 0 ≤ pixel f v x y ∧ pixel f v x y < 256 := by
  unfold pixel
  split
  · exact pixV_range f _ _ _ (hW.range _)
  · omega
theorem pixel_low (f : Int → Int) (v : ViewV) (x y : Int) : pixel f v x y = 0 ∨ pixel f v x y % 16 ≠ 0 := by
  unfold pixel
  split
  · generalize f (v.py y / 8 * v.wide + v.px x / 8) = cell
    generalize 7 - v.px x % 8 = k
    have hc := pixC_range f cell (v.py y) k
    unfold pixV
    split
    · exact .inl rfl
    · exact .inr (by omega)
  · exact .inl rfl

set_option maxHeartbeats 2000000 in
theorem tilesRound_walk (a : Option Addr) (c : Nat) (xs : List PokeV) (v : ViewV) (x0 y0 : Int) (w : World) (S : PokesAt w a xs) (hI : ∀ x ∈ xs, x.In) (hm : xs.length ≤ maxLen) (hw : -9223372036854775808 ≤ v.wide ∧ v.wide ≤ 9223372036854775807) :
    Calls Try.prog 10 #[.slice a xs.length c, v.val, .agg #[.int .i64 x0, .int .i64 y0]] w fun e w' => e = .returned (.bool true) ∧ Below w.heap.size w w' := by
  obtain ⟨W0, H0, X0, Y0⟩ := v
  unfold ViewV.val ViewV.cells
  simp only at hw ⊢
  obtain ⟨r, hr, r0⟩ : ∃ r : Int, (W0.tmod 3 + 3).tmod 3 = r ∧ (r = 0 ∨ r = 1 ∨ r = 2) := by
    refine ⟨_, rfl, ?_⟩
    have h1 : -3 < W0.tmod 3 ∧ W0.tmod 3 < 3 := ⟨by have := Int.lt_tmod_of_pos W0 (show (0 : Int) < 3 by decide); omega, Int.tmod_lt_of_pos _ (by decide)⟩
    rw [Int.tmod_eq_emod_of_nonneg (by omega)]; omega
  have h3 : -3 < W0.tmod 3 ∧ W0.tmod 3 < 3 := ⟨by have := Int.lt_tmod_of_pos W0 (show (0 : Int) < 3 by decide); omega, Int.tmod_lt_of_pos _ (by decide)⟩
  have e1 : IntKind.i64.wrap (W0.tmod 3) = W0.tmod 3 := IntWalk.i64_in _ (by omega)
  have e2 : IntKind.i64.wrap (W0.tmod 3 + 3) = W0.tmod 3 + 3 := IntWalk.i64_in _ (by omega)
  have e3 : IntKind.i64.wrap r = r := IntWalk.i64_in _ (by omega)
  have e4 : IntKind.u64.wrap r = r := by rcases r0 with rfl | rfl | rfl <;> rfl
  obtain ⟨wd, hwd, wd0⟩ : ∃ wd : Int, wrap64 (32 * 2 ^ r.toNat) = wd ∧ (wd = 32 ∨ wd = 64 ∨ wd = 128) := by
    rcases r0 with rfl | rfl | rfl
    · exact ⟨32, by decide +kernel, .inl rfl⟩
    · exact ⟨64, by decide +kernel, .inr (.inl rfl)⟩
    · exact ⟨128, by decide +kernel, .inr (.inr rfl)⟩
  obtain ⟨hg, hhg, hg0⟩ : ∃ hg : Int, wrap64 (32 * 2 ^ (H0 % 2).toNat) = hg ∧ (hg = 32 ∨ hg = 64) := by
    rcases (show H0 % 2 = 0 ∨ H0 % 2 = 1 by omega) with h | h <;> rw [h]
    · exact ⟨32, by decide +kernel, .inl rfl⟩
    · exact ⟨64, by decide +kernel, .inr rfl⟩
  have HHG := Lib.hid hhg
  have HWD := Lib.hid hwd
  clear hhg hwd
  go_enter Try.func10, Try.ntmps10
  go_wp2_with fail
  rw [HHG.out, HWD.out]
  clear HHG HWD hr e1 e2 e3 e4 h3
  have x1 : 0 ≤ x0 % 4096 ∧ x0 % 4096 < 4096 := by omega
  have y1 : 0 ≤ y0 % 4096 ∧ y0 % 4096 < 4096 := by omega
  have X1 : 0 ≤ X0 % 4096 ∧ X0 % 4096 < 4096 := by omega
  have Y1 : 0 ≤ Y0 % 4096 ∧ Y0 % 4096 < 4096 := by omega
  generalize X0 % 4096 = X at *
  generalize Y0 % 4096 = Y at *
  go_quiet (fail)
  generalize x0 % 4096 = x at *
  generalize y0 % 4096 = y at *
  have A4 : Blk _ w.heap.size (ViewV.cells ⟨wd, hg, X, Y⟩) _ := Blk.drewN (Blk.alloc (Blk.new w #[Value.int .i64 wd, Value.int .i64 hg, Value.int .i64 X, Value.int .i64 Y] 42) (Obj.cells #[Value.int .i64 x0, Value.int .i64 y0] 29)) nq
  have B1 := below_drewN (((Below.refl w.heap.size w).alloc (Nat.le_refl _) (Obj.cells #[Value.int .i64 wd, Value.int .i64 hg, Value.int .i64 X, Value.int .i64 Y] 42)).alloc (by simp) (Obj.cells #[Value.int .i64 x0, Value.int .i64 y0] 29)) nq
  generalize ((w.alloc (Obj.cells #[Value.int .i64 wd, Value.int .i64 hg, Value.int .i64 X, Value.int .i64 Y] 42)).alloc (Obj.cells #[Value.int .i64 x0, Value.int .i64 y0] 29)).drewN nq = w1 at *
  have lw1 := Blk.lt A4
  go_wp2_with fail
  refine (law17_Made a c xs (S.below B1) hI hm).mono ?_; rintro e w2 ⟨p, g, q, h, rfl, T⟩
  replace A4 := Blk.below A4 T.below
  replace B1 := B1.trans (T.below.mono B1.size)
  clear S hI
  have hsz : (ViewV.cells ⟨wd, hg, X, Y⟩).size = 4 := rfl
  generalize hge : w.heap.size = ge at *
  go_wp2_with fail
  have Z := Blk.new w2 #[Value.int .i64 0, Value.int .i64 12289, Value.int .i64 16, Value.int .i64 32896] 46
  have bz := (Below.refl w2.heap.size w2).alloc (Nat.le_refl _) (Obj.cells #[Value.int .i64 0, Value.int .i64 12289, Value.int .i64 16, Value.int .i64 32896] 46)
  replace T := T.of_below bz
  replace A4 := Blk.below A4 bz
  have s1 := B1.size
  replace B1 := B1.trans (bz.mono (by omega))
  clear bz
  generalize hgz : w2.heap.size = gz at *
  generalize w2.alloc (Obj.cells #[Value.int .i64 0, Value.int .i64 12289, Value.int .i64 16, Value.int .i64 32896] 46) = w4 at *
  refine (law17_Made (some ⟨gz, 0, none⟩) 2 small2 (small2_at Z) small2_in (by decide)).mono ?_; rintro e w5 ⟨p', g', q', h', rfl, T'⟩
  replace T := T.of_below T'.below
  replace A4 := Blk.below A4 T'.below
  have s1 := B1.size
  replace B1 := B1.trans (T'.below.mono (by omega))
  clear Z
  go_wp2_with fail
  have hp := tiles_Pixel T'.x.toWords ⟨32, 32, 0, 0⟩ 256 256
  rw [small2_pixel 256 256 (by decide) (by decide)] at hp
  refine hp.mono ?_; rintro e w6 ⟨rfl, b6⟩
  clear hp
  replace T := T.of_below b6
  replace A4 := Blk.below A4 b6
  have s1 := B1.size
  replace B1 := B1.trans (b6.mono (by omega))
  clear b6 T'
  have k0 := A4.cell 0
  have k1 := A4.cell 1
  have k2 := A4.cell 2
  have k3 := A4.cell 3
  simp only [ViewV.cells, List.getElem?_toArray, List.getElem?_cons_zero, List.getElem?_cons_succ] at k0 k1 k2 k3
  go_wp2_with fail
  clear k0 k1 k2 k3
  have hp := tiles_Pixel (Words.nil w6) ⟨wd, hg, X, Y⟩ x y
  rw [nil_pixel] at hp
  refine hp.mono ?_; rintro e w7 ⟨rfl, b7⟩
  clear hp
  replace T := T.of_below b7
  replace A4 := Blk.below A4 b7
  have s1 := B1.size
  replace B1 := B1.trans (b7.mono (by omega))
  clear b7
  go_wp2_with (refine wpList_load_row rfl 42 _ rfl ge rfl 42 (ViewV.cells ⟨wd, hg, X, Y⟩) (0, 0) _ A4 Try.underlying42 rfl t4v ?_)
  refine (tiles_Line T.x.toWords ⟨wd, hg, X, Y⟩ y 40 (by decide) (by decide)).mono ?_; rintro e w8 ⟨rfl, hL, b8⟩
  generalize hgA : w7.heap.size + 1 = gA at *
  replace T := T.of_below b8
  replace A4 := Blk.below A4 b8
  have s1 := B1.size
  replace B1 := B1.trans (b8.mono (by omega))
  clear b8
  have lL := Blk.lt hL
  have l4 := Blk.lt A4
  have k0 := A4.cell 0
  have k1 := A4.cell 1
  have k2 := A4.cell 2
  have k3 := A4.cell 3
  simp only [ViewV.cells, List.getElem?_toArray, List.getElem?_cons_zero, List.getElem?_cons_succ] at k0 k1 k2 k3
  have f2 := A4.free 2
  go_wp2_with fail
  clear k0 k1 k2 k3 f2
  have A4' : Blk _ ge (ViewV.cells ⟨wd, hg, X + 1, Y⟩) _ := Blk.set (i := 2) A4 (.int .i64 (X + 1))
  have hL' : BlkL (Value.int .i64) _ gA _ _ := Blk.other (i := 2) (b' := ge) hL (.int .i64 (X + 1)) (by omega)
  have T8 : Tr [ge] w8 (w8.setCell ⟨ge, 2, none⟩ (.int .i64 (X + 1))) := (Tr.refl _ _).setCell _ (by simp) _
  have hpg : w1.heap.size ≤ p ∧ w1.heap.size ≤ g := ⟨T.bp, T.bg⟩
  have hx9 := T.x.tr T8 (by simp; omega) (by simp; omega)
  replace B1 := B1.setCell (p := ⟨ge, 2, none⟩) (by simp) (.int .i64 (X + 1))
  clear T8 hL A4 T
  generalize w8.setCell ⟨ge, 2, none⟩ (.int .i64 (X + 1)) = w9 at *
  refine (tiles_Line hx9.toWords ⟨wd, hg, X + 1, Y⟩ y 40 (by decide) (by decide)).mono ?_; rintro e w10 ⟨rfl, hM, b10⟩
  have hne : gA ≠ w9.heap.size + 1 := by have := Blk.lt hL'; omega
  generalize hgB : w9.heap.size + 1 = gB at *
  replace hx9 := hx9.below b10
  replace A4' := Blk.below A4' b10
  replace hL' : BlkL (Value.int .i64) _ gA _ _ := Blk.below hL' b10
  have s1 := B1.size
  replace B1 := B1.trans (b10.mono (by omega))
  have l4 := Blk.lt A4'
  have lB := Blk.lt hM
  have geB : ge ≠ gB := by omega
  clear b10
  have k0 := A4'.cell 0
  have k1 := A4'.cell 1
  have k2 := A4'.cell 2
  have k3 := A4'.cell 3
  simp only [ViewV.cells, List.getElem?_toArray, List.getElem?_cons_zero, List.getElem?_cons_succ] at k0 k1 k2 k3
  have f2 := A4'.free 2
  have e1 : X + 1 - 1 = X := by omega
  go_wp2_with fail
  clear k0 k1 k2 k3 f2 e1
  have A4 : Blk _ ge (ViewV.cells ⟨wd, hg, X, Y⟩) _ := Blk.set (i := 2) A4' (.int .i64 X)
  have hL : BlkL (Value.int .i64) _ gA _ _ := Blk.other (i := 2) (b' := ge) hL' (.int .i64 X) (by omega)
  replace hM : BlkL (Value.int .i64) _ gB _ _ := Blk.other (i := 2) (b' := ge) hM (.int .i64 X) (by omega)
  have T8 : Tr [ge] w10 (w10.setCell ⟨ge, 2, none⟩ (.int .i64 X)) := (Tr.refl _ _).setCell _ (by simp) _
  have hx := hx9.tr T8 (by simp; omega) (by simp; omega)
  replace B1 := B1.setCell (p := ⟨ge, 2, none⟩) (by simp) (.int .i64 X)
  clear T8 hL' A4' hx9
  generalize w10.setCell ⟨ge, 2, none⟩ (.int .i64 X) = w11 at *
  have hcm : ∀ i : Nat, i + 1 < 40 → ∃ z : Int, w11.cell? ⟨gB, i, none⟩ = some (.int .i64 z) ∧ w11.cell? ⟨gA, i + 1, none⟩ = some (.int .i64 z) := by
    intro i hi
    have h1 := BlkL.at hM (i := i) (by rw [lineK_length]; omega)
    have h2 := BlkL.at hL (i := i + 1) (by rw [lineK_length]; omega)
    rw [nth_lineK _ _ _ _ _ (by omega), round_moved _ wd hg X Y y i wd0 hg0 X1 (by omega)] at h1
    rw [nth_lineK _ _ _ _ _ (by omega)] at h2
    exact ⟨_, h1, h2⟩
  have HCM := Lib.hid hcm
  clear hcm
  go_wp2_with fail
  go_loopw [15] (fun i wr => ∃ k : Nat, k ≤ 39 ∧ i = .int .i64 k ∧ ∃ n, wr = w11.drewN n) (fun i _ => 40 - (intOf i).toNat)
  case atStart => exact ⟨0, by omega, rfl, 0, rfl⟩
  case round =>
    obtain ⟨k, hk, rfl, n, rfl⟩ := hrel
    by_cases hlt : k < 39
    · obtain ⟨z, h1, h2⟩ := HCM.out k (by omega)
      have d2 : decide ((k : Int) + 1 < 40) = true := by simp; omega
      have i1 : (k : Int) + 1 < 40 := by omega
      have e5 : IntKind.i64.wrap ((k : Int) + 1) = ((k + 1 : Nat) : Int) := by rw [IntWalk.i64_in _ (by omega)]; omega
      have c1 : (w11.drewN n).cell? ⟨gB, k, none⟩ = _ := h1
      have c2 : (w11.drewN n).cell? ⟨gA, k + 1, none⟩ = _ := h2
      have q4 : (z != z) = false := by simp
      have i2 : (0 : Int) ≤ (k : Int) + 1 := by omega
      have i3 : ((k : Int) + 1).toNat = k + 1 := by omega
      go_wp2_with fail
      go_quiet (fail)
      go_wp2
      go_roundw
      case rel => exact ⟨k + 1, by omega, rfl, n + nq, rfl⟩
      case measure => simp [intOf]; omega
    · obtain rfl : k = 39 := by omega
      replace hx := hx.drewN n
      replace A4 := Blk.drewN A4 n
      replace B1 := below_drewN B1 n
      clear hL hM HCM
      generalize w11.drewN n = w12 at *
      have k0 := A4.cell 0
      have k1 := A4.cell 1
      have k2 := A4.cell 2
      have k3 := A4.cell 3
      simp only [ViewV.cells, List.getElem?_toArray, List.getElem?_cons_zero, List.getElem?_cons_succ] at k0 k1 k2 k3
      obtain ⟨P, hP⟩ : ∃ P, pixel (madeOf xs).word ⟨wd, hg, X, Y⟩ x y = P := ⟨_, rfl⟩
      have hPr := pixel_range' hx.toWords ⟨wd, hg, X, Y⟩ x y
      have hPl := pixel_low (madeOf xs).word ⟨wd, hg, X, Y⟩ x y
      rw [hP] at hPr hPl
      have HPe := Lib.hid hP
      have e1 : IntKind.i64.wrap (8 * wd) = 8 * wd := IntWalk.i64_in _ (by omega)
      have e2 : IntKind.i64.wrap (x + 8 * wd) = x + 8 * wd := IntWalk.i64_in _ (by omega)
      have e3 : IntKind.i64.wrap (8 * hg) = 8 * hg := IntWalk.i64_in _ (by omega)
      have e4 : IntKind.i64.wrap (y + 8 * hg) = y + 8 * hg := IntWalk.i64_in _ (by omega)
      clear hP
      go_wp2_with fail
      have hp := tiles_Pixel hx.toWords ⟨wd, hg, X, Y⟩ (x) (y)
      rw [HPe.out] at hp
      refine hp.mono ?_; rintro e w13 ⟨rfl, b6⟩
      clear hp k0 k1 k2 k3
      replace hx := hx.below b6
      replace A4 := Blk.below A4 b6
      have s1 := B1.size
      replace B1 := B1.trans (b6.mono (by omega))
      clear b6
      have k0 := A4.cell 0
      have k1 := A4.cell 1
      have k2 := A4.cell 2
      have k3 := A4.cell 3
      simp only [ViewV.cells, List.getElem?_toArray, List.getElem?_cons_zero, List.getElem?_cons_succ] at k0 k1 k2 k3
      go_wp2_with fail
      have hp := tiles_Pixel hx.toWords ⟨wd, hg, X, Y⟩ (x + 8 * wd) (y)
      rw [round_x _ _ _ _ _ _ _ wd0 X1 x1] at hp
      rw [HPe.out] at hp
      refine hp.mono ?_; rintro e w14 ⟨rfl, b6⟩
      clear hp k0 k1 k2 k3
      replace hx := hx.below b6
      replace A4 := Blk.below A4 b6
      have s1 := B1.size
      replace B1 := B1.trans (b6.mono (by omega))
      clear b6
      have k0 := A4.cell 0
      have k1 := A4.cell 1
      have k2 := A4.cell 2
      have k3 := A4.cell 3
      simp only [ViewV.cells, List.getElem?_toArray, List.getElem?_cons_zero, List.getElem?_cons_succ] at k0 k1 k2 k3
      have qp : (P == P) = true := by simp
      go_wp2_with fail
      have hp := tiles_Pixel hx.toWords ⟨wd, hg, X, Y⟩ (x) (y + 8 * hg)
      rw [round_y _ _ _ _ _ _ _ hg0 Y1 y1] at hp
      rw [HPe.out] at hp
      refine hp.mono ?_; rintro e w15 ⟨rfl, b6⟩
      clear hp k0 k1 k2 k3
      replace hx := hx.below b6
      replace A4 := Blk.below A4 b6
      have s1 := B1.size
      replace B1 := B1.trans (b6.mono (by omega))
      clear b6
      rw [← hge] at B1
      rcases hPl with rfl | hPl
      · go_wp2
        go_ret
        exact ⟨rfl, B1⟩
      · have qm : (P % 16 != 0) = true := by simpa using hPl
        have q0 : (P == 0) = false := by simp; omega
        have q1 : decide (P ≥ 0) = true := by simp; omega
        have q2 : decide (P < 256) = true := by simp; omega
        go_wp2
        go_ret
        exact ⟨rfl, B1⟩
end Go.Proofs.Ytlhnfllfankjhaa
