/- Contracts: a pixel, and the reference's. -/
import Derived.Test.YtlhnfllfankjhaaTiB
namespace Go.Proofs.Ytlhnfllfankjhaa
open Go Go.RowKit
set_option linter.unusedSimpArgs false
set_option linter.unusedVariables false
set_option maxRecDepth 100000

/-- A pixel of a background. -/
def pixel (f : Int → Int) (v : ViewV) (x y : Int) : Int :=
  if v.Right then pixV f (f (v.py y / 8 * v.wide + v.px x / 8)) (v.py y) (7 - v.px x % 8) else 0
theorem t4v : (Try.prog.info? 42).map (·.size) = some 4 := by kernel_rfl
theorem rowK_at (f : Int → Int) (wide col q : Int) (i : Nat) (hi : i < 8) : nth 0 (rowK f wide col q) i = pixV f (f (q / 8 * wide + col)) q (7 - i) := by
  unfold rowK; rw [nth_rowTo _ _ _ _ _ hi, if_pos hi]
theorem aggI_index (xs : List Int) (hl : xs.length = 8) : ∃ a b c d e g h i, xs = [a, b, c, d, e, g, h, i] := by
  match xs, hl with
  | [a, b, c, d, e, g, h, i], _ => exact ⟨a, b, c, d, e, g, h, i, rfl⟩

theorem run_index8 (xs : List Int) (hl : xs.length = 8) (i : Int) (h0 : 0 ≤ i) (h8 : i < 8) (w : World) : (Instr.index 118 (aggI xs) (.int .i64 i)).run Try.prog w = .ok (.int .i64 (nth 0 xs i.toNat)) w := by
  obtain ⟨a, b, c, d, e, g, h, k, rfl⟩ := aggI_index xs hl
  rcases (show i = 0 ∨ i = 1 ∨ i = 2 ∨ i = 3 ∨ i = 4 ∨ i = 5 ∨ i = 6 ∨ i = 7 by omega) with rfl | rfl | rfl | rfl | rfl | rfl | rfl | rfl <;> kernel_rfl

theorem tiles_Pixel {w : World} {pv : Value} {f : Int → Int} (hW : Words w pv f) (v : ViewV) (x y : Int) : Calls Try.prog 35 #[pv, v.val, .int .i64 x, .int .i64 y] w fun e w' =>
    e = .returned (.int .i64 (pixel f v x y)) ∧ Below w.heap.size w w' := by
  have A5 : Blk (w.alloc (Obj.cells v.cells 42)) w.heap.size v.cells 42 := Blk.new w v.cells 42
  have B1 := (Below.refl w.heap.size w).alloc (Nat.le_refl _) (Obj.cells v.cells 42)
  have hinf : (Try.prog.info? 42).map (·.size) = some v.cells.size := t4v
  have H1 := Lib.hid hinf
  clear hinf
  unfold ViewV.val
  have l5 := A5.lt
  have hW1 := hW.below B1
  by_cases hR : v.Right
  · have e : pixel f v x y = pixV f (f (v.py y / 8 * v.wide + v.px x / 8)) (v.py y) (7 - v.px x % 8) := by unfold pixel; rw [if_pos hR]
    rw [e]
    clear e
    have r1 := ViewV.px_range hR x
    have r2 := ViewV.py_range hR y
    have hr := ViewV.Right_range hR
    have hd : decide v.Right = true := decide_eq_true hR
    have hcr := fun w => tiles_right v w
    rw [hd] at hcr
    clear hd
    have hcp := fun w => tiles_place v hR x y w
    have hrw : ∀ wq, Below w.heap.size w wq → _ := fun wq hq => tiles_row (hW.below hq) v hR (v.px x / 8) (v.py y) (by omega) (by omega)
    have hat := rowK_at f v.wide (v.px x / 8) (v.py y)
    unfold ViewV.val at hcr hcp hrw
    have HCR := Lib.hid hcr
    have HCP := Lib.hid hcp
    have HRW := Lib.hid hrw
    clear hcr hcp hrw
    generalize v.px x = p at *
    generalize v.py y = q at *
    have hrl : (rowK f v.wide (p / 8) q).length = 8 := rowTo_length _ _ _ _
    generalize rowK f v.wide (p / 8) q = rw8 at *
    generalize f (q / 8 * v.wide + p / 8) = cell at *
    generalize v.wide = wide at *
    generalize v.cells = vc at *
    clear hR
    go_enter Try.func35, Try.ntmps35
    go_wp2_with (refine wpList_load_row rfl 42 _ rfl w.heap.size rfl 42 vc (0, 0) _ A5 Try.underlying42 rfl H1.out ?_)
    generalize w.alloc (Obj.cells vc 42) = w1 at *
    refine (HCR.out _).mono ?_; rintro e w2 ⟨rfl, b2⟩
    replace A5 := Blk.below A5 b2
    replace B1 := B1.trans (b2.mono (by omega))
    have l5 := A5.lt
    go_wp2_with (refine wpList_load_row rfl 42 _ rfl w.heap.size rfl 42 vc (0, 0) _ A5 Try.underlying42 rfl H1.out ?_)
    refine (HCP.out _).mono ?_; rintro e w3 ⟨rfl, b3⟩
    replace A5 := Blk.below A5 b3
    replace B1 := B1.trans (b3.mono (by omega))
    have l5 := A5.lt
    go_wp2_with (refine wpList_load_row rfl 42 _ rfl w.heap.size rfl 42 vc (0, 0) _ A5 Try.underlying42 rfl H1.out ?_)
    refine (HRW.out _ B1).mono ?_; rintro e w4 ⟨rfl, b4⟩
    replace B1 := B1.trans (b4.mono (by omega))
    have hix := run_index8 rw8 hrl (p % 8) (by omega) (by omega)
    have hat1 := hat (p % 8).toNat (by omega)
    rw [show (7 - ((p % 8).toNat : Int)) = 7 - p % 8 by omega] at hat1
    rw [hat1] at hix
    clear hat hat1
    go_wp2
    go_ret
    exact ⟨rfl, B1⟩
  · have e : pixel f v x y = 0 := by unfold pixel; rw [if_neg hR]
    rw [e]
    clear e
    have hd : decide v.Right = false := decide_eq_false hR
    have hcr := fun w => tiles_right v w
    rw [hd] at hcr
    clear hd
    unfold ViewV.val at hcr
    have HCR := Lib.hid hcr
    clear hcr
    generalize v.cells = vc at *
    clear hR
    go_enter Try.func35, Try.ntmps35
    go_wp2_with (refine wpList_load_row rfl 42 _ rfl w.heap.size rfl 42 vc (0, 0) _ A5 Try.underlying42 rfl H1.out ?_)
    generalize w.alloc (Obj.cells vc 42) = w1 at *
    refine (HCR.out _).mono ?_; rintro e w2 ⟨rfl, b2⟩
    replace B1 := B1.trans (b2.mono (by omega))
    go_wp2
    go_ret
    exact ⟨rfl, B1⟩

set_option maxHeartbeats 4000000 in
/-- The place's words, for the reference. -/
theorem ref17_Pixel {w : World} {p g : Nat} {V : VS} (h : VAt 66 w p g V) (v : ViewV) (x y : Int) (hx : -9223372036854775808 ≤ x ∧ x ≤ 9223372036854775807) (hy : -9223372036854775808 ≤ y ∧ y ≤ 9223372036854775807)
    (hvx : -9223372036854775808 ≤ v.x ∧ v.x ≤ 9223372036854775807) (hvy : -9223372036854775808 ≤ v.y ∧ v.y ≤ 9223372036854775807) : Calls Try.prog 36 #[.pointer (some ⟨p, 0, none⟩), v.val, .int .i64 x, .int .i64 y] w fun e w' =>
    e = .returned (.int .i64 (pixel V.word v x y)) ∧ Below w.heap.size w w' := by
  obtain ⟨wd, hg, vx, vy⟩ := v
  unfold ViewV.val ViewV.cells
  simp only at hvx hvy ⊢
  have C0 := Blk.new w #[Value.int .i64 wd, Value.int .i64 hg, Value.int .i64 vx, Value.int .i64 vy] 49
  have k0 := C0.cell 0
  have k1 := C0.cell 1
  have k2 := C0.cell 2
  have k3 := C0.cell 3
  simp only [List.getElem?_toArray, List.getElem?_cons_zero, List.getElem?_cons_succ] at k0 k1 k2 k3
  have B := (Below.refl w.heap.size w).alloc (Nat.le_refl _) (Obj.cells #[Value.int .i64 wd, Value.int .i64 hg, Value.int .i64 vx, Value.int .i64 vy] 49)
  have hv := h.below B
  generalize hw1 : w.alloc (Obj.cells #[Value.int .i64 wd, Value.int .i64 hg, Value.int .i64 vx, Value.int .i64 vy] 49) = w1 at *
  have HW1 := Lib.hid hw1
  by_cases hR : ViewV.Right ⟨wd, hg, vx, vy⟩
  · have e : pixel V.word ⟨wd, hg, vx, vy⟩ x y = pixV V.word (V.word (ViewV.py ⟨wd, hg, vx, vy⟩ y / 8 * wd + ViewV.px ⟨wd, hg, vx, vy⟩ x / 8)) (ViewV.py ⟨wd, hg, vx, vy⟩ y) (7 - ViewV.px ⟨wd, hg, vx, vy⟩ x % 8) := by unfold pixel; rw [if_pos hR]
    rw [e]
    clear e
    rcases hR with ⟨rfl | rfl | rfl, rfl | rfl⟩
    · have hp : ViewV.px ⟨32, 32, vx, vy⟩ x = (vx % 65536 + x % 65536) % 256 := rfl
      have hq : ViewV.py ⟨32, 32, vx, vy⟩ y = (vy % 65536 + y % 65536) % 256 := rfl
      rw [hp, hq]
      clear hp hq
      have c0 : 0 ≤ (vx % 65536 + x % 65536) % 256 ∧ (vx % 65536 + x % 65536) % 256 < 256 := by omega
      have c1 : 0 ≤ (vy % 65536 + y % 65536) % 256 ∧ (vy % 65536 + y % 65536) % 256 < 256 := by omega
      go_enter Try.func36, Try.ntmps36
      go_wp2_with fail
      clear hw1 HW1 C0
      go_quiet ((go_at_call 62; exact quiet_same (ref01_Word _ (by assumption) _)))
      replace k0 : (w1.drewN nq).cell? _ = _ := k0
      replace k1 : (w1.drewN nq).cell? _ = _ := k1
      replace k2 : (w1.drewN nq).cell? _ = _ := k2
      replace k3 : (w1.drewN nq).cell? _ = _ := k3
      replace hv := hv.drewN nq
      replace B := below_drewN B nq
      generalize w1.drewN nq = w2 at *
      go_wp2_with fail
      go_quiet ((go_at_call 62; exact quiet_same (ref01_Word _ (by assumption) _)))
      replace k0 : (w2.drewN nq).cell? _ = _ := k0
      replace k1 : (w2.drewN nq).cell? _ = _ := k1
      replace k2 : (w2.drewN nq).cell? _ = _ := k2
      replace k3 : (w2.drewN nq).cell? _ = _ := k3
      replace hv := hv.drewN nq
      replace B := below_drewN B nq
      generalize w2.drewN nq = w2 at *
      go_wp2_with fail
      generalize hP : (vx % 65536 + x % 65536) % 256 = P at *
      generalize hQ : (vy % 65536 + y % 65536) % 256 = Q at *
      have HP := Lib.hid hP
      have HQ := Lib.hid hQ
      clear hP hQ
      refine (ref13_Word hv _ (by omega)).mono ?_; rintro e w3 ⟨rfl, rfl⟩
      have hce := hv.ok.word (Q / 8 * 32 + P / 8)
      generalize hcell : V.word (Q / 8 * 32 + P / 8) = cell at *
      have HCell := Lib.hid hcell
      clear hcell
      go_wp2_with fail
      refine (ref13_Word hv _ (by omega)).mono ?_; rintro e w3 ⟨rfl, rfl⟩
      go_wp2_with fail
      refine (ref13_Word hv _ (by omega)).mono ?_; rintro e w3 ⟨rfl, rfl⟩
      have hC : pixC V.word cell Q (7 - P % 8) = bitI (V.word (cell % 4096 * 16 + Q % 8)) (7 - P % 8) + 2 * bitI (V.word (cell % 4096 * 16 + Q % 8)) (7 - P % 8 + 8) + 4 * bitI (V.word (cell % 4096 * 16 + Q % 8 + 8)) (7 - P % 8) + 8 * bitI (V.word (cell % 4096 * 16 + Q % 8 + 8)) (7 - P % 8 + 8) := rfl
      have ra := hv.ok.word (cell % 4096 * 16 + Q % 8)
      have rb := hv.ok.word (cell % 4096 * 16 + Q % 8 + 8)
      generalize V.word (cell % 4096 * 16 + Q % 8) = a at *
      generalize V.word (cell % 4096 * 16 + Q % 8 + 8) = b at *
      have r0 := bitI_range a (7 - P % 8)
      have r1 := bitI_range a (7 - P % 8 + 8)
      have r2 := bitI_range b (7 - P % 8)
      have r3 := bitI_range b (7 - P % 8 + 8)
      have HC := Lib.hid hC
      clear hC
      go_wp2_with fail
      refine (ref01_Bit a _ (by omega) _).mono ?_; rintro e w3 ⟨rfl, rfl⟩
      generalize bitI a (7 - P % 8) = b0 at *
      go_wp2_with fail
      refine (ref01_Bit a _ (by omega) _).mono ?_; rintro e w3 ⟨rfl, rfl⟩
      generalize bitI a (7 - P % 8 + 8) = b1 at *
      go_wp2_with fail
      refine (ref01_Bit b _ (by omega) _).mono ?_; rintro e w3 ⟨rfl, rfl⟩
      generalize bitI b (7 - P % 8) = b2 at *
      go_wp2_with fail
      refine (ref01_Bit b _ (by omega) _).mono ?_; rintro e w3 ⟨rfl, rfl⟩
      generalize bitI b (7 - P % 8 + 8) = b3 at *
      have hc := HC.out
      clear HC
      by_cases hz : b0 + 2 * b1 + 4 * b2 + 8 * b3 = 0
      · have hb : (b0 + 2 * b1 + 4 * b2 + 8 * b3 == 0) = true := by simpa using hz
        have hpv : pixV V.word cell Q (7 - P % 8) = 0 := by unfold pixV; rw [hc, if_pos hz]
        have HPV := Lib.hid hpv
        clear hpv hc hz
        go_wp2
        go_ret
        refine ⟨ret_int ?_, B⟩
        rw [HP.out, HQ.out, HCell.out, HPV.out]
      · have hb : (b0 + 2 * b1 + 4 * b2 + 8 * b3 == 0) = false := by simpa using hz
        have hpv : pixV V.word cell Q (7 - P % 8) = cell / 4096 * 16 + (b0 + 2 * b1 + 4 * b2 + 8 * b3) := by unfold pixV; rw [hc, if_neg hz]
        have HPV := Lib.hid hpv
        clear hpv hc hz
        go_wp2
        go_ret
        refine ⟨ret_int ?_, B⟩
        rw [HP.out, HQ.out, HCell.out, HPV.out]
    · have hp : ViewV.px ⟨32, 64, vx, vy⟩ x = (vx % 65536 + x % 65536) % 256 := rfl
      have hq : ViewV.py ⟨32, 64, vx, vy⟩ y = (vy % 65536 + y % 65536) % 512 := rfl
      rw [hp, hq]
      clear hp hq
      have c0 : 0 ≤ (vx % 65536 + x % 65536) % 256 ∧ (vx % 65536 + x % 65536) % 256 < 256 := by omega
      have c1 : 0 ≤ (vy % 65536 + y % 65536) % 512 ∧ (vy % 65536 + y % 65536) % 512 < 512 := by omega
      go_enter Try.func36, Try.ntmps36
      go_wp2_with fail
      clear hw1 HW1 C0
      go_quiet ((go_at_call 62; exact quiet_same (ref01_Word _ (by assumption) _)))
      replace k0 : (w1.drewN nq).cell? _ = _ := k0
      replace k1 : (w1.drewN nq).cell? _ = _ := k1
      replace k2 : (w1.drewN nq).cell? _ = _ := k2
      replace k3 : (w1.drewN nq).cell? _ = _ := k3
      replace hv := hv.drewN nq
      replace B := below_drewN B nq
      generalize w1.drewN nq = w2 at *
      go_wp2_with fail
      go_quiet ((go_at_call 62; exact quiet_same (ref01_Word _ (by assumption) _)))
      replace k0 : (w2.drewN nq).cell? _ = _ := k0
      replace k1 : (w2.drewN nq).cell? _ = _ := k1
      replace k2 : (w2.drewN nq).cell? _ = _ := k2
      replace k3 : (w2.drewN nq).cell? _ = _ := k3
      replace hv := hv.drewN nq
      replace B := below_drewN B nq
      generalize w2.drewN nq = w2 at *
      go_wp2_with fail
      generalize hP : (vx % 65536 + x % 65536) % 256 = P at *
      generalize hQ : (vy % 65536 + y % 65536) % 512 = Q at *
      have HP := Lib.hid hP
      have HQ := Lib.hid hQ
      clear hP hQ
      refine (ref13_Word hv _ (by omega)).mono ?_; rintro e w3 ⟨rfl, rfl⟩
      have hce := hv.ok.word (Q / 8 * 32 + P / 8)
      generalize hcell : V.word (Q / 8 * 32 + P / 8) = cell at *
      have HCell := Lib.hid hcell
      clear hcell
      go_wp2_with fail
      refine (ref13_Word hv _ (by omega)).mono ?_; rintro e w3 ⟨rfl, rfl⟩
      go_wp2_with fail
      refine (ref13_Word hv _ (by omega)).mono ?_; rintro e w3 ⟨rfl, rfl⟩
      have hC : pixC V.word cell Q (7 - P % 8) = bitI (V.word (cell % 4096 * 16 + Q % 8)) (7 - P % 8) + 2 * bitI (V.word (cell % 4096 * 16 + Q % 8)) (7 - P % 8 + 8) + 4 * bitI (V.word (cell % 4096 * 16 + Q % 8 + 8)) (7 - P % 8) + 8 * bitI (V.word (cell % 4096 * 16 + Q % 8 + 8)) (7 - P % 8 + 8) := rfl
      have ra := hv.ok.word (cell % 4096 * 16 + Q % 8)
      have rb := hv.ok.word (cell % 4096 * 16 + Q % 8 + 8)
      generalize V.word (cell % 4096 * 16 + Q % 8) = a at *
      generalize V.word (cell % 4096 * 16 + Q % 8 + 8) = b at *
      have r0 := bitI_range a (7 - P % 8)
      have r1 := bitI_range a (7 - P % 8 + 8)
      have r2 := bitI_range b (7 - P % 8)
      have r3 := bitI_range b (7 - P % 8 + 8)
      have HC := Lib.hid hC
      clear hC
      go_wp2_with fail
      refine (ref01_Bit a _ (by omega) _).mono ?_; rintro e w3 ⟨rfl, rfl⟩
      generalize bitI a (7 - P % 8) = b0 at *
      go_wp2_with fail
      refine (ref01_Bit a _ (by omega) _).mono ?_; rintro e w3 ⟨rfl, rfl⟩
      generalize bitI a (7 - P % 8 + 8) = b1 at *
      go_wp2_with fail
      refine (ref01_Bit b _ (by omega) _).mono ?_; rintro e w3 ⟨rfl, rfl⟩
      generalize bitI b (7 - P % 8) = b2 at *
      go_wp2_with fail
      refine (ref01_Bit b _ (by omega) _).mono ?_; rintro e w3 ⟨rfl, rfl⟩
      generalize bitI b (7 - P % 8 + 8) = b3 at *
      have hc := HC.out
      clear HC
      by_cases hz : b0 + 2 * b1 + 4 * b2 + 8 * b3 = 0
      · have hb : (b0 + 2 * b1 + 4 * b2 + 8 * b3 == 0) = true := by simpa using hz
        have hpv : pixV V.word cell Q (7 - P % 8) = 0 := by unfold pixV; rw [hc, if_pos hz]
        have HPV := Lib.hid hpv
        clear hpv hc hz
        go_wp2
        go_ret
        refine ⟨ret_int ?_, B⟩
        rw [HP.out, HQ.out, HCell.out, HPV.out]
      · have hb : (b0 + 2 * b1 + 4 * b2 + 8 * b3 == 0) = false := by simpa using hz
        have hpv : pixV V.word cell Q (7 - P % 8) = cell / 4096 * 16 + (b0 + 2 * b1 + 4 * b2 + 8 * b3) := by unfold pixV; rw [hc, if_neg hz]
        have HPV := Lib.hid hpv
        clear hpv hc hz
        go_wp2
        go_ret
        refine ⟨ret_int ?_, B⟩
        rw [HP.out, HQ.out, HCell.out, HPV.out]
    · have hp : ViewV.px ⟨64, 32, vx, vy⟩ x = (vx % 65536 + x % 65536) % 512 := rfl
      have hq : ViewV.py ⟨64, 32, vx, vy⟩ y = (vy % 65536 + y % 65536) % 256 := rfl
      rw [hp, hq]
      clear hp hq
      have c0 : 0 ≤ (vx % 65536 + x % 65536) % 512 ∧ (vx % 65536 + x % 65536) % 512 < 512 := by omega
      have c1 : 0 ≤ (vy % 65536 + y % 65536) % 256 ∧ (vy % 65536 + y % 65536) % 256 < 256 := by omega
      go_enter Try.func36, Try.ntmps36
      go_wp2_with fail
      clear hw1 HW1 C0
      go_quiet ((go_at_call 62; exact quiet_same (ref01_Word _ (by assumption) _)))
      replace k0 : (w1.drewN nq).cell? _ = _ := k0
      replace k1 : (w1.drewN nq).cell? _ = _ := k1
      replace k2 : (w1.drewN nq).cell? _ = _ := k2
      replace k3 : (w1.drewN nq).cell? _ = _ := k3
      replace hv := hv.drewN nq
      replace B := below_drewN B nq
      generalize w1.drewN nq = w2 at *
      go_wp2_with fail
      go_quiet ((go_at_call 62; exact quiet_same (ref01_Word _ (by assumption) _)))
      replace k0 : (w2.drewN nq).cell? _ = _ := k0
      replace k1 : (w2.drewN nq).cell? _ = _ := k1
      replace k2 : (w2.drewN nq).cell? _ = _ := k2
      replace k3 : (w2.drewN nq).cell? _ = _ := k3
      replace hv := hv.drewN nq
      replace B := below_drewN B nq
      generalize w2.drewN nq = w2 at *
      go_wp2_with fail
      generalize hP : (vx % 65536 + x % 65536) % 512 = P at *
      generalize hQ : (vy % 65536 + y % 65536) % 256 = Q at *
      have HP := Lib.hid hP
      have HQ := Lib.hid hQ
      clear hP hQ
      refine (ref13_Word hv _ (by omega)).mono ?_; rintro e w3 ⟨rfl, rfl⟩
      have hce := hv.ok.word (Q / 8 * 64 + P / 8)
      generalize hcell : V.word (Q / 8 * 64 + P / 8) = cell at *
      have HCell := Lib.hid hcell
      clear hcell
      go_wp2_with fail
      refine (ref13_Word hv _ (by omega)).mono ?_; rintro e w3 ⟨rfl, rfl⟩
      go_wp2_with fail
      refine (ref13_Word hv _ (by omega)).mono ?_; rintro e w3 ⟨rfl, rfl⟩
      have hC : pixC V.word cell Q (7 - P % 8) = bitI (V.word (cell % 4096 * 16 + Q % 8)) (7 - P % 8) + 2 * bitI (V.word (cell % 4096 * 16 + Q % 8)) (7 - P % 8 + 8) + 4 * bitI (V.word (cell % 4096 * 16 + Q % 8 + 8)) (7 - P % 8) + 8 * bitI (V.word (cell % 4096 * 16 + Q % 8 + 8)) (7 - P % 8 + 8) := rfl
      have ra := hv.ok.word (cell % 4096 * 16 + Q % 8)
      have rb := hv.ok.word (cell % 4096 * 16 + Q % 8 + 8)
      generalize V.word (cell % 4096 * 16 + Q % 8) = a at *
      generalize V.word (cell % 4096 * 16 + Q % 8 + 8) = b at *
      have r0 := bitI_range a (7 - P % 8)
      have r1 := bitI_range a (7 - P % 8 + 8)
      have r2 := bitI_range b (7 - P % 8)
      have r3 := bitI_range b (7 - P % 8 + 8)
      have HC := Lib.hid hC
      clear hC
      go_wp2_with fail
      refine (ref01_Bit a _ (by omega) _).mono ?_; rintro e w3 ⟨rfl, rfl⟩
      generalize bitI a (7 - P % 8) = b0 at *
      go_wp2_with fail
      refine (ref01_Bit a _ (by omega) _).mono ?_; rintro e w3 ⟨rfl, rfl⟩
      generalize bitI a (7 - P % 8 + 8) = b1 at *
      go_wp2_with fail
      refine (ref01_Bit b _ (by omega) _).mono ?_; rintro e w3 ⟨rfl, rfl⟩
      generalize bitI b (7 - P % 8) = b2 at *
      go_wp2_with fail
      refine (ref01_Bit b _ (by omega) _).mono ?_; rintro e w3 ⟨rfl, rfl⟩
      generalize bitI b (7 - P % 8 + 8) = b3 at *
      have hc := HC.out
      clear HC
      by_cases hz : b0 + 2 * b1 + 4 * b2 + 8 * b3 = 0
      · have hb : (b0 + 2 * b1 + 4 * b2 + 8 * b3 == 0) = true := by simpa using hz
        have hpv : pixV V.word cell Q (7 - P % 8) = 0 := by unfold pixV; rw [hc, if_pos hz]
        have HPV := Lib.hid hpv
        clear hpv hc hz
        go_wp2
        go_ret
        refine ⟨ret_int ?_, B⟩
        rw [HP.out, HQ.out, HCell.out, HPV.out]
      · have hb : (b0 + 2 * b1 + 4 * b2 + 8 * b3 == 0) = false := by simpa using hz
        have hpv : pixV V.word cell Q (7 - P % 8) = cell / 4096 * 16 + (b0 + 2 * b1 + 4 * b2 + 8 * b3) := by unfold pixV; rw [hc, if_neg hz]
        have HPV := Lib.hid hpv
        clear hpv hc hz
        go_wp2
        go_ret
        refine ⟨ret_int ?_, B⟩
        rw [HP.out, HQ.out, HCell.out, HPV.out]
    · have hp : ViewV.px ⟨64, 64, vx, vy⟩ x = (vx % 65536 + x % 65536) % 512 := rfl
      have hq : ViewV.py ⟨64, 64, vx, vy⟩ y = (vy % 65536 + y % 65536) % 512 := rfl
      rw [hp, hq]
      clear hp hq
      have c0 : 0 ≤ (vx % 65536 + x % 65536) % 512 ∧ (vx % 65536 + x % 65536) % 512 < 512 := by omega
      have c1 : 0 ≤ (vy % 65536 + y % 65536) % 512 ∧ (vy % 65536 + y % 65536) % 512 < 512 := by omega
      go_enter Try.func36, Try.ntmps36
      go_wp2_with fail
      clear hw1 HW1 C0
      go_quiet ((go_at_call 62; exact quiet_same (ref01_Word _ (by assumption) _)))
      replace k0 : (w1.drewN nq).cell? _ = _ := k0
      replace k1 : (w1.drewN nq).cell? _ = _ := k1
      replace k2 : (w1.drewN nq).cell? _ = _ := k2
      replace k3 : (w1.drewN nq).cell? _ = _ := k3
      replace hv := hv.drewN nq
      replace B := below_drewN B nq
      generalize w1.drewN nq = w2 at *
      go_wp2_with fail
      go_quiet ((go_at_call 62; exact quiet_same (ref01_Word _ (by assumption) _)))
      replace k0 : (w2.drewN nq).cell? _ = _ := k0
      replace k1 : (w2.drewN nq).cell? _ = _ := k1
      replace k2 : (w2.drewN nq).cell? _ = _ := k2
      replace k3 : (w2.drewN nq).cell? _ = _ := k3
      replace hv := hv.drewN nq
      replace B := below_drewN B nq
      generalize w2.drewN nq = w2 at *
      go_wp2_with fail
      generalize hP : (vx % 65536 + x % 65536) % 512 = P at *
      generalize hQ : (vy % 65536 + y % 65536) % 512 = Q at *
      have HP := Lib.hid hP
      have HQ := Lib.hid hQ
      clear hP hQ
      refine (ref13_Word hv _ (by omega)).mono ?_; rintro e w3 ⟨rfl, rfl⟩
      have hce := hv.ok.word (Q / 8 * 64 + P / 8)
      generalize hcell : V.word (Q / 8 * 64 + P / 8) = cell at *
      have HCell := Lib.hid hcell
      clear hcell
      go_wp2_with fail
      refine (ref13_Word hv _ (by omega)).mono ?_; rintro e w3 ⟨rfl, rfl⟩
      go_wp2_with fail
      refine (ref13_Word hv _ (by omega)).mono ?_; rintro e w3 ⟨rfl, rfl⟩
      have hC : pixC V.word cell Q (7 - P % 8) = bitI (V.word (cell % 4096 * 16 + Q % 8)) (7 - P % 8) + 2 * bitI (V.word (cell % 4096 * 16 + Q % 8)) (7 - P % 8 + 8) + 4 * bitI (V.word (cell % 4096 * 16 + Q % 8 + 8)) (7 - P % 8) + 8 * bitI (V.word (cell % 4096 * 16 + Q % 8 + 8)) (7 - P % 8 + 8) := rfl
      have ra := hv.ok.word (cell % 4096 * 16 + Q % 8)
      have rb := hv.ok.word (cell % 4096 * 16 + Q % 8 + 8)
      generalize V.word (cell % 4096 * 16 + Q % 8) = a at *
      generalize V.word (cell % 4096 * 16 + Q % 8 + 8) = b at *
      have r0 := bitI_range a (7 - P % 8)
      have r1 := bitI_range a (7 - P % 8 + 8)
      have r2 := bitI_range b (7 - P % 8)
      have r3 := bitI_range b (7 - P % 8 + 8)
      have HC := Lib.hid hC
      clear hC
      go_wp2_with fail
      refine (ref01_Bit a _ (by omega) _).mono ?_; rintro e w3 ⟨rfl, rfl⟩
      generalize bitI a (7 - P % 8) = b0 at *
      go_wp2_with fail
      refine (ref01_Bit a _ (by omega) _).mono ?_; rintro e w3 ⟨rfl, rfl⟩
      generalize bitI a (7 - P % 8 + 8) = b1 at *
      go_wp2_with fail
      refine (ref01_Bit b _ (by omega) _).mono ?_; rintro e w3 ⟨rfl, rfl⟩
      generalize bitI b (7 - P % 8) = b2 at *
      go_wp2_with fail
      refine (ref01_Bit b _ (by omega) _).mono ?_; rintro e w3 ⟨rfl, rfl⟩
      generalize bitI b (7 - P % 8 + 8) = b3 at *
      have hc := HC.out
      clear HC
      by_cases hz : b0 + 2 * b1 + 4 * b2 + 8 * b3 = 0
      · have hb : (b0 + 2 * b1 + 4 * b2 + 8 * b3 == 0) = true := by simpa using hz
        have hpv : pixV V.word cell Q (7 - P % 8) = 0 := by unfold pixV; rw [hc, if_pos hz]
        have HPV := Lib.hid hpv
        clear hpv hc hz
        go_wp2
        go_ret
        refine ⟨ret_int ?_, B⟩
        rw [HP.out, HQ.out, HCell.out, HPV.out]
      · have hb : (b0 + 2 * b1 + 4 * b2 + 8 * b3 == 0) = false := by simpa using hz
        have hpv : pixV V.word cell Q (7 - P % 8) = cell / 4096 * 16 + (b0 + 2 * b1 + 4 * b2 + 8 * b3) := by unfold pixV; rw [hc, if_neg hz]
        have HPV := Lib.hid hpv
        clear hpv hc hz
        go_wp2
        go_ret
        refine ⟨ret_int ?_, B⟩
        rw [HP.out, HQ.out, HCell.out, HPV.out]
    · have hp : ViewV.px ⟨128, 32, vx, vy⟩ x = (vx % 65536 + x % 65536) % 1024 := rfl
      have hq : ViewV.py ⟨128, 32, vx, vy⟩ y = (vy % 65536 + y % 65536) % 256 := rfl
      rw [hp, hq]
      clear hp hq
      have c0 : 0 ≤ (vx % 65536 + x % 65536) % 1024 ∧ (vx % 65536 + x % 65536) % 1024 < 1024 := by omega
      have c1 : 0 ≤ (vy % 65536 + y % 65536) % 256 ∧ (vy % 65536 + y % 65536) % 256 < 256 := by omega
      go_enter Try.func36, Try.ntmps36
      go_wp2_with fail
      clear hw1 HW1 C0
      go_quiet ((go_at_call 62; exact quiet_same (ref01_Word _ (by assumption) _)))
      replace k0 : (w1.drewN nq).cell? _ = _ := k0
      replace k1 : (w1.drewN nq).cell? _ = _ := k1
      replace k2 : (w1.drewN nq).cell? _ = _ := k2
      replace k3 : (w1.drewN nq).cell? _ = _ := k3
      replace hv := hv.drewN nq
      replace B := below_drewN B nq
      generalize w1.drewN nq = w2 at *
      go_wp2_with fail
      go_quiet ((go_at_call 62; exact quiet_same (ref01_Word _ (by assumption) _)))
      replace k0 : (w2.drewN nq).cell? _ = _ := k0
      replace k1 : (w2.drewN nq).cell? _ = _ := k1
      replace k2 : (w2.drewN nq).cell? _ = _ := k2
      replace k3 : (w2.drewN nq).cell? _ = _ := k3
      replace hv := hv.drewN nq
      replace B := below_drewN B nq
      generalize w2.drewN nq = w2 at *
      go_wp2_with fail
      generalize hP : (vx % 65536 + x % 65536) % 1024 = P at *
      generalize hQ : (vy % 65536 + y % 65536) % 256 = Q at *
      have HP := Lib.hid hP
      have HQ := Lib.hid hQ
      clear hP hQ
      refine (ref13_Word hv _ (by omega)).mono ?_; rintro e w3 ⟨rfl, rfl⟩
      have hce := hv.ok.word (Q / 8 * 128 + P / 8)
      generalize hcell : V.word (Q / 8 * 128 + P / 8) = cell at *
      have HCell := Lib.hid hcell
      clear hcell
      go_wp2_with fail
      refine (ref13_Word hv _ (by omega)).mono ?_; rintro e w3 ⟨rfl, rfl⟩
      go_wp2_with fail
      refine (ref13_Word hv _ (by omega)).mono ?_; rintro e w3 ⟨rfl, rfl⟩
      have hC : pixC V.word cell Q (7 - P % 8) = bitI (V.word (cell % 4096 * 16 + Q % 8)) (7 - P % 8) + 2 * bitI (V.word (cell % 4096 * 16 + Q % 8)) (7 - P % 8 + 8) + 4 * bitI (V.word (cell % 4096 * 16 + Q % 8 + 8)) (7 - P % 8) + 8 * bitI (V.word (cell % 4096 * 16 + Q % 8 + 8)) (7 - P % 8 + 8) := rfl
      have ra := hv.ok.word (cell % 4096 * 16 + Q % 8)
      have rb := hv.ok.word (cell % 4096 * 16 + Q % 8 + 8)
      generalize V.word (cell % 4096 * 16 + Q % 8) = a at *
      generalize V.word (cell % 4096 * 16 + Q % 8 + 8) = b at *
      have r0 := bitI_range a (7 - P % 8)
      have r1 := bitI_range a (7 - P % 8 + 8)
      have r2 := bitI_range b (7 - P % 8)
      have r3 := bitI_range b (7 - P % 8 + 8)
      have HC := Lib.hid hC
      clear hC
      go_wp2_with fail
      refine (ref01_Bit a _ (by omega) _).mono ?_; rintro e w3 ⟨rfl, rfl⟩
      generalize bitI a (7 - P % 8) = b0 at *
      go_wp2_with fail
      refine (ref01_Bit a _ (by omega) _).mono ?_; rintro e w3 ⟨rfl, rfl⟩
      generalize bitI a (7 - P % 8 + 8) = b1 at *
      go_wp2_with fail
      refine (ref01_Bit b _ (by omega) _).mono ?_; rintro e w3 ⟨rfl, rfl⟩
      generalize bitI b (7 - P % 8) = b2 at *
      go_wp2_with fail
      refine (ref01_Bit b _ (by omega) _).mono ?_; rintro e w3 ⟨rfl, rfl⟩
      generalize bitI b (7 - P % 8 + 8) = b3 at *
      have hc := HC.out
      clear HC
      by_cases hz : b0 + 2 * b1 + 4 * b2 + 8 * b3 = 0
      · have hb : (b0 + 2 * b1 + 4 * b2 + 8 * b3 == 0) = true := by simpa using hz
        have hpv : pixV V.word cell Q (7 - P % 8) = 0 := by unfold pixV; rw [hc, if_pos hz]
        have HPV := Lib.hid hpv
        clear hpv hc hz
        go_wp2
        go_ret
        refine ⟨ret_int ?_, B⟩
        rw [HP.out, HQ.out, HCell.out, HPV.out]
      · have hb : (b0 + 2 * b1 + 4 * b2 + 8 * b3 == 0) = false := by simpa using hz
        have hpv : pixV V.word cell Q (7 - P % 8) = cell / 4096 * 16 + (b0 + 2 * b1 + 4 * b2 + 8 * b3) := by unfold pixV; rw [hc, if_neg hz]
        have HPV := Lib.hid hpv
        clear hpv hc hz
        go_wp2
        go_ret
        refine ⟨ret_int ?_, B⟩
        rw [HP.out, HQ.out, HCell.out, HPV.out]
    · have hp : ViewV.px ⟨128, 64, vx, vy⟩ x = (vx % 65536 + x % 65536) % 1024 := rfl
      have hq : ViewV.py ⟨128, 64, vx, vy⟩ y = (vy % 65536 + y % 65536) % 512 := rfl
      rw [hp, hq]
      clear hp hq
      have c0 : 0 ≤ (vx % 65536 + x % 65536) % 1024 ∧ (vx % 65536 + x % 65536) % 1024 < 1024 := by omega
      have c1 : 0 ≤ (vy % 65536 + y % 65536) % 512 ∧ (vy % 65536 + y % 65536) % 512 < 512 := by omega
      go_enter Try.func36, Try.ntmps36
      go_wp2_with fail
      clear hw1 HW1 C0
      go_quiet ((go_at_call 62; exact quiet_same (ref01_Word _ (by assumption) _)))
      replace k0 : (w1.drewN nq).cell? _ = _ := k0
      replace k1 : (w1.drewN nq).cell? _ = _ := k1
      replace k2 : (w1.drewN nq).cell? _ = _ := k2
      replace k3 : (w1.drewN nq).cell? _ = _ := k3
      replace hv := hv.drewN nq
      replace B := below_drewN B nq
      generalize w1.drewN nq = w2 at *
      go_wp2_with fail
      go_quiet ((go_at_call 62; exact quiet_same (ref01_Word _ (by assumption) _)))
      replace k0 : (w2.drewN nq).cell? _ = _ := k0
      replace k1 : (w2.drewN nq).cell? _ = _ := k1
      replace k2 : (w2.drewN nq).cell? _ = _ := k2
      replace k3 : (w2.drewN nq).cell? _ = _ := k3
      replace hv := hv.drewN nq
      replace B := below_drewN B nq
      generalize w2.drewN nq = w2 at *
      go_wp2_with fail
      generalize hP : (vx % 65536 + x % 65536) % 1024 = P at *
      generalize hQ : (vy % 65536 + y % 65536) % 512 = Q at *
      have HP := Lib.hid hP
      have HQ := Lib.hid hQ
      clear hP hQ
      refine (ref13_Word hv _ (by omega)).mono ?_; rintro e w3 ⟨rfl, rfl⟩
      have hce := hv.ok.word (Q / 8 * 128 + P / 8)
      generalize hcell : V.word (Q / 8 * 128 + P / 8) = cell at *
      have HCell := Lib.hid hcell
      clear hcell
      go_wp2_with fail
      refine (ref13_Word hv _ (by omega)).mono ?_; rintro e w3 ⟨rfl, rfl⟩
      go_wp2_with fail
      refine (ref13_Word hv _ (by omega)).mono ?_; rintro e w3 ⟨rfl, rfl⟩
      have hC : pixC V.word cell Q (7 - P % 8) = bitI (V.word (cell % 4096 * 16 + Q % 8)) (7 - P % 8) + 2 * bitI (V.word (cell % 4096 * 16 + Q % 8)) (7 - P % 8 + 8) + 4 * bitI (V.word (cell % 4096 * 16 + Q % 8 + 8)) (7 - P % 8) + 8 * bitI (V.word (cell % 4096 * 16 + Q % 8 + 8)) (7 - P % 8 + 8) := rfl
      have ra := hv.ok.word (cell % 4096 * 16 + Q % 8)
      have rb := hv.ok.word (cell % 4096 * 16 + Q % 8 + 8)
      generalize V.word (cell % 4096 * 16 + Q % 8) = a at *
      generalize V.word (cell % 4096 * 16 + Q % 8 + 8) = b at *
      have r0 := bitI_range a (7 - P % 8)
      have r1 := bitI_range a (7 - P % 8 + 8)
      have r2 := bitI_range b (7 - P % 8)
      have r3 := bitI_range b (7 - P % 8 + 8)
      have HC := Lib.hid hC
      clear hC
      go_wp2_with fail
      refine (ref01_Bit a _ (by omega) _).mono ?_; rintro e w3 ⟨rfl, rfl⟩
      generalize bitI a (7 - P % 8) = b0 at *
      go_wp2_with fail
      refine (ref01_Bit a _ (by omega) _).mono ?_; rintro e w3 ⟨rfl, rfl⟩
      generalize bitI a (7 - P % 8 + 8) = b1 at *
      go_wp2_with fail
      refine (ref01_Bit b _ (by omega) _).mono ?_; rintro e w3 ⟨rfl, rfl⟩
      generalize bitI b (7 - P % 8) = b2 at *
      go_wp2_with fail
      refine (ref01_Bit b _ (by omega) _).mono ?_; rintro e w3 ⟨rfl, rfl⟩
      generalize bitI b (7 - P % 8 + 8) = b3 at *
      have hc := HC.out
      clear HC
      by_cases hz : b0 + 2 * b1 + 4 * b2 + 8 * b3 = 0
      · have hb : (b0 + 2 * b1 + 4 * b2 + 8 * b3 == 0) = true := by simpa using hz
        have hpv : pixV V.word cell Q (7 - P % 8) = 0 := by unfold pixV; rw [hc, if_pos hz]
        have HPV := Lib.hid hpv
        clear hpv hc hz
        go_wp2
        go_ret
        refine ⟨ret_int ?_, B⟩
        rw [HP.out, HQ.out, HCell.out, HPV.out]
      · have hb : (b0 + 2 * b1 + 4 * b2 + 8 * b3 == 0) = false := by simpa using hz
        have hpv : pixV V.word cell Q (7 - P % 8) = cell / 4096 * 16 + (b0 + 2 * b1 + 4 * b2 + 8 * b3) := by unfold pixV; rw [hc, if_neg hz]
        have HPV := Lib.hid hpv
        clear hpv hc hz
        go_wp2
        go_ret
        refine ⟨ret_int ?_, B⟩
        rw [HP.out, HQ.out, HCell.out, HPV.out]
  · have e : pixel V.word ⟨wd, hg, vx, vy⟩ x y = 0 := by unfold pixel; rw [if_neg hR]
    rw [e]
    subst hw1
    clear e C0
    rcases (show (wd = 32 ∨ wd = 64 ∨ wd = 128) ∨ (wd ≠ 32 ∧ wd ≠ 64 ∧ wd ≠ 128) by omega) with hw | ⟨h1, h2, h3⟩
    · have g1 : (hg != 32) = true := by
        have : hg ≠ 32 := fun e => hR ⟨hw, Or.inl e⟩
        simpa using this
      have g2 : (hg != 64) = true := by
        have : hg ≠ 64 := fun e => hR ⟨hw, Or.inr e⟩
        simpa using this
      clear hR HW1
      rcases hw with rfl | rfl | rfl
      · go_enter Try.func36, Try.ntmps36
        go_wp2
        go_ret
        exact ⟨rfl, (Below.refl w.heap.size w).alloc (Nat.le_refl _) _⟩
      · go_enter Try.func36, Try.ntmps36
        go_wp2
        go_ret
        exact ⟨rfl, (Below.refl w.heap.size w).alloc (Nat.le_refl _) _⟩
      · go_enter Try.func36, Try.ntmps36
        go_wp2
        go_ret
        exact ⟨rfl, (Below.refl w.heap.size w).alloc (Nat.le_refl _) _⟩
    · have g1 : (wd != 32) = true := by simpa using h1
      have g2 : (wd != 64) = true := by simpa using h2
      have g3 : (wd != 128) = true := by simpa using h3
      clear hR HW1 h1 h2 h3
      go_enter Try.func36, Try.ntmps36
      go_wp2
      go_ret
      exact ⟨rfl, (Below.refl w.heap.size w).alloc (Nat.le_refl _) _⟩
end Go.Proofs.Ytlhnfllfankjhaa
