/- Contracts: a sprite's pixels of a line, onto a picture. -/
import Derived.Test.YtlhnfllfankjhaaSpB
namespace Go.Proofs.Ytlhnfllfankjhaa
open Go Go.RowKit
set_option linter.unusedSimpArgs false
set_option linter.unusedVariables false
set_option maxRecDepth 100000

theorem SS.dot_zero (S : SS) (n : Nat) (k : Int) (s : SpV) (x : Int) : S.dot n k s x 0 = S := by unfold SS.dot; rw [if_neg (fun h => h.2 rfl)]
theorem run_index4' (a b c d : Int) (w : World) : ∀ i : Nat, i = 0 ∨ i = 1 ∨ i = 2 ∨ i = 3 → (Instr.index 23 (aggI [a, b, c, d]) (.int .i64 i)).run Try.prog w = .ok (.int .i64 (nth 0 [a, b, c, d] i)) w := by
  have h0 : (Instr.index 23 (aggI [a, b, c, d]) (.int .i64 0)).run Try.prog w = .ok (.int .i64 a) w := by kernel_rfl
  have h1 : (Instr.index 23 (aggI [a, b, c, d]) (.int .i64 1)).run Try.prog w = .ok (.int .i64 b) w := by kernel_rfl
  have h2 : (Instr.index 23 (aggI [a, b, c, d]) (.int .i64 2)).run Try.prog w = .ok (.int .i64 c) w := by kernel_rfl
  have h3 : (Instr.index 23 (aggI [a, b, c, d]) (.int .i64 3)).run Try.prog w = .ok (.int .i64 d) w := by kernel_rfl
  rintro i (rfl | rfl | rfl | rfl)
  · exact h0
  · exact h1
  · exact h2
  · exact h3
theorem run_index4 (xs : List Int) (hl : xs.length = 4) (i : Nat) (h4 : i < 4) (w : World) : (Instr.index 23 (aggI xs) (.int .i64 i)).run Try.prog w = .ok (.int .i64 (nth 0 xs i)) w := by
  match xs, hl with
  | [a, b, c, d], _ => exact run_index4' a b c d w i (by omega)
theorem PicAt.tr_below {w w' : World} {bs bw bh bk bf bp gc gf gi n : Nat} {s : SpV} {k : Int} {S : SS} (h : PicAt w bs bw bh bk bf bp gc gf gi s n k S) (hb : Below w.heap.size w w') : PicAt w' bs bw bh bk bf bp gc gf gi s n k S ∧ Tr [bh, gc, gf, gi] w w' := ⟨h.below hb, Tr.of_below0 hb⟩

set_option maxHeartbeats 4000000 in
theorem sprites_pixels {w : World} {pv : Value} {f : Int → Int} {bs bw bh bk bf bp gc gf gi n : Nat} {s : SpV} {k : Int} {S : SS} (h : PicAt w bs bw bh bk bf bp gc gf gi s n k S) (hW : ∀ wq, Tr [bh, gc, gf, gi] w wq → Words wq pv f) (hs : s.In) (hn : n ≤ 512) (y : Int) (hy : s.on y) :
    Calls Try.prog 76 #[.agg s.cells, pv, .int .i64 y, .func (.func 77) #[] #[.pointer (some ⟨bs, 0, none⟩), .pointer (some ⟨bw, 0, none⟩), .pointer (some ⟨bh, 0, none⟩), .pointer (some ⟨bk, 0, none⟩), .pointer (some ⟨bf, 0, none⟩), .pointer (some ⟨bp, 0, none⟩)]] w fun e w' =>
      e = .returned (.tuple #[]) ∧ PicAt w' bs bw bh bk bf bp gc gf gi s n k (S.sp f n k s y s.W.toNat) ∧ Tr [bh, gc, gf, gi] w w' := by
  have k1 : s.cells[1]? = some (.int .i64 s.Y) := rfl
  have k3 : s.cells[3]? = some (.int .i64 s.W) := rfl
  have k4 : s.cells[4]? = some (.int .i64 s.H) := rfl
  have k7 : s.cells[7]? = some (.bool s.fx) := rfl
  have k8 : s.cells[8]? = some (.bool s.fy) := rfl
  have hrow := SpV.row_in hs hy
  have hY := hs.Y
  have hWd := hs.W
  have hH := hs.H
  obtain ⟨hy1, hy2⟩ := hy
  have A4 := Blk.new w s.cells 88
  have h0 := h.below ((Below.refl w.heap.size w).alloc (Nat.le_refl _) (Obj.cells s.cells 88))
  have T0 : Tr [bh, gc, gf, gi] w (w.alloc (Obj.cells s.cells 88)) := Tr.of_below0 ((Below.refl w.heap.size w).alloc (Nat.le_refl _) _)
  have hlt : bh < w.heap.size ∧ gc < w.heap.size ∧ gf < w.heap.size ∧ gi < w.heap.size := ⟨Blk.lt h.hit, Blk.lt h.cols, Blk.lt h.front, Blk.lt h.first⟩
  have e2 : s.W = (s.W.toNat : Int) := by omega
  obtain ⟨m, hm⟩ : ∃ m : Nat, s.W = m := ⟨s.W.toNat, e2⟩
  have hm2 : s.W.toNat = m := by omega
  rw [hm2]
  clear e2 hm2
  have hx : (s.fy = false ∧ y - s.Y = s.row y) ∨ (s.fy = true ∧ s.H - 1 - (y - s.Y) = s.row y) := by
    rcases hfy : s.fy
    · exact .inl ⟨rfl, by unfold SpV.row; rw [hfy, if_neg (by decide)]⟩
    · exact .inr ⟨rfl, by unfold SpV.row; rw [hfy, if_pos rfl]⟩
  rcases hx with ⟨hfy, hre⟩ | ⟨hfy, hre⟩
  all_goals
    rw [hfy] at k8
    have HR := Lib.hid hre
    clear hre hfy
    go_enter Try.func76, Try.ntmps76
    go_wp2_with fail
    rw [HR.out]
    clear HR k1 k4 k8 hH hY hy1 hy2
    generalize hr : s.row y = r at *
    have HRow := Lib.hid hr
    clear hr
    generalize w.alloc (Obj.cells s.cells 88) = w1 at *
    go_loopw [27] (fun i wr => ∃ j : Nat, i = .int .i64 j ∧ j ≤ m ∧ PicAt wr bs bw bh bk bf bp gc gf gi s n k (S.sp f n k s y j) ∧ Blk wr w.heap.size s.cells 88 ∧ Tr [bh, gc, gf, gi] w wr) (fun i _ => m - (intOf i).toNat)
    case atStart => exact ⟨0, rfl, by omega, h0, A4, T0⟩
    case round =>
      clear h0 A4 T0 h
      obtain ⟨j, rfl, hj, h, A4, T⟩ := hrel
      have s1 := T.size
      by_cases hjm : j < m
      · have d1 : decide ((j : Int) < (m : Int)) = true := by simpa using hjm
        have hcol := SpV.col_in hs (i := j) (by omega) (by omega)
        have hpx : s.px f y j = s.dot f r (s.col j) := by unfold SpV.px; rw [HRow.out]
        have hx2 : (s.fx = false ∧ (j : Int) = s.col j) ∨ (s.fx = true ∧ (m : Int) - 1 - j = s.col j) := by
          rcases hfx : s.fx
          · exact .inl ⟨rfl, by unfold SpV.col; rw [hfx, if_neg (by decide)]⟩
          · exact .inr ⟨rfl, by unfold SpV.col; rw [hfx, if_pos rfl, hm]⟩
        have HPX := Lib.hid hpx
        clear hpx
        have i1 : (j : Int) < (m : Int) := by omega
        rcases hx2 with ⟨hfx, hce⟩ | ⟨hfx, hce⟩
        · rw [hfx] at k7
          have HC := Lib.hid hce
          rw [← hce] at hcol
          have hpx := HPX.out
          rw [← hce] at hpx
          clear HPX
          have HPX := Lib.hid hpx
          clear hfx hce hpx
          have c7 := (Blk.cell A4 7).trans k7
          have c3 := (Blk.cell A4 3).trans k3
          go_wp2_with (refine wpList_load_row rfl 88 _ rfl w.heap.size rfl 88 s.cells (0, 0) _ A4 Try.underlying88 rfl t9o ?_)
          clear HC c7 c3 k7
          refine (sprites_words (hW _ T) s hs r ((j : Int) / 16) hrow (by omega)).mono ?_; rintro e w2 ⟨rfl, b2⟩
          obtain ⟨h2, T2⟩ := h.tr_below b2
          have A2 := Blk.below A4 b2
          replace T2 := T.trans T2
          clear b2 h A4 T
          have hpl := planes_length f (s.place r ((j : Int) / 16)) 4
          have hpn := nth_planes f (s.place r ((j : Int) / 16))
          have hbit : ∀ p : Nat, bitI (f (s.place r ((j : Int) / 16) + 16 * p)) (15 - (j : Int) % 16) = s.bit f r (j : Int) p := fun _ => rfl
          have HPN := Lib.hid hpn
          have HBIT := Lib.hid hbit
          clear hpn hbit
          generalize planes f (s.place r ((j : Int) / 16)) 4 = pl at *
          go_wp2_with fail
          go_loopw [11, 44] (fun c i wr => ∃ p : Nat, i = .int .i64 p ∧ p ≤ 4 ∧ c = .int .i64 (pxTo (s.bit f r (j : Int)) p) ∧ w2 = wr) (fun _ i _ => 4 - (intOf i).toNat)
          case atStart => exact ⟨0, rfl, by omega, rfl, rfl⟩
          case round =>
            obtain ⟨p, rfl, hp, rfl, rfl⟩ := hrel
            by_cases hp4 : p < 4
            · have d2 : decide ((p : Int) < 4) = true := by simp; omega
              have hix := run_index4 pl hpl p hp4
              rw [HPN.out p hp4] at hix
              have i2 : (p : Int) < 4 := by omega
              go_wp2_with fail
              refine (bits_Bit _ _ _).mono ?_; rintro e w4 ⟨rfl, rfl⟩
              rw [HBIT.out]
              have hb1 := s.bit_in f r (j : Int) p
              have hor := or_low p hp4 (pxTo (s.bit f r (j : Int)) p) (s.bit f r (j : Int) p) (pxTo_in (s.bit_in f r (j : Int)) p) hb1
              have hsucc : pxTo (s.bit f r (j : Int)) p + 2 ^ p * s.bit f r (j : Int) p = pxTo (s.bit f r (j : Int)) (p + 1) := rfl
              rw [hsucc] at hor
              have hsh : wrap64 (s.bit f r (j : Int) p * 2 ^ p) = s.bit f r (j : Int) p * 2 ^ p := by
                generalize s.bit f r (j : Int) p = b at *
                rcases (show p = 0 ∨ p = 1 ∨ p = 2 ∨ p = 3 by omega) with rfl | rfl | rfl | rfl <;> rcases (show b = 0 ∨ b = 1 by omega) with rfl | rfl <;> decide +kernel
              have HOR := Lib.hid hor
              clear hsucc hor HPN HBIT
              generalize s.bit f r (j : Int) p = b at *
              go_wp2_with fail
              rw [HOR.out]
              exact ⟨⟨p + 1, rfl, by omega, rfl, trivial⟩, by simp [intOf]; omega⟩
            · obtain rfl : p = 4 := by omega
              have hdot : pxTo (s.bit f r (j : Int)) 4 = s.dot f r (j : Int) := rfl
              have hdi := s.dot_in f r (j : Int)
              rw [hdot]
              clear hdot HPN HBIT
              have hsp : (S.sp f n k s y j).dot n k s (s.X + j) (s.dot f r (j : Int)) = S.sp f n k s y (j + 1) := by rw [SS.sp_succ, HPX.out]
              generalize s.dot f r (j : Int) = c at *
              by_cases hc0 : c = 0
              · subst hc0
                rw [SS.dot_zero] at hsp
                have HSP := Lib.hid hsp
                clear hsp
                go_wp2
                go_roundw
                case rel => exact ⟨j + 1, rfl, by omega, by rw [← HSP.out]; exact h2, A2, T2⟩
                case measure => simp [intOf]; omega
              · have qc : (c != 0) = true := by simpa using hc0
                have HSP := Lib.hid hsp
                clear hsp
                go_wp2_with fail
                refine (line_dot h2 hs hn (j : Int) c (by omega) (by omega)).mono ?_; rintro e w5 ⟨rfl, h5, T5⟩
                rw [HSP.out] at h5
                have A5 := Blk.tr A2 T5 (by simp; omega)
                have T6 := T2.trans T5
                clear h2 A2 T2 T5
                go_wp2
                go_roundw
                case rel => exact ⟨j + 1, rfl, by omega, h5, A5, T6⟩
                case measure => simp [intOf]; omega
        · rw [hfx] at k7
          have HC := Lib.hid hce
          clear hfx hce
          have c7 := (Blk.cell A4 7).trans k7
          have c3 := (Blk.cell A4 3).trans k3
          go_wp2_with (refine wpList_load_row rfl 88 _ rfl w.heap.size rfl 88 s.cells (0, 0) _ A4 Try.underlying88 rfl t9o ?_)
          rw [HC.out]
          generalize s.col (j : Int) = cc at *
          clear HC c7 c3 k7
          refine (sprites_words (hW _ T) s hs r (cc / 16) hrow (by omega)).mono ?_; rintro e w2 ⟨rfl, b2⟩
          obtain ⟨h2, T2⟩ := h.tr_below b2
          have A2 := Blk.below A4 b2
          replace T2 := T.trans T2
          clear b2 h A4 T
          have hpl := planes_length f (s.place r (cc / 16)) 4
          have hpn := nth_planes f (s.place r (cc / 16))
          have hbit : ∀ p : Nat, bitI (f (s.place r (cc / 16) + 16 * p)) (15 - cc % 16) = s.bit f r cc p := fun _ => rfl
          have HPN := Lib.hid hpn
          have HBIT := Lib.hid hbit
          clear hpn hbit
          generalize planes f (s.place r (cc / 16)) 4 = pl at *
          go_wp2_with fail
          go_loopw [11, 44] (fun c i wr => ∃ p : Nat, i = .int .i64 p ∧ p ≤ 4 ∧ c = .int .i64 (pxTo (s.bit f r cc) p) ∧ w2 = wr) (fun _ i _ => 4 - (intOf i).toNat)
          case atStart => exact ⟨0, rfl, by omega, rfl, rfl⟩
          case round =>
            obtain ⟨p, rfl, hp, rfl, rfl⟩ := hrel
            by_cases hp4 : p < 4
            · have d2 : decide ((p : Int) < 4) = true := by simp; omega
              have hix := run_index4 pl hpl p hp4
              rw [HPN.out p hp4] at hix
              have i2 : (p : Int) < 4 := by omega
              go_wp2_with fail
              refine (bits_Bit _ _ _).mono ?_; rintro e w4 ⟨rfl, rfl⟩
              rw [HBIT.out]
              have hb1 := s.bit_in f r cc p
              have hor := or_low p hp4 (pxTo (s.bit f r cc) p) (s.bit f r cc p) (pxTo_in (s.bit_in f r cc) p) hb1
              have hsucc : pxTo (s.bit f r cc) p + 2 ^ p * s.bit f r cc p = pxTo (s.bit f r cc) (p + 1) := rfl
              rw [hsucc] at hor
              have hsh : wrap64 (s.bit f r cc p * 2 ^ p) = s.bit f r cc p * 2 ^ p := by
                generalize s.bit f r cc p = b at *
                rcases (show p = 0 ∨ p = 1 ∨ p = 2 ∨ p = 3 by omega) with rfl | rfl | rfl | rfl <;> rcases (show b = 0 ∨ b = 1 by omega) with rfl | rfl <;> decide +kernel
              have HOR := Lib.hid hor
              clear hsucc hor HPN HBIT
              generalize s.bit f r cc p = b at *
              go_wp2_with fail
              rw [HOR.out]
              exact ⟨⟨p + 1, rfl, by omega, rfl, trivial⟩, by simp [intOf]; omega⟩
            · obtain rfl : p = 4 := by omega
              have hdot : pxTo (s.bit f r cc) 4 = s.dot f r cc := rfl
              have hdi := s.dot_in f r cc
              rw [hdot]
              clear hdot HPN HBIT
              have hsp : (S.sp f n k s y j).dot n k s (s.X + j) (s.dot f r cc) = S.sp f n k s y (j + 1) := by rw [SS.sp_succ, HPX.out]
              generalize s.dot f r cc = c at *
              by_cases hc0 : c = 0
              · subst hc0
                rw [SS.dot_zero] at hsp
                have HSP := Lib.hid hsp
                clear hsp
                go_wp2
                go_roundw
                case rel => exact ⟨j + 1, rfl, by omega, by rw [← HSP.out]; exact h2, A2, T2⟩
                case measure => simp [intOf]; omega
              · have qc : (c != 0) = true := by simpa using hc0
                have HSP := Lib.hid hsp
                clear hsp
                go_wp2_with fail
                refine (line_dot h2 hs hn (j : Int) c (by omega) (by omega)).mono ?_; rintro e w5 ⟨rfl, h5, T5⟩
                rw [HSP.out] at h5
                have A5 := Blk.tr A2 T5 (by simp; omega)
                have T6 := T2.trans T5
                clear h2 A2 T2 T5
                go_wp2
                go_roundw
                case rel => exact ⟨j + 1, rfl, by omega, h5, A5, T6⟩
                case measure => simp [intOf]; omega
      · obtain rfl : j = m := by omega
        have d1 : decide ((j : Int) < (j : Int)) = false := by simp
        go_wp2
        exact ⟨rfl, .tuple #[], by first | exact rfl | (unfold results; rfl) | kernel_rfl, rfl, h, T⟩
end Go.Proofs.Ytlhnfllfankjhaa
