/- Contracts: the reference's colour of a sprite's column. -/
import Derived.Test.YtlhnfllfankjhaaSpD
import Derived.Test.YtlhnfllfankjhaaTiC
namespace Go.Proofs.Ytlhnfllfankjhaa
open Go Go.RowKit
set_option linter.unusedSimpArgs false
set_option linter.unusedVariables false
set_option maxRecDepth 100000

set_option maxHeartbeats 4000000 in
theorem ref18_colour {w : World} {p g : Nat} {V : VS} (h : VAt 66 w p g V) (s : SpV) (hs : s.In) (y i : Int) (hy : s.on y) (hi : 0 ≤ i ∧ i < s.W) :
    Calls Try.prog 79 #[.pointer (some ⟨p, 0, none⟩), .agg s.cells, .int .i64 y, .int .i64 i] w fun e w' =>
      e = .returned (.int .i64 (s.px V.word y i)) ∧ Below w.heap.size w w' := by
  have k1 : s.cells[1]? = some (.int .i64 s.Y) := rfl
  have k2 : s.cells[2]? = some (.int .i64 s.C) := rfl
  have k3 : s.cells[3]? = some (.int .i64 s.W) := rfl
  have k4 : s.cells[4]? = some (.int .i64 s.H) := rfl
  have k7 : s.cells[7]? = some (.bool s.fx) := rfl
  have k8 : s.cells[8]? = some (.bool s.fy) := rfl
  have hrow := SpV.row_in hs hy
  have hcol := SpV.col_in hs hi.1 hi.2
  have hY := hs.Y
  have hC := hs.C
  have hWd := hs.W
  have hH := hs.H
  obtain ⟨hy1, hy2⟩ := hy
  obtain ⟨hi1, hi2⟩ := hi
  have B1 := (Below.refl w.heap.size w).alloc (Nat.le_refl _) (Obj.cells s.cells 123)
  have h1 := h.below B1
  have hpx : s.px V.word y i = s.dot V.word (s.row y) (s.col i) := rfl
  have HPX := Lib.hid hpx
  clear hpx
  have hx : (s.fy = false ∧ y - s.Y = s.row y) ∨ (s.fy = true ∧ s.H - 1 - (y - s.Y) = s.row y) := by
    rcases hfy : s.fy
    · exact .inl ⟨rfl, by unfold SpV.row; rw [hfy, if_neg (by decide)]⟩
    · exact .inr ⟨rfl, by unfold SpV.row; rw [hfy, if_pos rfl]⟩
  have hx2 : (s.fx = false ∧ i = s.col i) ∨ (s.fx = true ∧ s.W - 1 - i = s.col i) := by
    rcases hfx : s.fx
    · exact .inl ⟨rfl, by unfold SpV.col; rw [hfx, if_neg (by decide)]⟩
    · exact .inr ⟨rfl, by unfold SpV.col; rw [hfx, if_pos rfl]⟩
  rcases hx with ⟨hfy, hre⟩ | ⟨hfy, hre⟩
  all_goals
    rcases hx2 with ⟨hfx, hce⟩ | ⟨hfx, hce⟩
    all_goals
      rw [hfy] at k8
      rw [hfx] at k7
      have HR := Lib.hid hre
      have HC := Lib.hid hce
      clear hre hfy hfx hce
      go_enter Try.func79, Try.ntmps79
      go_upto_region 7 with (fail)
      rw [HR.out, HC.out]
      clear HR HC k1 k3 k4 k7 k8 hH hY hy1 hy2 hi1 hi2 hWd
      generalize s.row y = r at *
      generalize s.col i = cc at *
      have e1 : r.tdiv 16 = r / 16 := Int.tdiv_eq_ediv_of_nonneg hrow.1
      have e2 : r.tmod 16 = r % 16 := Int.tmod_eq_emod_of_nonneg hrow.1
      have e3 : cc.tdiv 16 = cc / 16 := Int.tdiv_eq_ediv_of_nonneg hcol.1
      have e4 : cc.tmod 16 = cc % 16 := Int.tmod_eq_emod_of_nonneg hcol.1
      have hpl : 64 * (s.C + r / 16 * 2 + cc / 16) + r % 16 = s.place r (cc / 16) := rfl
      have hpr : 0 ≤ s.place r (cc / 16) ∧ s.place r (cc / 16) < 100000 := by rw [← hpl]; omega
      have HPL := Lib.hid hpl
      clear hpl
      go_wp2_with fail
      rw [HPL.out]
      have hbit : ∀ p : Nat, bitI (V.word (s.place r (cc / 16) + 16 * p)) (15 - cc % 16) = s.bit V.word r cc p := fun _ => rfl
      have HBIT := Lib.hid hbit
      clear HPL hbit k2
      generalize w.alloc (Obj.cells s.cells 123) = w1 at *
      generalize s.place r (cc / 16) = a at *
      go_loopw [12, 13] (fun c i wr => ∃ p : Nat, i = .int .i64 p ∧ p ≤ 4 ∧ c = .int .i64 (pxTo (s.bit V.word r cc) p) ∧ w1 = wr) (fun _ i _ => 4 - (intOf i).toNat)
      case atStart => exact ⟨0, rfl, by omega, rfl, rfl⟩
      case round =>
        obtain ⟨p, rfl, hp, rfl, rfl⟩ := hrel
        by_cases hp4 : p < 4
        · have d2 : decide ((p : Int) < 4) = true := by simp; omega
          have i2 : (p : Int) < 4 := by omega
          go_wp2_with fail
          refine (ref13_Word h1 _ (by omega)).mono ?_; rintro e w4 ⟨rfl, rfl⟩
          have hwr := h1.ok.word (a + 16 * (p : Int))
          go_wp2_with fail
          refine (ref01_Bit _ _ (by omega) _).mono ?_; rintro e w4 ⟨rfl, rfl⟩
          rw [HBIT.out]
          have hb1 := s.bit_in V.word r cc p
          have hci := pxTo_in (s.bit_in V.word r cc) p
          have hsucc : pxTo (s.bit V.word r cc) p + 2 ^ p * s.bit V.word r cc p = pxTo (s.bit V.word r cc) (p + 1) := rfl
          have HSU := Lib.hid hsucc
          clear hsucc
          generalize s.bit V.word r cc p = b at *
          go_wp2_with fail
          refine (ref01_Power p (by omega) _).mono ?_; rintro e w4 ⟨rfl, rfl⟩
          have hq : (1 : Int) ≤ 2 ^ p ∧ (2 : Int) ^ p ≤ 8 := by rcases (show p = 0 ∨ p = 1 ∨ p = 2 ∨ p = 3 by omega) with rfl | rfl | rfl | rfl <;> decide
          generalize (2 : Int) ^ p = q at *
          have e5 : b * q = q * b ∧ 0 ≤ q * b ∧ q * b ≤ 8 := by rcases (show b = 0 ∨ b = 1 by omega) with rfl | rfl <;> omega
          have E5 := Lib.hid e5.1
          have e6 : IntKind.i64.wrap (b * q) = q * b := by rw [E5.out]; exact IntWalk.i64_in _ (by omega)
          have e7 : IntKind.i64.wrap (pxTo (s.bit V.word r cc) p + q * b) = pxTo (s.bit V.word r cc) p + q * b := IntWalk.i64_in _ (by omega)
          clear e5
          go_wp2_with fail
          rw [HSU.out]
          exact ⟨⟨p + 1, rfl, by omega, rfl, trivial⟩, by simp [intOf]; omega⟩
        · obtain rfl : p = 4 := by omega
          have hdot : pxTo (s.bit V.word r cc) 4 = s.dot V.word r cc := rfl
          rw [hdot]
          clear hdot HBIT
          go_wp2
          go_ret
          rw [HPX.out]
          exact ⟨rfl, B1⟩
end Go.Proofs.Ytlhnfllfankjhaa
