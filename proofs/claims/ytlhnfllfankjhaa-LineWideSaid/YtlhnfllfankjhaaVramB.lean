/- Contracts: video memory's functions that write, and the reference's. -/
import Derived.Test.YtlhnfllfankjhaaVram
import Derived.Test.YtlhnfllfankjhaaRl
namespace Go.Proofs.Ytlhnfllfankjhaa
open Go Go.RowKit
set_option linter.unusedSimpArgs false
set_option linter.unusedVariables false
set_option maxRecDepth 100000

section
variable {w : World} {p g : Nat} {V : VS}

theorem ref13_Poke (h : VAt 66 w p g V) (n x : Int) (hn : -9223372036854775808 ≤ n ∧ n ≤ 9223372036854775807) (hx : -9223372036854775808 ≤ x ∧ x ≤ 9223372036854775807) : Calls Try.prog 28 #[.pointer (some ⟨p, 0, none⟩), .int .i64 n, .int .i64 x] w fun e w' =>
    e = .returned (.tuple #[]) ∧ VAt 66 w' p g (V.poke n x) ∧ Tr [g] w w' := by
  obtain ⟨cp, hcp, c0, c1, c2, c3, c4, c5⟩ := h.c
  by_cases hlt : n % 65536 < 32768
  · have cw := h.wordAt (i := (n % 65536).toNat) (by omega)
    have fw := h.freeW (n % 65536).toNat
    go_enter Try.func28, Try.ntmps28
    go_wp2_with fail
    refine (ref01_Word n hn _).mono ?_; rintro e w' ⟨rfl, rfl⟩
    go_wp2_with fail
    go_still_tail 7, (by kernel_rfl)
    still_call (still0 (ref01_Word x hx _))
    repeat still_step
    refine wpStill_nil ?_
    have h2 : VAt 66 w.drew p g V := h.drewN 1
    change wpList _ _ _ _ _ w.drew
    have T2 : Tr [g] w w.drew := (Tr.refl _ _).drew
    clear cw fw h
    have cw := h2.wordAt (i := (n % 65536).toNat) (by omega)
    have fw := h2.freeW (n % 65536).toNat
    generalize w.drew = w2 at *
    go_wp2
    exact ⟨rfl, .tuple #[], by first | exact rfl | (unfold results; rfl) | kernel_rfl, rfl, h2.setW n x hlt, T2.setCell _ (by simp) _⟩
  · have e : V.poke n x = V := by unfold VS.poke; rw [if_neg hlt]
    rw [e]
    go_enter Try.func28, Try.ntmps28
    go_wp2_with fail
    refine (ref01_Word n hn _).mono ?_; rintro e w' ⟨rfl, rfl⟩
    go_wp2
    exact ⟨rfl, .tuple #[], by first | exact rfl | (unfold results; rfl) | kernel_rfl, rfl, h, Tr.refl _ _⟩

theorem vram_SetWrite (h : VAt 69 w p g V) (n : Int) : Calls Try.prog 38 #[.pointer (some ⟨p, 0, none⟩), .int .i64 n] w fun e w' =>
    e = .returned (.tuple #[]) ∧ VAt 69 w' p g (V.setWr n) ∧ Tr [p] w w' := by
  obtain ⟨cp, hcp, c0, c1, c2, c3, c4, c5⟩ := h.c
  have f1 := h.f 1
  go_enter Try.func38, Try.ntmps38
  go_wp2_with fail
  refine (vram_none h).mono ?_; rintro e w' ⟨rfl, rfl⟩
  go_wp2_with fail
  refine (bits_Word n _).mono ?_; rintro e w' ⟨rfl, rfl⟩
  go_wp2
  exact ⟨rfl, .tuple #[], by first | exact rfl | (unfold results; rfl) | kernel_rfl, rfl, h.setWr n, (Tr.refl _ _).setCell _ (by simp) _⟩
theorem vram_SetStep (h : VAt 69 w p g V) (n : Int) : Calls Try.prog 40 #[.pointer (some ⟨p, 0, none⟩), .int .i64 n] w fun e w' =>
    e = .returned (.tuple #[]) ∧ VAt 69 w' p g (V.setSt n) ∧ Tr [p] w w' := by
  obtain ⟨cp, hcp, c0, c1, c2, c3, c4, c5⟩ := h.c
  have f1 := h.f 3
  go_enter Try.func40, Try.ntmps40
  go_wp2_with fail
  refine (vram_none h).mono ?_; rintro e w' ⟨rfl, rfl⟩
  go_wp2_with fail
  refine (bits_Word n _).mono ?_; rintro e w' ⟨rfl, rfl⟩
  go_wp2
  exact ⟨rfl, .tuple #[], by first | exact rfl | (unfold results; rfl) | kernel_rfl, rfl, h.setSt n, (Tr.refl _ _).setCell _ (by simp) _⟩
theorem vram_SetRead (h : VAt 69 w p g V) (n : Int) : Calls Try.prog 39 #[.pointer (some ⟨p, 0, none⟩), .int .i64 n] w fun e w' =>
    e = .returned (.tuple #[]) ∧ VAt 69 w' p g (V.setRd n) ∧ Tr [p] w w' := by
  obtain ⟨cp, hcp, c0, c1, c2, c3, c4, c5⟩ := h.c
  have f2 := h.f 2
  have f5 := h.f 5
  go_enter Try.func39, Try.ntmps39
  go_wp2_with fail
  refine (vram_none h).mono ?_; rintro e w' ⟨rfl, rfl⟩
  go_wp2_with fail
  refine (bits_Word n _).mono ?_; rintro e w' ⟨rfl, rfl⟩
  go_wp2_with fail
  refine (vram_Word (h.rd1 n) (n % 65536)).mono ?_; rintro e w' ⟨rfl, rfl⟩
  go_wp2
  rw [VS.word_mod]
  exact ⟨rfl, .tuple #[], by first | exact rfl | (unfold results; rfl) | kernel_rfl, rfl, h.setRd n, ((Tr.refl _ _).setCell _ (by simp) _).setCell _ (by simp) _⟩
end

end Go.Proofs.Ytlhnfllfankjhaa
