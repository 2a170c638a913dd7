/- Contracts: video memory's functions, and the reference's. -/
import Derived.Test.YtlhnfllfankjhaaVsLaws
import Derived.Test.YtlhnfllfankjhaaBw
import Derived.StillTailTactics
import Derived.WalkSpells
set_option maxRecDepth 100000
namespace Go.Proofs.Ytlhnfllfankjhaa
open Go Go.RowKit
set_option linter.unusedSimpArgs false
set_option linter.unusedVariables false

theorem still0 {P : Program} {f : FuncId} {args : Array Value} {w : World} {v : Value} (h : Calls P f args w fun e w' => e = .returned v ∧ w = w') : Calls P f args w fun e w' => e = .returned v ∧ w' = w :=
  h.mono fun _ _ ⟨he, hw⟩ => ⟨he, hw.symm⟩

section
variable {w : World} {p g : Nat} {V : VS}

theorem vram_none (h : VAt 69 w p g V) : Calls Try.prog 61 #[.pointer (some ⟨p, 0, none⟩)] w fun e w' => e = .returned (.bool false) ∧ w = w' := by
  obtain ⟨cp, hcp, c0, c1, c2, c3, c4, c5⟩ := h.c
  have qS : ∀ w : World, (binOp .eql 22 (.slice (some ⟨g, 0, none⟩) 32768 cp) (.slice none 0 0)).run Try.prog w = .ok (.bool false) w := fun w => Lib.run_eql_slice_nil w 22 3 (some ⟨g, 0, none⟩) 32768 cp 0 0 Try.underlying22
  go_enter Try.func61, Try.ntmps61
  go_wp2
  go_ret
  exact ⟨rfl, rfl⟩

theorem vram_Word (h : VAt 69 w p g V) (n : Int) : Calls Try.prog 31 #[.pointer (some ⟨p, 0, none⟩), .int .i64 n] w fun e w' => e = .returned (.int .i64 (V.word n)) ∧ w = w' := by
  obtain ⟨cp, hcp, c0, c1, c2, c3, c4, c5⟩ := h.c
  unfold VS.word
  by_cases hlt : n % 65536 < 32768
  · have cw := h.wordAt (i := (n % 65536).toNat) (by omega)
    rw [if_pos hlt]
    go_enter Try.func31, Try.ntmps31
    go_wp2_with fail
    refine (bits_Word n _).mono ?_; rintro e w' ⟨rfl, rfl⟩
    go_wp2_with fail
    refine (vram_none h).mono ?_; rintro e w' ⟨rfl, rfl⟩
    go_wp2
    go_ret
    exact ⟨rfl, rfl⟩
  · rw [if_neg hlt]
    go_enter Try.func31, Try.ntmps31
    go_wp2_with fail
    refine (bits_Word n _).mono ?_; rintro e w' ⟨rfl, rfl⟩
    go_wp2_with fail
    refine (vram_none h).mono ?_; rintro e w' ⟨rfl, rfl⟩
    go_wp2
    go_ret
    exact ⟨rfl, rfl⟩

theorem ref13_Word (h : VAt 66 w p g V) (n : Int) (hn : -9223372036854775808 ≤ n ∧ n ≤ 9223372036854775807) : Calls Try.prog 32 #[.pointer (some ⟨p, 0, none⟩), .int .i64 n] w fun e w' => e = .returned (.int .i64 (V.word n)) ∧ w = w' := by
  obtain ⟨cp, hcp, c0, c1, c2, c3, c4, c5⟩ := h.c
  unfold VS.word
  by_cases hlt : n % 65536 < 32768
  · have cw := h.wordAt (i := (n % 65536).toNat) (by omega)
    rw [if_pos hlt]
    go_enter Try.func32, Try.ntmps32
    go_wp2_with fail
    refine (ref01_Word n hn _).mono ?_; rintro e w' ⟨rfl, rfl⟩
    go_wp2
    go_ret
    exact ⟨rfl, rfl⟩
  · rw [if_neg hlt]
    go_enter Try.func32, Try.ntmps32
    go_wp2_with fail
    refine (ref01_Word n hn _).mono ?_; rintro e w' ⟨rfl, rfl⟩
    go_wp2
    go_ret
    exact ⟨rfl, rfl⟩

theorem vram_Poke (h : VAt 69 w p g V) (n x : Int) : Calls Try.prog 27 #[.pointer (some ⟨p, 0, none⟩), .int .i64 n, .int .i64 x] w fun e w' =>
    e = .returned (.tuple #[]) ∧ VAt 69 w' p g (V.poke n x) ∧ Tr [g] w w' := by
  obtain ⟨cp, hcp, c0, c1, c2, c3, c4, c5⟩ := h.c
  by_cases hlt : n % 65536 < 32768
  · have cw := h.wordAt (i := (n % 65536).toNat) (by omega)
    have fw := h.freeW (n % 65536).toNat
    go_enter Try.func27, Try.ntmps27
    go_wp2_with fail
    refine (bits_Word n _).mono ?_; rintro e w' ⟨rfl, rfl⟩
    go_wp2_with fail
    refine (vram_none h).mono ?_; rintro e w' ⟨rfl, rfl⟩
    go_wp2_with fail
    go_still_tail 7, (by kernel_rfl)
    still_call (still0 (bits_Word x _))
    repeat still_step
    refine wpStill_nil ?_
    have h2 : VAt 69 w.drew p g V := h.drewN 1
    change wpList _ _ _ _ _ w.drew
    have T2 : Tr [g] w w.drew := (Tr.refl _ _).drew
    clear cw fw h
    have cw := h2.wordAt (i := (n % 65536).toNat) (by omega)
    have fw := h2.freeW (n % 65536).toNat
    generalize w.drew = w2 at *
    go_wp2
    exact ⟨rfl, .tuple #[], by first | exact rfl | (unfold results; rfl) | kernel_rfl, rfl, h2.setW n x hlt, T2.setCell _ (by simp) _⟩
  · have e : V.poke n x = V := by unfold VS.poke; rw [if_neg hlt]
    rw [e]
    go_enter Try.func27, Try.ntmps27
    go_wp2_with fail
    refine (bits_Word n _).mono ?_; rintro e w' ⟨rfl, rfl⟩
    go_wp2_with fail
    refine (vram_none h).mono ?_; rintro e w' ⟨rfl, rfl⟩
    go_wp2
    exact ⟨rfl, .tuple #[], by first | exact rfl | (unfold results; rfl) | kernel_rfl, rfl, h, Tr.refl _ _⟩
end

end Go.Proofs.Ytlhnfllfankjhaa
