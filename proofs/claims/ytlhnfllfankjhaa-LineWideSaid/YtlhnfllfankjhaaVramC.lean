/- Contracts: video memory's ports, and the reference's; fresh ones. -/
import Derived.Test.YtlhnfllfankjhaaVramB
namespace Go.Proofs.Ytlhnfllfankjhaa
open Go Go.RowKit
set_option linter.unusedSimpArgs false
set_option linter.unusedVariables false
set_option maxRecDepth 100000

section
variable {w : World} {p g : Nat} {V : VS}

theorem vram_Ports (h : VAt 69 w p g V) : Calls Try.prog 43 #[.pointer (some ⟨p, 0, none⟩)] w fun e w' =>
    e = .returned (.tuple #[.int .i64 V.wr, .int .i64 V.rd, .int .i64 V.st, .int .i64 V.lo, .int .i64 V.bu]) ∧ Below w.heap.size w w' := by
  obtain ⟨cp, hcp, c0, c1, c2, c3, c4, c5⟩ := h.c
  go_enter Try.func43, Try.ntmps43
  go_wp2_with fail
  refine (vram_none h).mono ?_; rintro e w' ⟨rfl, rfl⟩
  go_wp2_with fail
  go_quiet (fail)
  go_wp2
  exact ⟨rfl, _, by first | exact rfl | (unfold results; rfl) | kernel_rfl, rfl, below_drewN (Below.refl _ _) _⟩

theorem vram_Put_low (h : VAt 69 w p g V) (b : Int) : Calls Try.prog 41 #[.pointer (some ⟨p, 0, none⟩), .bool false, .int .i64 b] w fun e w' =>
    e = .returned (.tuple #[]) ∧ VAt 69 w' p g (V.putLo b) ∧ Tr [p, g] w w' := by
  obtain ⟨cp, hcp, c0, c1, c2, c3, c4, c5⟩ := h.c
  have f4 := h.f 4
  go_enter Try.func41, Try.ntmps41
  go_wp2_with fail
  refine (vram_none h).mono ?_; rintro e w' ⟨rfl, rfl⟩
  go_wp2_with fail
  refine (bits_Byte b _).mono ?_; rintro e w' ⟨rfl, rfl⟩
  go_wp2
  exact ⟨rfl, .tuple #[], by first | exact rfl | (unfold results; rfl) | kernel_rfl, rfl, h.putLo b, (Tr.refl _ _).setCell _ (by simp) _⟩

theorem vram_Put_high (h : VAt 69 w p g V) (b : Int) : Calls Try.prog 41 #[.pointer (some ⟨p, 0, none⟩), .bool true, .int .i64 b] w fun e w' =>
    e = .returned (.tuple #[]) ∧ VAt 69 w' p g (V.putHi b) ∧ Tr [p, g] w w' := by
  have elo : V.lo % 256 = V.lo := by have := h.ok.lo; omega
  have ews : IntKind.i64.wrap (V.wr + V.st) = V.wr + V.st := IntWalk.i64_in _ (by have := h.ok.wr; have := h.ok.st; omega)
  have e1 : (V.poke V.wr (V.lo % 256 + 256 * (b % 256))).setWr (V.wr + V.st) = V.putHi b := by rw [elo]; rfl
  have E1 := Lib.hid e1; clear e1
  clear elo
  go_enter Try.func41, Try.ntmps41
  go_wp2_with fail
  refine (vram_none h).mono ?_; rintro e w' ⟨rfl, rfl⟩
  go_wp2_with fail
  refine wp_region_last 11 (fun w' => VAt 69 w' p g (V.poke V.wr (V.lo % 256 + 256 * (b % 256))) ∧ Tr [p, g] w w') (by kernel_rfl) (by kernel_rfl) (by kernel_rfl) (by decide) ?_
  iterate 11
    (refine wpP_head rfl (by decide) (fun K hK => ?_)
     apply Exists.intro
     refine ⟨fun wq hq => ?_, hK _ ?_⟩
     · obtain ⟨_, _, _, c1, c2, c3, c4, c5⟩ := (h.below hq).c
       go_simp
       first | exact rfl | exact ⟨hq, rfl⟩ | exact calls_under hq (bits_Join _ _ wq)
     clear hK K
     simp only [Act.put, List.setIfInBounds_toArray, List.set_cons_zero, List.set_cons_succ])
  refine wpP_last rfl (by decide) (by kernel_rfl) (by kernel_rfl) ⟨.tuple #[], fun wq hq => ?_, ?_⟩
  · go_simp
    exact (vram_Poke (h.below hq) _ _).mono (fun _ _ ⟨he, hv, ht⟩ => ⟨he, hv, (Tr.of_below0 hq).trans (ht.mono (by simp))⟩)
  simp only [Act.put, List.setIfInBounds_toArray, List.set_cons_zero, List.set_cons_succ]
  rintro w1 ⟨h1, t1⟩
  go_wp2_with fail
  refine wp_region_last 10 (fun w' => VAt 69 w' p g ((V.poke V.wr (V.lo % 256 + 256 * (b % 256))).setWr (V.wr + V.st)) ∧ Tr [p, g] w1 w') (by kernel_rfl) (by kernel_rfl) (by kernel_rfl) (by decide) ?_
  have ew : (V.poke V.wr (V.lo % 256 + 256 * (b % 256))).wr = V.wr := by unfold VS.poke; split <;> rfl
  have es : (V.poke V.wr (V.lo % 256 + 256 * (b % 256))).st = V.st := by unfold VS.poke; split <;> rfl
  have hc : ∀ wq, Below w1.heap.size w1 wq → wq.cell? ⟨p, 1, none⟩ = some (.int .i64 V.wr) ∧ wq.cell? ⟨p, 3, none⟩ = some (.int .i64 V.st) := fun wq hq => by
    obtain ⟨_, _, _, c1, c2, c3, c4, c5⟩ := (h1.below hq).c
    rw [ew] at c1; rw [es] at c3; exact ⟨c1, c3⟩
  have HC := Lib.hid hc
  clear hc ew es
  iterate 10
    (refine wpP_head rfl (by decide) (fun K hK => ?_)
     apply Exists.intro
     refine ⟨fun wq hq => ?_, hK _ ?_⟩
     · obtain ⟨c1, c3⟩ := HC.out wq hq
       go_simp
       first | exact rfl | exact ⟨hq, rfl⟩
     clear hK K
     simp only [Act.put, List.setIfInBounds_toArray, List.set_cons_zero, List.set_cons_succ])
  refine wpP_last rfl (by decide) (by kernel_rfl) (by kernel_rfl) ⟨.tuple #[], fun wq hq => ?_, ?_⟩
  · go_simp
    exact (vram_SetWrite (h1.below hq) _).mono (fun _ _ ⟨he, hv, ht⟩ => ⟨he, hv, (Tr.of_below0 hq).trans (ht.mono (by simp))⟩)
  simp only [Act.put, List.setIfInBounds_toArray, List.set_cons_zero, List.set_cons_succ]
  rintro w2 ⟨h2, t2⟩
  rw [E1.out] at h2
  go_wp2
  exact ⟨rfl, .tuple #[], by first | exact rfl | (unfold results; rfl) | kernel_rfl, rfl, h2, t1.trans t2⟩

theorem vram_Get_low (h : VAt 69 w p g V) : Calls Try.prog 42 #[.pointer (some ⟨p, 0, none⟩), .bool false] w fun e w' =>
    e = .returned (.int .i64 (V.bu % 256)) ∧ w = w' := by
  obtain ⟨cp, hcp, c0, c1, c2, c3, c4, c5⟩ := h.c
  go_enter Try.func42, Try.ntmps42
  go_wp2_with fail
  refine (vram_none h).mono ?_; rintro e w' ⟨rfl, rfl⟩
  go_wp2_with fail
  refine (bits_Split V.bu _).mono ?_; rintro e w' ⟨rfl, rfl⟩
  go_wp2
  go_ret
  exact ⟨rfl, rfl⟩

theorem vram_Get_high (h : VAt 69 w p g V) : Calls Try.prog 42 #[.pointer (some ⟨p, 0, none⟩), .bool true] w fun e w' =>
    e = .returned (.int .i64 (V.bu / 256)) ∧ VAt 69 w' p g (V.setRd (V.rd + V.st)) ∧ Tr [p, g] w w' := by
  have ebu : V.bu / 256 % 256 = V.bu / 256 := by have := h.ok.bu; omega
  have ews : IntKind.i64.wrap (V.rd + V.st) = V.rd + V.st := IntWalk.i64_in _ (by have := h.ok.rd; have := h.ok.st; omega)
  obtain ⟨cp, hcp, c0, c1, c2, c3, c4, c5⟩ := h.c
  have E1 := Lib.hid ebu; clear ebu
  go_enter Try.func42, Try.ntmps42
  go_wp2_with fail
  refine (vram_none h).mono ?_; rintro e w' ⟨rfl, rfl⟩
  go_wp2_with fail
  refine (bits_Split V.bu _).mono ?_; rintro e w' ⟨rfl, rfl⟩
  rw [E1.out]
  clear E1
  go_wp2_with fail
  clear c0 c1 c2 c3 c4 c5
  refine wp_region_last 10 (fun w' => VAt 69 w' p g (V.setRd (V.rd + V.st)) ∧ Tr [p, g] w w') (by kernel_rfl) (by kernel_rfl) (by kernel_rfl) (by decide) ?_
  iterate 10
    (refine wpP_head rfl (by decide) (fun K hK => ?_)
     apply Exists.intro
     refine ⟨fun wq hq => ?_, hK _ ?_⟩
     · obtain ⟨_, _, _, c1, c2, c3, c4, c5⟩ := (h.below hq).c
       go_simp
       first | exact rfl | exact ⟨hq, rfl⟩
     clear hK K
     simp only [Act.put, List.setIfInBounds_toArray, List.set_cons_zero, List.set_cons_succ])
  refine wpP_last rfl (by decide) (by kernel_rfl) (by kernel_rfl) ⟨.tuple #[], fun wq hq => ?_, ?_⟩
  · go_simp
    exact (vram_SetRead (h.below hq) _).mono (fun _ _ ⟨he, hv, ht⟩ => ⟨he, hv, (Tr.of_below0 hq).trans (ht.mono (by simp))⟩)
  simp only [Act.put, List.setIfInBounds_toArray, List.set_cons_zero, List.set_cons_succ]
  rintro w1 ⟨h1, t1⟩
  go_wp2
  go_ret
  exact ⟨rfl, h1, t1⟩

theorem ref13_add (a b : Int) (h : -9223372036854775808 ≤ a + b ∧ a + b ≤ 9223372036854775807) (w : World) : Calls Try.prog 75 #[.int .i64 a, .int .i64 b] w fun e w' => e = .returned (.int .i64 ((a + b) % 65536)) ∧ w = w' := by
  go_enter Try.func75, Try.ntmps75
  go_wp2_with fail
  refine (ref01_Word (a + b) h _).mono ?_; rintro e w' ⟨rfl, rfl⟩
  go_wp2
  go_ret
  exact ⟨rfl, rfl⟩

theorem ref13_SetRead (h : VAt 66 w p g V) (n : Int) (hn : -9223372036854775808 ≤ n ∧ n ≤ 9223372036854775807) : Calls Try.prog 45 #[.pointer (some ⟨p, 0, none⟩), .int .i64 n] w fun e w' =>
    e = .returned (.tuple #[]) ∧ VAt 66 w' p g (V.setRd n) ∧ Tr [p] w w' := by
  obtain ⟨cp, hcp, c0, c1, c2, c3, c4, c5⟩ := h.c
  have f2 := h.f 2
  have f5 := h.f 5
  go_enter Try.func45, Try.ntmps45
  go_wp2_with fail
  refine (ref01_Word n hn _).mono ?_; rintro e w' ⟨rfl, rfl⟩
  go_wp2_with fail
  refine (ref13_Word (h.rd1 n) (n % 65536) (by omega)).mono ?_; rintro e w' ⟨rfl, rfl⟩
  go_wp2
  rw [VS.word_mod]
  exact ⟨rfl, .tuple #[], by first | exact rfl | (unfold results; rfl) | kernel_rfl, rfl, h.setRd n, ((Tr.refl _ _).setCell _ (by simp) _).setCell _ (by simp) _⟩

theorem ref13_Get_low (h : VAt 66 w p g V) : Calls Try.prog 47 #[.pointer (some ⟨p, 0, none⟩), .bool false] w fun e w' =>
    e = .returned (.int .i64 (V.bu % 256)) ∧ w = w' := by
  have h5 := h.ok.bu
  obtain ⟨cp, hcp, c0, c1, c2, c3, c4, c5⟩ := h.c
  go_enter Try.func47, Try.ntmps47
  go_wp2
  go_ret
  exact ⟨rfl, rfl⟩

theorem ref13_Get_high (h : VAt 66 w p g V) : Calls Try.prog 47 #[.pointer (some ⟨p, 0, none⟩), .bool true] w fun e w' =>
    e = .returned (.int .i64 (V.bu / 256)) ∧ VAt 66 w' p g (V.setRd (V.rd + V.st)) ∧ Tr [p, g] w w' := by
  have h5 := h.ok.bu
  have hrs : -9223372036854775808 ≤ V.rd + V.st ∧ V.rd + V.st ≤ 9223372036854775807 := by have := h.ok.rd; have := h.ok.st; omega
  obtain ⟨cp, hcp, c0, c1, c2, c3, c4, c5⟩ := h.c
  go_enter Try.func47, Try.ntmps47
  go_wp2_with fail
  clear c0 c1 c2 c3 c4 c5
  refine wp_region_last 10 (fun w' => VAt 66 w' p g (V.setRd (V.rd + V.st)) ∧ Tr [p, g] w w') (by kernel_rfl) (by kernel_rfl) (by kernel_rfl) (by decide) ?_
  iterate 10
    (refine wpP_head rfl (by decide) (fun K hK => ?_)
     apply Exists.intro
     refine ⟨fun wq hq => ?_, hK _ ?_⟩
     · obtain ⟨_, _, _, c1, c2, c3, c4, c5⟩ := (h.below hq).c
       go_simp
       first | exact rfl | exact ⟨hq, rfl⟩ | exact calls_under_same hq (ref13_add _ _ hrs wq)
     clear hK K
     simp only [Act.put, List.setIfInBounds_toArray, List.set_cons_zero, List.set_cons_succ])
  refine wpP_last rfl (by decide) (by kernel_rfl) (by kernel_rfl) ⟨.tuple #[], fun wq hq => ?_, ?_⟩
  · go_simp
    exact (ref13_SetRead (h.below hq) _ (by omega)).mono (fun _ _ ⟨he, hv, ht⟩ => ⟨he, by rw [← VS.setRd_mod]; exact hv, (Tr.of_below0 hq).trans (ht.mono (by simp))⟩)
  simp only [Act.put, List.setIfInBounds_toArray, List.set_cons_zero, List.set_cons_succ]
  rintro w1 ⟨h1, t1⟩
  go_wp2
  go_ret
  exact ⟨rfl, h1, t1⟩

theorem ref13_Put_low (h : VAt 66 w p g V) (b : Int) (hb : -9223372036854775808 ≤ b ∧ b ≤ 9223372036854775807) : Calls Try.prog 46 #[.pointer (some ⟨p, 0, none⟩), .bool false, .int .i64 b] w fun e w' =>
    e = .returned (.tuple #[]) ∧ VAt 66 w' p g (V.putLo b) ∧ Tr [p, g] w w' := by
  obtain ⟨cp, hcp, c0, c1, c2, c3, c4, c5⟩ := h.c
  have f4 := h.f 4
  go_enter Try.func46, Try.ntmps46
  go_wp2_with fail
  refine (ref01_Byte b hb _).mono ?_; rintro e w' ⟨rfl, rfl⟩
  go_wp2
  exact ⟨rfl, .tuple #[], by first | exact rfl | (unfold results; rfl) | kernel_rfl, rfl, h.putLo b, (Tr.refl _ _).setCell _ (by simp) _⟩

theorem ref13_Put_high (h : VAt 66 w p g V) (b : Int) (hb : -9223372036854775808 ≤ b ∧ b ≤ 9223372036854775807) : Calls Try.prog 46 #[.pointer (some ⟨p, 0, none⟩), .bool true, .int .i64 b] w fun e w' =>
    e = .returned (.tuple #[]) ∧ VAt 66 w' p g (V.putHi b) ∧ Tr [p, g] w w' := by
  have hlo := h.ok.lo
  have hlo' : -9223372036854775808 ≤ V.lo ∧ V.lo ≤ 9223372036854775807 := by omega
  have hws : -9223372036854775808 ≤ V.wr + V.st ∧ V.wr + V.st ≤ 9223372036854775807 := by have := h.ok.wr; have := h.ok.st; omega
  have hwr := h.ok.wr
  have hwr' : -9223372036854775808 ≤ V.wr ∧ V.wr ≤ 9223372036854775807 := by omega
  have hj : -9223372036854775808 ≤ V.lo % 256 + 256 * (b % 256) ∧ V.lo % 256 + 256 * (b % 256) ≤ 9223372036854775807 := by omega
  have elo : V.lo % 256 = V.lo := by omega
  have e1 : (V.poke V.wr (V.lo % 256 + 256 * (b % 256))).setWr (V.wr + V.st) = V.putHi b := by rw [elo]; rfl
  have E1 := Lib.hid e1
  clear elo e1 hlo hwr
  go_enter Try.func46, Try.ntmps46
  go_wp2_with fail
  refine wp_region_last 11 (fun w' => VAt 66 w' p g (V.poke V.wr (V.lo % 256 + 256 * (b % 256))) ∧ Tr [p, g] w w') (by kernel_rfl) (by kernel_rfl) (by kernel_rfl) (by decide) ?_
  iterate 11
    (refine wpP_head rfl (by decide) (fun K hK => ?_)
     apply Exists.intro
     refine ⟨fun wq hq => ?_, hK _ ?_⟩
     · obtain ⟨_, _, _, c1, c2, c3, c4, c5⟩ := (h.below hq).c
       go_simp
       first | exact rfl | exact ⟨hq, rfl⟩ | exact calls_under_same hq (ref01_Join _ _ hlo' hb wq)
     clear hK K
     simp only [Act.put, List.setIfInBounds_toArray, List.set_cons_zero, List.set_cons_succ])
  refine wpP_last rfl (by decide) (by kernel_rfl) (by kernel_rfl) ⟨.tuple #[], fun wq hq => ?_, ?_⟩
  · go_simp
    exact (ref13_Poke (h.below hq) _ _ hwr' hj).mono (fun _ _ ⟨he, hv, ht⟩ => ⟨he, hv, (Tr.of_below0 hq).trans (ht.mono (by simp))⟩)
  simp only [Act.put, List.setIfInBounds_toArray, List.set_cons_zero, List.set_cons_succ]
  rintro w1 ⟨h1, t1⟩
  go_wp2_with fail
  refine wp_region_last 12 (fun w' => VAt 66 w' p g ((V.poke V.wr (V.lo % 256 + 256 * (b % 256))).setWr (V.wr + V.st)) ∧ Tr [p, g] w1 w') (by kernel_rfl) (by kernel_rfl) (by kernel_rfl) (by decide) ?_
  have ew : (V.poke V.wr (V.lo % 256 + 256 * (b % 256))).wr = V.wr := by unfold VS.poke; split <;> rfl
  have es : (V.poke V.wr (V.lo % 256 + 256 * (b % 256))).st = V.st := by unfold VS.poke; split <;> rfl
  have hc : ∀ wq, Below w1.heap.size w1 wq → wq.cell? ⟨p, 1, none⟩ = some (.int .i64 V.wr) ∧ wq.cell? ⟨p, 3, none⟩ = some (.int .i64 V.st) ∧ wq.frozen? ⟨p, 1, none⟩ = false := fun wq hq => by
    obtain ⟨_, _, _, c1, c2, c3, c4, c5⟩ := (h1.below hq).c
    rw [ew] at c1; rw [es] at c3; exact ⟨c1, c3, (h1.below hq).f 1⟩
  have HC := Lib.hid hc
  clear hc ew es
  iterate 12
    (refine wpP_head rfl (by decide) (fun K hK => ?_)
     apply Exists.intro
     refine ⟨fun wq hq => ?_, hK _ ?_⟩
     · obtain ⟨c1, c3, f1⟩ := HC.out wq hq
       go_simp
       first | exact rfl | exact ⟨hq, rfl⟩ | exact calls_under_same hq (ref13_add _ _ hws wq)
     clear hK K
     simp only [Act.put, List.setIfInBounds_toArray, List.set_cons_zero, List.set_cons_succ])
  refine wpP_last rfl (by decide) (by kernel_rfl) (by kernel_rfl) ⟨undef, fun wq hq => ?_, ?_⟩
  · obtain ⟨c1, c3, f1⟩ := HC.out wq hq
    have hs := (h1.below hq).setWr (V.wr + V.st)
    have ht : Tr [p, g] w1 (wq.setCell ⟨p, 1, none⟩ (.int .i64 ((V.wr + V.st) % 65536))) := (Tr.of_below0 hq).setCell _ (by simp) _
    go_simp
  simp only [Act.put, List.setIfInBounds_toArray, List.set_cons_zero, List.set_cons_succ]
  rintro w2 ⟨h2, t2⟩
  rw [E1.out] at h2
  go_wp2
  exact ⟨rfl, .tuple #[], by first | exact rfl | (unfold results; rfl) | kernel_rfl, rfl, h2, t1.trans t2⟩
end

end Go.Proofs.Ytlhnfllfankjhaa
