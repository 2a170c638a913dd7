/- The walk of VramSteps. -/
import Derived.Test.YtlhnfllfankjhaaTwo
namespace Go.Proofs.Ytlhnfllfankjhaa
open Go Go.RowKit
set_option linter.unusedSimpArgs false
set_option linter.unusedVariables false
set_option maxRecDepth 100000

theorem VS.poke_ports (V : VS) (a x : Int) : (V.poke a x).wr = V.wr ∧ (V.poke a x).rd = V.rd ∧ (V.poke a x).st = V.st ∧ (V.poke a x).lo = V.lo ∧ (V.poke a x).bu = V.bu := by
  unfold VS.poke; split <;> exact ⟨rfl, rfl, rfl, rfl, rfl⟩
theorem VS.putHi_ports (V : VS) (b : Int) : (V.putHi b).wr = (V.wr + V.st) % 65536 ∧ (V.putHi b).rd = V.rd ∧ (V.putHi b).st = V.st := by
  obtain ⟨h1, h2, h3, _⟩ := V.poke_ports V.wr (V.lo + 256 * (b % 256))
  exact ⟨rfl, h2, h3⟩
theorem times_step (a t : Int) (k : Nat) : ((a + (k : Int) * t) % 65536 + t) % 65536 = (a + ((k + 1 : Nat) : Int) * t) % 65536 := by
  have : ((k + 1 : Nat) : Int) * t = (k : Int) * t + t := by push_cast; rw [Int.add_mul, Int.one_mul]
  rw [this]; omega

set_option maxHeartbeats 8000000 in
theorem vramSteps_walk (at' step n : Int) (w : World) :
    Calls Try.prog 12 #[.int .i64 at', .int .i64 step, .int .i64 n] w fun e w' => e = .returned (.bool true) ∧ Below w.heap.size w w' := by
  obtain ⟨m, hm⟩ : ∃ m : Nat, n % 32 = (m : Int) := ⟨(n % 32).toNat, by omega⟩
  have hm8 : m < 32 := by omega
  go_enter Try.func12, Try.ntmps12
  go_wp2_with fail
  refine (vram_New _).mono ?_; rintro e w1 ⟨p, g, rfl, hx, hb1, hp, hg⟩
  go_wp2_with fail
  refine (vram_SetWrite hx _).mono ?_; rintro e w2 ⟨rfl, hx2, t2⟩
  have B2 := Tr.below hb1 t2 (Nat.le_refl _) (by simp; exact hp)
  go_wp2_with fail
  refine (vram_SetRead hx2 _).mono ?_; rintro e w3 ⟨rfl, hx3, t3⟩
  have B3 := Tr.below B2 t3 (Nat.le_refl _) (by simp; exact hp)
  go_wp2_with fail
  refine (vram_SetStep hx3 _).mono ?_; rintro e w4 ⟨rfl, hx4, t4⟩
  have B4 := Tr.below B3 t4 (Nat.le_refl _) (by simp; exact hp)
  have q1 : (((VS.new.setWr at').setRd at').setSt step).wr = at' % 65536 := rfl
  have q2 : (((VS.new.setWr at').setRd at').setSt step).rd = at' % 65536 := rfl
  have q3 : (((VS.new.setWr at').setRd at').setSt step).st = step % 65536 := rfl
  generalize ((VS.new.setWr at').setRd at').setSt step = V0 at *
  clear hx hx2 hx3 t2 t3 t4 hb1 B2 B3 hm
  have A0 : 0 ≤ at' % 65536 ∧ at' % 65536 < 65536 := by omega
  have T0 : 0 ≤ step % 65536 ∧ step % 65536 < 65536 := by omega
  go_wp2_with fail
  have Q0 := Lib.hid (show V0.wr = at' % 65536 ∧ V0.rd = at' % 65536 ∧ V0.st = step % 65536 from ⟨q1, q2, q3⟩)
  clear q1 q2 q3
  generalize hA : at' % 65536 = A at *
  generalize hT : step % 65536 = T at *
  have HA := Lib.hid hA
  have HT := Lib.hid hT
  clear hA hT
  go_loopw [8] (fun i wr => ∃ k : Nat, k ≤ m ∧ i = .int .i64 k ∧ ∃ V, VAt 69 wr p g V ∧ Hid (V.wr = A ∧ V.rd = A ∧ V.st = T) ∧ Below w.heap.size w wr) (fun i _ => m - (intOf i).toNat)
  case atStart => exact ⟨0, by omega, rfl, V0, hx4, Q0, B4⟩
  case round =>
    clear hx4 Q0 B4
    obtain ⟨k, hk, rfl, V, hv, hq, hB⟩ := hrel
    by_cases hlt : k < m
    · have d1 : (k : Int) < (m : Int) := by omega
      go_wp2_with fail
      refine (vram_Put_low hv _).mono ?_; rintro e w5 ⟨rfl, hv5, t5⟩
      have B5 := Tr.below hB t5 (Nat.le_refl _) (by simp; exact ⟨hp, hg⟩)
      go_wp2_with fail
      refine (vram_Get_low hv5).mono ?_; rintro e w6 ⟨rfl, rfl⟩
      go_wp2
      go_roundw
      case rel => exact ⟨k + 1, by omega, rfl, _, hv5, hq, B5⟩
      case measure => simp [intOf]; omega
    · obtain rfl : k = m := by omega
      go_wp2_with fail
      refine (vram_Ports hv).mono ?_; rintro e w5 ⟨rfl, hb5⟩
      have hv5 := hv.below hb5
      have B5 := hB.trans (hb5.mono hB.size)
      rw [hq.out.1, hq.out.2.1, hq.out.2.2]
      clear hv hB hb5
      go_wp2_with fail
      go_loopw [14] (fun i wr => ∃ j : Nat, j ≤ k ∧ i = .int .i64 j ∧ ∃ V, VAt 69 wr p g V ∧ Hid (V.wr = (A + (j : Int) * T) % 65536 ∧ V.rd = (A + (j : Int) * T) % 65536 ∧ V.st = T) ∧ Below w.heap.size w wr) (fun i _ => k - (intOf i).toNat)
      case atStart => exact ⟨0, by omega, rfl, V, hv5, Lib.hid ⟨by rw [hq.out.1]; simp; omega, by rw [hq.out.2.1]; simp; omega, hq.out.2.2⟩, B5⟩
      case round =>
        clear hv5 B5 hq
        obtain ⟨j, hj, rfl, V, hv, hq, hB⟩ := hrel
        by_cases hlt : j < k
        · have d1 : (j : Int) < (k : Int) := by omega
          go_wp2_with fail
          refine (vram_Put_high hv _).mono ?_; rintro e w5 ⟨rfl, hv5, t5⟩
          have B5 := Tr.below hB t5 (Nat.le_refl _) (by simp; exact ⟨hp, hg⟩)
          go_wp2_with fail
          refine (vram_Get_high hv5).mono ?_; rintro e w6 ⟨rfl, hv6, t6⟩
          have B6 := Tr.below B5 t6 (Nat.le_refl _) (by simp; exact ⟨hp, hg⟩)
          obtain ⟨z1, z2, z3⟩ := V.putHi_ports j
          have hs := times_step A T j
          have hq6 : Hid ((((V.putHi j).setRd ((V.putHi j).rd + (V.putHi j).st))).wr = (A + ((j + 1 : Nat) : Int) * T) % 65536 ∧ (((V.putHi j).setRd ((V.putHi j).rd + (V.putHi j).st))).rd = (A + ((j + 1 : Nat) : Int) * T) % 65536 ∧ (((V.putHi j).setRd ((V.putHi j).rd + (V.putHi j).st))).st = T) := by
            refine Lib.hid ⟨?_, ?_, ?_⟩
            · show (V.putHi j).wr = _; rw [z1, hq.out.1, hq.out.2.2, hs]
            · show ((V.putHi j).rd + (V.putHi j).st) % 65536 = _; rw [z2, z3, hq.out.2.1, hq.out.2.2, hs]
            · show (V.putHi j).st = _; rw [z3, hq.out.2.2]
          clear z1 z2 z3 hs hq hv hv5 hB B5 t5 t6
          generalize (V.putHi j).setRd ((V.putHi j).rd + (V.putHi j).st) = U at *
          go_wp2
          go_roundw
          case rel => exact ⟨j + 1, by omega, rfl, U, hv6, hq6, B6⟩
          case measure => simp [intOf]; omega
        · obtain rfl : j = k := by omega
          have e3 : wrap64 (A + wrap64 ((j : Int) * T)) % 65536 = (A + (j : Int) * T) % 65536 := by rw [w64_65536, add_w64_65536]
          go_wp2_with fail
          refine (vram_Ports hv).mono ?_; rintro e w5 ⟨rfl, hb5⟩
          have B5 := hB.trans (hb5.mono hB.size)
          rw [hq.out.1, hq.out.2.1, hq.out.2.2]
          have e1 := HA.out
          have e2 := HT.out
          go_wp2
          go_ret
          exact ⟨rfl, B5⟩
end Go.Proofs.Ytlhnfllfankjhaa
