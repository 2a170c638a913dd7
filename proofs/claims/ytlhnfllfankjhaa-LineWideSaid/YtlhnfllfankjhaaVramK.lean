/- The walk of VramBack. -/
import Derived.Test.YtlhnfllfankjhaaVramS
namespace Go.Proofs.Ytlhnfllfankjhaa
open Go Go.RowKit
set_option linter.unusedSimpArgs false
set_option linter.unusedVariables false
set_option maxRecDepth 100000

/-- What was written so far. -/
def Laid (V : VS) (A T : Int) (xs : List Int) (k : Nat) : Prop := ∀ j : Nat, j < k → V.word (A + (j : Int) * T) = if (A + (j : Int) * T) % 65536 < 32768 then nth 0 xs j % 65536 else 0
theorem apart_places {A T : Int} (hT : T = 1 ∨ T = 32 ∨ T = 64 ∨ T = 128) {j k : Nat} (hj : j < k) (hk : k < 60) : (A + (k : Int) * T) % 65536 ≠ (A + (j : Int) * T) % 65536 := by
  rcases hT with rfl | rfl | rfl | rfl <;> omega
theorem Laid.next {V : VS} (hV : V.Ok) {A T : Int} (hT : T = 1 ∨ T = 32 ∨ T = 64 ∨ T = 128) {xs : List Int} {k : Nat} (hk : k < 60) (h : Laid V A T xs k) (hw : V.wr = (A + (k : Int) * T) % 65536) :
    Laid ((V.putLo (nth 0 xs k)).putHi (nth 0 xs k / 256)) A T xs (k + 1) := by
  have e0 : (V.putLo (nth 0 xs k)).putHi (nth 0 xs k / 256) = ((V.putLo (nth 0 xs k)).poke V.wr (nth 0 xs k % 256 + 256 * (nth 0 xs k / 256 % 256))).setWr (V.wr + V.st) := rfl
  intro j hj
  rw [e0, VS.word_setWr, hw]
  by_cases h1 : j = k
  · subst h1
    rw [VS.word_poke_eq _ (hV.putLo _).len _ (A + (j : Int) * T) _ (Int.emod_emod_of_dvd _ (Int.dvd_refl _))]
    congr 1; omega
  · rw [VS.word_poke_ne _ _ _ _ (by rw [Int.emod_emod_of_dvd _ (Int.dvd_refl _)]; exact apart_places hT (by omega) hk), VS.word_putLo]
    exact h j (by omega)

set_option maxHeartbeats 8000000 in
theorem vramBack_walk (a : Option Addr) (c0 : Nat) (l : List Int) (at' step : Int) (w : World) (hc0 : l.length ≤ c0) (hcm : c0 ≤ 9223372036854775807) (S0 : SlAt (Value.int .i64) 0 w a l) :
    Calls Try.prog 13 #[.int .i64 at', .int .i64 step, .slice a l.length c0] w fun e w' => e = .returned (.bool true) ∧ Below w.heap.size w w' := by
  go_enter Try.func13, Try.ntmps13
  go_upto_if 14 with (fail)
  go_cut [2] (fun s0 wx => w = wx ∧ ∃ (xs : List Int) (c : Nat), s0 = .slice a xs.length c ∧ xs.length ≤ 60 ∧ SlAt (Value.int .i64) 0 w a xs)
  case first =>
    by_cases h5 : (60 : Int) < l.length
    · go_wp2_with fail
      go_meet
      exact ⟨rfl, l.take 60, c0, by rw [show (l.take 60).length = 60 from by simp; omega], by simp; omega, S0.take 60⟩
    · go_wp2_with fail
      go_meet
      exact ⟨rfl, l, c0, rfl, by omega, S0⟩
  case rest =>
    obtain ⟨rfl, xs, c, rfl, hx5, S⟩ := hcut
    go_upto_region 4 with (fail)
    go_cut [1] (fun s1 wx => ∃ T : Int, s1 = .int .i64 T ∧ (T = 1 ∨ T = 32 ∨ T = 64 ∨ T = 128) ∧ Below w.heap.size w wx)
    case first =>
      have hB := (Below.refl w.heap.size w).alloc (Nat.le_refl _) (Obj.cells #[Value.int .i64 1, Value.int .i64 32, Value.int .i64 64, Value.int .i64 128] 3)
      rcases (show step % 4 = 0 ∨ step % 4 = 1 ∨ step % 4 = 2 ∨ step % 4 = 3 by omega) with h | h | h | h
      · go_wp2_with fail
        go_meet
        exact ⟨1, rfl, .inl rfl, hB⟩
      · go_wp2_with fail
        go_meet
        exact ⟨32, rfl, .inr (.inl rfl), hB⟩
      · go_wp2_with fail
        go_meet
        exact ⟨64, rfl, .inr (.inr (.inl rfl)), hB⟩
      · go_wp2_with fail
        go_meet
        exact ⟨128, rfl, .inr (.inr (.inr rfl)), hB⟩
    case rest =>
      obtain ⟨T, rfl, hT, hB0⟩ := hcut
      go_wp2_with fail
      refine (vram_New _).mono ?_; rintro e w1 ⟨p, g, rfl, hx, hb1, hp0, hg0⟩
      have B1 := hB0.trans (hb1.mono hB0.size)
      have hp : w.heap.size ≤ p := Nat.le_trans hB0.size hp0
      have hg : w.heap.size ≤ g := Nat.le_trans hB0.size hg0
      generalize hA : at' % 65536 = A at *
      have A0 : 0 ≤ A ∧ A < 65536 := by omega
      clear hA hb1 hB0 hp0 hg0
      go_wp2_with fail
      refine (vram_SetWrite hx _).mono ?_; rintro e w2 ⟨rfl, hx2, t2⟩
      have B2 := Tr.below B1 t2 (Nat.le_refl _) (by simp; exact hp)
      go_wp2_with fail
      refine (vram_SetStep hx2 _).mono ?_; rintro e w3 ⟨rfl, hx3, t3⟩
      have B3 := Tr.below B2 t3 (Nat.le_refl _) (by simp; exact hp)
      have Q3 := Lib.hid (show ((VS.new.setWr A).setSt T).wr = (A + ((0 : Nat) : Int) * T) % 65536 ∧ ((VS.new.setWr A).setSt T).st = T ∧ Laid ((VS.new.setWr A).setSt T) A T xs 0 from
        ⟨by show A % 65536 = _; simp, by show T % 65536 = T; omega, fun j hj => by omega⟩)
      generalize (VS.new.setWr A).setSt T = V3 at *
      clear hx hx2 t2 t3 B1 B2
      go_wp2_with fail
      go_loopw [8] (fun i wr => ∃ k : Nat, k ≤ xs.length ∧ i = .int .i64 k ∧ ∃ V, VAt 69 wr p g V ∧ Hid (V.wr = (A + (k : Int) * T) % 65536 ∧ V.st = T ∧ Laid V A T xs k) ∧ Below w.heap.size w wr) (fun i _ => xs.length - (intOf i).toNat)
      case atStart => exact ⟨0, by omega, rfl, V3, hx3, Q3, B3⟩
      case round =>
        clear hx3 Q3 B3
        obtain ⟨k, hk, rfl, V, hv, hq, hB⟩ := hrel
        by_cases hlt : k < xs.length
        · have d1 : (k : Int) < (xs.length : Int) := by omega
          obtain ⟨ad, rfl, g0⟩ := (S.below hB).atN k hlt
          go_wp2_with fail
          refine (vram_Put_low hv _).mono ?_; rintro e w5 ⟨rfl, hv5, t5⟩
          have B5 := Tr.below hB t5 (Nat.le_refl _) (by simp; exact ⟨hp, hg⟩)
          obtain ⟨ad', e', g5⟩ := (S.below B5).atN k hlt
          obtain rfl := Option.some.inj e'
          clear g0 e'
          go_wp2_with fail
          refine (vram_Put_high hv5 _).mono ?_; rintro e w6 ⟨rfl, hv6, t6⟩
          have B6 := Tr.below B5 t6 (Nat.le_refl _) (by simp; exact ⟨hp, hg⟩)
          have hq6 : Hid (((V.putLo (nth 0 xs k)).putHi (nth 0 xs k / 256)).wr = (A + ((k + 1 : Nat) : Int) * T) % 65536 ∧ ((V.putLo (nth 0 xs k)).putHi (nth 0 xs k / 256)).st = T ∧ Laid ((V.putLo (nth 0 xs k)).putHi (nth 0 xs k / 256)) A T xs (k + 1)) := by
            obtain ⟨z1, z2, z3⟩ := (V.putLo (nth 0 xs k)).putHi_ports (nth 0 xs k / 256)
            refine Lib.hid ⟨?_, ?_, Laid.next hv.ok hT (by omega) hq.out.2.2 hq.out.1⟩
            · rw [z1]; show (V.wr + V.st) % 65536 = _; rw [hq.out.1, hq.out.2.1, times_step]
            · rw [z3]; exact hq.out.2.1
          clear hq hv hv5 hB B5 t5 t6 g5
          generalize (V.putLo (nth 0 xs k)).putHi (nth 0 xs k / 256) = U at *
          go_wp2
          go_roundw
          case rel => exact ⟨k + 1, by omega, rfl, U, hv6, hq6, B6⟩
          case measure => simp [intOf]; omega
        · obtain rfl : k = xs.length := by omega
          go_wp2_with fail
          refine (vram_SetRead hv _).mono ?_; rintro e w5 ⟨rfl, hv5, t5⟩
          have B5 := Tr.below hB t5 (Nat.le_refl _) (by simp; exact hp)
          have Q5 := Lib.hid (show (V.setRd A).rd = (A + ((0 : Nat) : Int) * T) % 65536 ∧ (V.setRd A).st = T ∧ (V.setRd A).bu = (V.setRd A).word (A + ((0 : Nat) : Int) * T) ∧ Laid (V.setRd A) A T xs xs.length from
            ⟨by show A % 65536 = _; simp, hq.out.2.1, by show V.word A = V.word _; congr 1; simp, fun j hj => hq.out.2.2 j hj⟩)
          generalize V.setRd A = V5 at *
          clear hv hq hB t5
          go_wp2_with fail
          go_loopw [9] (fun i wr => ∃ k : Nat, k ≤ xs.length ∧ i = .int .i64 k ∧ ∃ V, VAt 69 wr p g V ∧ Hid (V.rd = (A + (k : Int) * T) % 65536 ∧ V.st = T ∧ V.bu = V.word (A + (k : Int) * T) ∧ Laid V A T xs xs.length) ∧ Below w.heap.size w wr) (fun i _ => xs.length - (intOf i).toNat)
          case atStart => exact ⟨0, by omega, rfl, V5, hv5, Q5, B5⟩
          case round =>
            clear hv5 Q5 B5
            obtain ⟨k, hk, rfl, V, hv, hq, hB⟩ := hrel
            by_cases hlt : k < xs.length
            · have d1 : (k : Int) < (xs.length : Int) := by omega
              obtain ⟨ad, rfl, g0⟩ := (S.below hB).atN k hlt
              have e3 : wrap64 (A + wrap64 ((k : Int) * T)) % 65536 = (A + (k : Int) * T) % 65536 := by rw [w64_65536, add_w64_65536]
              have hw := hq.out.2.2.2 k hlt
              rw [← hq.out.2.2.1] at hw
              have hq6 : Hid ((V.setRd (V.rd + V.st)).rd = (A + ((k + 1 : Nat) : Int) * T) % 65536 ∧ (V.setRd (V.rd + V.st)).st = T ∧ (V.setRd (V.rd + V.st)).bu = (V.setRd (V.rd + V.st)).word (A + ((k + 1 : Nat) : Int) * T) ∧ Laid (V.setRd (V.rd + V.st)) A T xs xs.length) := by
                have hs := times_step A T k
                refine Lib.hid ⟨?_, hq.out.2.1, ?_, fun j hj => hq.out.2.2.2 j hj⟩
                · show (V.rd + V.st) % 65536 = _; rw [hq.out.1, hq.out.2.1, hs]
                · show V.word (V.rd + V.st) = V.word _
                  apply VS.word_congr
                  rw [hq.out.1, hq.out.2.1, hs]
              have hok := hv.ok.bu
              by_cases hp3 : (A + (k : Int) * T) % 65536 < 32768
              · rw [if_pos hp3] at hw
                have hw2 := Lib.hid hw
                clear hw hq
                go_wp2_with fail
                refine (vram_Get_low hv).mono ?_; rintro e w5 ⟨rfl, rfl⟩
                rw [hw2.out]
                go_wp2_with fail
                refine (vram_Get_high hv).mono ?_; rintro e w6 ⟨rfl, hv6, t6⟩
                rw [hw2.out]
                have B6 := Tr.below hB t6 (Nat.le_refl _) (by simp; exact ⟨hp, hg⟩)
                clear hv hB t6 g0 hw2 hok
                generalize V.setRd (V.rd + V.st) = U at *
                go_wp2
                go_roundw
                case rel => exact ⟨k + 1, by omega, rfl, U, hv6, hq6, B6⟩
                case measure => simp [intOf]; omega
              · rw [if_neg hp3] at hw
                have hp4 : 32768 ≤ (A + (k : Int) * T) % 65536 := by omega
                have hw2 := Lib.hid hw
                clear hw hq
                go_wp2_with fail
                refine (vram_Get_low hv).mono ?_; rintro e w5 ⟨rfl, rfl⟩
                rw [hw2.out]
                go_wp2_with fail
                refine (vram_Get_high hv).mono ?_; rintro e w6 ⟨rfl, hv6, t6⟩
                rw [hw2.out]
                have B6 := Tr.below hB t6 (Nat.le_refl _) (by simp; exact ⟨hp, hg⟩)
                clear hv hB t6 g0 hw2 hok
                generalize V.setRd (V.rd + V.st) = U at *
                go_wp2
                go_roundw
                case rel => exact ⟨k + 1, by omega, rfl, U, hv6, hq6, B6⟩
                case measure => simp [intOf]; omega
            · obtain rfl : k = xs.length := by omega
              go_wp2_with fail
              refine (vram_Poke hv _ _).mono ?_; rintro e w5 ⟨rfl, hv5, t5⟩
              have B5 := Tr.below hB t5 (Nat.le_refl _) (by simp; exact hg)
              go_wp2_with fail
              refine (vram_Word hv5 _).mono ?_; rintro e w6 ⟨rfl, rfl⟩
              rw [VS.word_poke_eq V hv.ok.len 7 7 74565 rfl, if_pos (by decide)]
              go_wp2_with fail
              refine (vram_Words hv5 0 9 (by omega)).mono ?_; rintro e w7 ⟨rfl, _, hb7⟩
              go_wp2
              go_ret
              exact ⟨rfl, B5.trans (hb7.mono B5.size)⟩
end Go.Proofs.Ytlhnfllfankjhaa
