/- The walk of DmaMoves. -/
import Derived.Test.YtlhnfllfankjhaaTwo
import Derived.Test.YtlhnfllfankjhaaEqA
namespace Go.Proofs.Ytlhnfllfankjhaa
open Go Go.RowKit
set_option linter.unusedSimpArgs false
set_option linter.unusedVariables false
set_option maxRecDepth 100000

set_option maxHeartbeats 4000000 in
theorem dmaMoves_walk (a : Option Addr) (c0 : Nat) (l : List Int) (at' n0 n1 n2 n3 : Int) (w : World) (hl : l.length ≤ 9223372036854775807) (S : SlAt (Value.int .i64) 0 w a l) (hls : ∀ x ∈ l, -9223372036854775808 ≤ x ∧ x ≤ 9223372036854775807)
    (h0 : -9223372036854775808 ≤ n0 ∧ n0 ≤ 9223372036854775807) (h1 : -9223372036854775808 ≤ n1 ∧ n1 ≤ 9223372036854775807) (h3 : -9223372036854775808 ≤ n3 ∧ n3 ≤ 9223372036854775807) :
    Calls Try.prog 3 #[.slice a l.length c0, .int .i64 at', .agg #[.int .i64 n0, .int .i64 n1, .int .i64 n2, .int .i64 n3]] w fun e w' => e = .returned (.bool true) ∧ Below w.heap.size w w' := by
  go_enter Try.func3, Try.ntmps3
  go_wp2_with fail
  have A0 := Blk.new w #[Value.int .i64 n0, Value.int .i64 n1, Value.int .i64 n2, Value.int .i64 n3] 23
  have B0 := (Below.refl w.heap.size w).alloc (Nat.le_refl _) (Obj.cells #[Value.int .i64 n0, Value.int .i64 n1, Value.int .i64 n2, Value.int .i64 n3] 23)
  have l0 := A0.lt
  generalize w.alloc (Obj.cells #[Value.int .i64 n0, Value.int .i64 n1, Value.int .i64 n2, Value.int .i64 n3] 23) = w0 at *
  refine (vram_New _).mono ?_; rintro e w1 ⟨p, g, rfl, hx, hb1, hp, hg⟩
  go_wp2_with fail
  refine (ref13_New _).mono ?_; rintro e w2 ⟨q, h, rfl, hy, hb2, hq, hh⟩
  have lx := hx.lt
  have T2 : Two w w2 p g q h VS.new := ⟨hx.below hb2, hy, by omega, by omega, by omega, by omega, by omega, by omega, by have := hb1.size; omega, by have := hb1.size; omega, (B0.trans (hb1.mono B0.size)).trans (hb2.mono (Nat.le_trans B0.size hb1.size))⟩
  have A2 := Blk.below (Blk.below A0 hb1) hb2
  clear A0 B0 l0 hx hy hb1 hb2 hp hg hq hh lx
  go_wp2_with fail
  generalize hA : at' % 65536 = pa at *
  have pa0 : 0 ≤ pa ∧ pa < 65536 := by omega
  clear hA
  go_loopw [9] (fun i wr => ∃ k : Nat, k ≤ 60 ∧ k ≤ l.length ∧ i = .int .i64 k ∧ Two w wr p g q h (lay VS.new pa l k) ∧ Blk wr w.heap.size #[Value.int .i64 n0, Value.int .i64 n1, Value.int .i64 n2, Value.int .i64 n3] 23) (fun i _ => 60 - (intOf i).toNat)
  case atStart => exact ⟨0, by omega, by omega, rfl, T2, A2⟩
  case round =>
    clear T2 A2
    obtain ⟨k, hk, hkl, rfl, T, A⟩ := hrel
    by_cases hlt : k < l.length ∧ k < 60
    · have d1 : decide ((k : Int) < (l.length : Int)) = true := by simpa using hlt.1
      have d2 : decide ((k : Int) < 60) = true := by simp; omega
      obtain ⟨ad, rfl, g0⟩ := (S.below T.below).atN k hlt.1
      have hz := hls _ (nth_mem (d := 0) hlt.1)
      have i1 : (k : Int) < (l.length : Int) := by omega
      generalize hn : nth 0 l k = z at *
      have HN := Lib.hid hn
      clear hn
      go_wp2_with fail
      refine (vram_Poke T.x _ _).mono ?_; rintro e w3 ⟨rfl, hx3, t3⟩
      have y3 := T.yKept t3 (by simp)
      have g3 := (S.below (Tr.below T.below t3 (Nat.le_refl _) (by simp; exact Nat.le_of_lt T.bg))).atN k hlt.1
      obtain ⟨ad', e', g3⟩ := g3
      obtain rfl := Option.some.inj e'
      rw [HN.out] at g3
      go_wp2_with fail
      refine (ref13_Poke y3 _ _ (by omega) hz).mono ?_; rintro e w4 ⟨rfl, hy4, t4⟩
      have T4 := T.next t3 (by simp) t4 (by simp) hx3 hy4
      have A4 := T.kept t3 (by simp) t4 (by simp) A (Nat.le_refl _)
      rw [← HN.out, ← lay_succ] at T4
      clear T A hx3 y3 hy4 t3 t4 g3 g0
      go_wp2
      go_roundw
      case rel => exact ⟨k + 1, by omega, by omega, rfl, T4, A4⟩
      case measure => simp [intOf]; omega
    · have a0 := A.cell 0
      have a1 := A.cell 1
      have a2 := A.cell 2
      have a3 := A.cell 3
      simp only [List.getElem?_toArray, List.getElem?_cons_zero, List.getElem?_cons_succ] at a0 a1 a2 a3
      have hm : n2 % 64 % 65536 = ((n2 % 64).toNat : Int) := by omega
      generalize lay VS.new pa l k = V at *
      generalize hB : (n2 % 64).toNat = m at *
      have hn2 : n2 % 64 = (m : Int) := by omega
      have hm6 : (m : Int) % 65536 = (m : Int) := by omega
      have hm7 : m < 64 := by omega
      have hd : (¬ k < l.length) ∨ (k < l.length ∧ ¬ (k : Int) < 60) := by omega
      have HN2 := Lib.hid hn2
      have HM6 := Lib.hid hm6
      clear hlt hm hB hn2 hm6
      rcases hd with d1 | ⟨d1, d2⟩
      all_goals
        go_wp2_with fail
        rw [HN2.out]
        refine (dma_Move T.x _ _ _ _ m HM6.out).mono ?_; rintro e w3 ⟨rfl, hx3, t3⟩
        obtain ⟨F, hF⟩ : ∃ F, (n0 + (1 - 2 * bitI n3 2) * ((m + 1 : Nat) : Int)) % 65536 = F := ⟨_, rfl⟩
        obtain ⟨G, hG⟩ : ∃ G, (n1 + (1 - 2 * bitI n3 3) * ((m + 1 : Nat) : Int)) % 65536 = G := ⟨_, rfl⟩
        rw [hF, hG]
        have HF := Lib.hid hF
        have HG := Lib.hid hG
        clear hF hG
        have Z := Blk.new w3 #[Value.int .i64 0, Value.int .i64 0] 29
        have t4 := (t3.alloc (Obj.cells #[Value.int .i64 0, Value.int .i64 0] 29)).setRow (b := w3.heap.size) t3.size #[Value.int .i64 F, Value.int .i64 G]
        have lx3 := hx3.lt
        have x4 := (hx3.below ((Below.refl _ _).alloc (Nat.le_refl _) (Obj.cells #[Value.int .i64 0, Value.int .i64 0] 29))).setRow (b := w3.heap.size) #[Value.int .i64 F, Value.int .i64 G] (by omega) (by omega)
        have E4 := Blk.setRow Z #[Value.int .i64 F, Value.int .i64 G]
        clear a0 a1 a2 a3
        have A4 := A.tr t4 (by have := T.bg; simp; omega)
        have y4 := T.yKept t4 (by simp)
        have T40 := t4.mono (S' := [p, g]) (by simp)
        have a0 := A4.cell 0
        have a1 := A4.cell 1
        have a3 := A4.cell 3
        simp only [List.getElem?_toArray, List.getElem?_cons_zero, List.getElem?_cons_succ] at a0 a1 a3
        go_wp2_with (first
          | (refine wpList_store_row rfl 29 _ _ rfl w3.heap.size (#[Value.int .i64 F, Value.int .i64 G]) rfl rfl 29 _ Z (by kernel_rfl) rfl (by simp [Value.oneCell']) ?_))
        generalize ((w3.alloc (Obj.cells #[Value.int .i64 0, Value.int .i64 0] 29)).setRow w3.heap.size #[Value.int .i64 F, Value.int .i64 G]) = w4 at *
        refine (ref16_Move y4 n0 n1 m n3 h0 h1 (by omega) h3 m HM6.out).mono ?_; rintro e w5 ⟨rfl, hy5, t5⟩
        rw [HF.out, HG.out]
        have T5 := T.next t4 (by simp) t5 (by simp) x4 hy5
        have A5 := T.kept t4 (by simp) t5 (by simp) A (Nat.le_refl _)
        have ly := T.y.lt
        have E5 := E4.tr t5 (by have := t3.size; simp; omega)
        generalize hge : w3.heap.size = ge at *
        clear a0 a1 a3 A4 y4 T40 x4 E4 t4 t5 hy5 Z hx3 t3 T A
        have hq := eq_pair F G F G
        generalize mv V (1 - 2 * bitI n3 2) (1 - 2 * bitI n3 3) n0 n1 (m + 1) = V1 at *
        go_wp2_with (first
          | (refine wpList_load_row rfl 29 _ rfl ge rfl 29 #[Value.int .i64 F, Value.int .i64 G] (0, 0) _ E5 Try.underlying29 rfl (by kernel_rfl) ?_))
        go_loopw [14] (fun i wr => ∃ k : Nat, k ≤ 210 ∧ i = .int .i64 ((k : Int) - 70) ∧ Two w wr p g q h V1 ∧ Blk wr w.heap.size #[Value.int .i64 n0, Value.int .i64 n1, Value.int .i64 n2, Value.int .i64 n3] 23) (fun i _ => (140 - intOf i).toNat)
        case atStart => exact ⟨0, by omega, rfl, T5, A5⟩
        case round =>
          clear T5 A5 E5 hq
          obtain ⟨k, hk, rfl, T, A⟩ := hrel
          by_cases hlt : k < 210
          · have d1 : decide ((k : Int) - 70 < 140) = true := by simp; omega
            have a0 := A.cell 0
            have a1 := A.cell 1
            simp only [List.getElem?_toArray, List.getElem?_cons_zero, List.getElem?_cons_succ] at a0 a1
            have w5' := (Below.refl wr.heap.size wr).alloc (Nat.le_refl _) (Obj.cells #[Value.int .i64 (pa % 65536), Value.int .i64 (n0 % 65536), Value.int .i64 (n1 % 65536)] 3)
            have T6 := T.of_below w5'
            have A6 := Blk.below A w5'
            have Z6 := Blk.new wr #[Value.int .i64 (pa % 65536), Value.int .i64 (n0 % 65536), Value.int .i64 (n1 % 65536)] 3
            have z0 := Z6.cell 0
            have z1 := Z6.cell 1
            have z2 := Z6.cell 2
            simp only [List.getElem?_toArray, List.getElem?_cons_zero, List.getElem?_cons_succ] at z0 z1 z2
            go_wp2_with fail
            clear a0 a1 Z6 w5' T A
            generalize wr.alloc (Obj.cells #[Value.int .i64 (pa % 65536), Value.int .i64 (n0 % 65536), Value.int .i64 (n1 % 65536)] 3) = w6 at *
            go_loopw [95] (fun i w7 => ∃ j : Nat, j ≤ 3 ∧ i = .int .i64 (j : Int) ∧ w6 = w7) (fun i _ => 3 - (intOf i).toNat)
            case atStart => exact ⟨0, by omega, rfl, rfl⟩
            case round =>
              obtain ⟨j, hj, rfl, rfl⟩ := hrel
              have px : 0 ≤ pa % 65536 ∧ pa % 65536 < 65536 := by omega
              have nx : 0 ≤ n0 % 65536 ∧ n0 % 65536 < 65536 := by omega
              have mx : 0 ≤ n1 % 65536 ∧ n1 % 65536 < 65536 := by omega
              generalize pa % 65536 = u0 at *
              generalize n0 % 65536 = u1 at *
              generalize n1 % 65536 = u2 at *
              rcases (show j = 0 ∨ j = 1 ∨ j = 2 ∨ j = 3 by omega) with rfl | rfl | rfl | rfl
              · go_wp2_with fail
                refine (vram_Word T6.x _).mono ?_; rintro e w' ⟨rfl, rfl⟩
                go_wp2_with fail
                refine (ref13_Word T6.y _ (by omega)).mono ?_; rintro e w' ⟨rfl, rfl⟩
                go_wp2
                go_roundw
                case rel => exact ⟨1, by omega, rfl, trivial⟩
                case measure => simp [intOf]
              · go_wp2_with fail
                refine (vram_Word T6.x _).mono ?_; rintro e w' ⟨rfl, rfl⟩
                go_wp2_with fail
                refine (ref13_Word T6.y _ (by omega)).mono ?_; rintro e w' ⟨rfl, rfl⟩
                go_wp2
                go_roundw
                case rel => exact ⟨2, by omega, rfl, trivial⟩
                case measure => simp [intOf]
              · go_wp2_with fail
                refine (vram_Word T6.x _).mono ?_; rintro e w' ⟨rfl, rfl⟩
                go_wp2_with fail
                refine (ref13_Word T6.y _ (by omega)).mono ?_; rintro e w' ⟨rfl, rfl⟩
                go_wp2
                go_roundw
                case rel => exact ⟨3, by omega, rfl, trivial⟩
                case measure => simp [intOf]
              · go_wp2
                go_roundw
                case rel => exact ⟨k + 1, by omega, by congr 1; omega, T6, A6⟩
                case measure => simp [intOf]; omega
          · obtain rfl : k = 210 := by omega
            go_wp2_with fail
            have hM := dma_Move_nil (w := wr) 5 5 0 4 0 (by decide)
            refine hM.mono ?_; rintro e w6 ⟨rfl, t6⟩
            have hq2 := eq_pair 4 6 4 6
            have b2 : bitI 4 2 = 1 := by decide
            have b3 : bitI 4 3 = 0 := by decide
            rw [b2, b3]
            go_wp2
            go_ret
            exact ⟨rfl, Tr.below T.below t6 (Nat.le_refl _) (by simp)⟩
end Go.Proofs.Ytlhnfllfankjhaa
