/- The laws of block, walked. -/
import Derived.Test.YtbjjjgmcdabkhaaBlock
namespace Go.Proofs.Ytbjjjgmcdabkhaa
open Go Go.RowKit
set_option linter.unusedSimpArgs false
set_option linter.unusedVariables false

theorem covers_walk (a b i k : Int) (w : World) : Calls Try.prog 7 #[.agg #[.int .i64 a, .int .i64 b], .int .i64 i, .int .i64 k] w fun e w' => e = .returned (.bool true) ∧ Below w.heap.size w w' := by
  have hi : 0 ≤ i % 65536 ∧ i % 65536 < 65536 := by omega
  have hk : 0 ≤ k % 65536 ∧ k % 65536 < 65536 := by omega
  have h1 : ∀ x : Int, ((stA 0 (i % 65536) x == stA 0 (k % 65536) x) == (i % 65536 == k % 65536)) = true := by
    intro x; rw [Bool.eq_iff_iff]; simp [stA]; rw [Bool.eq_iff_iff]; simp; omega
  have h2 : ∀ x : Int, ((stB 0 (i % 65536) x == stB 0 (k % 65536) x) == (i % 65536 == k % 65536)) = true := by
    intro x; rw [Bool.eq_iff_iff]; simp [stB]; rw [Bool.eq_iff_iff]; simp; omega
  have h3 : ∀ x : Int, ((stA 1 (i % 65536) x == stA 1 (k % 65536) x) == (i % 65536 == k % 65536)) = true := by
    intro x; rw [Bool.eq_iff_iff]; simp [stA]; rw [Bool.eq_iff_iff]; simp; omega
  have h4 : ∀ x : Int, ((stB 1 (i % 65536) x == stB 1 (k % 65536) x) == (i % 65536 == k % 65536)) = true := by
    intro x; rw [Bool.eq_iff_iff]; simp [stB]; rw [Bool.eq_iff_iff]; simp; omega
  replace h1 := h1 a; replace h2 := h2 b; replace h3 := h3 a; replace h4 := h4 b
  have h5 := cnt_range (i % 65536)
  have h6 : ((cnt (i % 65536) == 65536) == (i % 65536 == 0)) = true := by
    rw [Bool.eq_iff_iff]; simp [cnt]; rw [Bool.eq_iff_iff]; simp; omega
  clear hi hk
  have k0 := Blk.new w #[Value.int IntKind.i64 a, Value.int IntKind.i64 b] 34
  go_enter Try.func7, Try.ntmps7
  go_wp2_with fail
  refine (block_Step _ _ _ _ (by decide) (by decide) _).mono ?_; rintro e w1 ⟨rfl, hb1⟩
  have k1 := k0.below hb1
  have c1 := k1.cell 0; have d1 := k1.cell 1
  simp only [List.getElem?_toArray, List.getElem?_cons_zero, List.getElem?_cons_succ] at c1 d1
  go_wp2_with fail
  refine (block_Step _ _ _ _ (by decide) (by decide) _).mono ?_; rintro e w2 ⟨rfl, hb2⟩
  have k2 := k1.below hb2
  have c2 := k2.cell 0; have d2 := k2.cell 1
  simp only [List.getElem?_toArray, List.getElem?_cons_zero, List.getElem?_cons_succ] at c2 d2
  clear c1 d1
  go_wp2_with fail
  refine (block_Step _ _ _ _ (by decide) (by decide) _).mono ?_; rintro e w3 ⟨rfl, hb3⟩
  have k3 := k2.below hb3
  have c3 := k3.cell 0; have d3 := k3.cell 1
  simp only [List.getElem?_toArray, List.getElem?_cons_zero, List.getElem?_cons_succ] at c3 d3
  clear c2 d2
  go_wp2_with fail
  refine (block_Step _ _ _ _ (by decide) (by decide) _).mono ?_; rintro e w4 ⟨rfl, hb4⟩
  clear c3 d3
  go_wp2_with fail
  refine (block_Count _ _).mono ?_; rintro e w5 ⟨rfl, rfl⟩
  go_wp2_with fail
  refine (block_Cycles _ _).mono ?_; rintro e w5 ⟨rfl, rfl⟩
  have h7 : (17 + 6 * cnt (i % 65536) == 17 + 6 * cnt (i % 65536)) = true := by simp
  go_wp2
  go_ret
  refine ⟨rfl, ?_⟩
  have z1 := hb1.size; have z2 := hb2.size; have z3 := hb3.size
  simp only [World.size_alloc] at z1
  exact ((((Below.refl _ _).alloc (Nat.le_refl _) _).trans (hb1.mono (by simp))).trans (hb2.mono (by omega))).trans ((hb3.mono (by omega)).trans (hb4.mono (by omega)))

theorem stA_range (k i a : Int) : 0 ≤ stA k i a ∧ stA k i a < 65536 := by unfold stA; omega
theorem stB_range (k i a : Int) : 0 ≤ stB k i a ∧ stB k i a < 65536 := by unfold stB; omega
theorem stA_on (k I a : Int) (hk : k = 0 ∨ k = 2 ∨ k = 3 ∨ (k = 4 ∧ I % 2 = 0)) : ((stA k (I + 1) a - stA k I a) % 65536 == 1) = true := by
  rcases hk with rfl | rfl | rfl | ⟨rfl, h⟩ <;> simp [stA] <;> omega
theorem stA_off (k I a : Int) (hk : k = 1 ∨ (k = 4 ∧ I % 2 = 1)) : ((stA k (I + 1) a - stA k I a) % 65536 == 1) = false := by
  rcases hk with rfl | ⟨rfl, h⟩ <;> simp [stA] <;> omega
theorem stA_again (k I a : Int) : (stA k I a != stA k (I + 65536) a) = false := by simp [stA]; omega
theorem stB_again (k I a : Int) : (stB k I a != stB k (I + 65536) a) = false := by simp [stB]; omega

set_option maxRecDepth 100000 in
set_option maxHeartbeats 1000000 in
theorem sides_walk (i a b : Int) (w : World) : Calls Try.prog 6 #[.int .i64 i, .agg #[.int .i64 a, .int .i64 b]] w fun e w' => e = .returned (.bool true) ∧ Below w.heap.size w w' := by
  have hi : 0 ≤ i % 65536 ∧ i % 65536 < 65536 := by omega
  generalize hI : i % 65536 = I at *
  have HI := Lib.hid hI
  have k0 := Blk.new w #[Value.int IntKind.i64 a, Value.int IntKind.i64 b] 34
  go_enter Try.func6, Try.ntmps6
  go_wp2
  clear hI
  go_loopw [5] (fun k wr => ∃ n : Int, 0 ≤ n ∧ n ≤ 5 ∧ k = .int .i64 n ∧ Below w.heap.size w wr ∧ Blk wr w.heap.size #[Value.int IntKind.i64 a, Value.int IntKind.i64 b] 34) (fun k _ => (5 - intOf k).toNat)
  case atStart => exact ⟨0, by omega, by omega, rfl, (Below.refl _ _).alloc (Nat.le_refl _) _, k0⟩
  case round =>
    obtain ⟨n, hn0, hn, rfl, hb0, kr⟩ := hrel
    by_cases hn5 : n = 5
    · subst hn5
      have c0 : wr.cell? ⟨w.heap.size, 0, none⟩ = some (Value.int IntKind.i64 a) := kr.cell 0
      have c1 : wr.cell? ⟨w.heap.size, 1, none⟩ = some (Value.int IntKind.i64 b) := kr.cell 1
      go_wp2_with fail
      refine (block_Step 0 _ _ _ (by decide) (by decide) _).mono ?_; rintro e w1 ⟨rfl, hb1⟩
      replace kr := kr.below hb1; clear c0 c1
      have c0 : w1.cell? ⟨w.heap.size, 0, none⟩ = some (Value.int IntKind.i64 a) := kr.cell 0
      have c1 : w1.cell? ⟨w.heap.size, 1, none⟩ = some (Value.int IntKind.i64 b) := kr.cell 1
      go_wp2_with fail
      refine (block_Step 1 _ _ _ (by decide) (by decide) _).mono ?_; rintro e w2 ⟨rfl, hb2⟩
      have x1 : (stA 0 I a == stA 1 (65536 - I) a) = true := by simp [stA]; omega
      have x2 : (stB 0 I b == stB 1 (65536 - I) b) = true := by simp [stB]; omega
      go_wp2_with fail
      refine (block_Cycles _ _).mono ?_; rintro e w3 ⟨rfl, rfl⟩
      have x3 : (17 + 6 * cnt 1 == 23) = true := by decide
      go_wp2
      go_ret
      have z0 := hb0.size; have z1 := hb1.size
      exact ⟨rfl, (hb0.trans (hb1.mono (by omega))).trans (hb2.mono (by omega))⟩
    · have hn5' : n < 5 := by omega
      clear hn hn5
      have r1 := stA_range n I a; have r2 := stA_range n (I + 1) a
      have e1 := stA_again n I a; have e2 := stB_again n I b
      have c0 : wr.cell? ⟨w.heap.size, 0, none⟩ = some (Value.int IntKind.i64 a) := kr.cell 0
      have c1 : wr.cell? ⟨w.heap.size, 1, none⟩ = some (Value.int IntKind.i64 b) := kr.cell 1
      go_wp2_with fail
      refine (block_Step n _ _ _ hn0 hn5' _).mono ?_; rintro e w1 ⟨rfl, hb1⟩
      replace kr := kr.below hb1; clear c0 c1
      have c0 : w1.cell? ⟨w.heap.size, 0, none⟩ = some (Value.int IntKind.i64 a) := kr.cell 0
      have c1 : w1.cell? ⟨w.heap.size, 1, none⟩ = some (Value.int IntKind.i64 b) := kr.cell 1
      go_wp2_with fail
      refine (block_Step n _ _ _ hn0 hn5' _).mono ?_; rintro e w2 ⟨rfl, hb2⟩
      replace kr := kr.below hb2; clear c0 c1
      have c0 : w2.cell? ⟨w.heap.size, 0, none⟩ = some (Value.int IntKind.i64 a) := kr.cell 0
      have c1 : w2.cell? ⟨w.heap.size, 1, none⟩ = some (Value.int IntKind.i64 b) := kr.cell 1
      go_wp2_with fail
      refine (block_Step n _ _ _ hn0 hn5' _).mono ?_; rintro e w3 ⟨rfl, hb3⟩
      replace kr := kr.below hb3; clear c0 c1
      have c0 : w3.cell? ⟨w.heap.size, 0, none⟩ = some (Value.int IntKind.i64 a) := kr.cell 0
      have c1 : w3.cell? ⟨w.heap.size, 1, none⟩ = some (Value.int IntKind.i64 b) := kr.cell 1
      go_wp2_with fail
      refine (block_Step n _ _ _ hn0 hn5' _).mono ?_; rintro e w4 ⟨rfl, hb4⟩
      replace kr := kr.below hb4; clear c0 c1
      have hb : Below w.heap.size w w4 := by
        have z0 := hb0.size; have z1 := hb1.size; have z2 := hb2.size; have z3 := hb3.size
        exact ((hb0.trans (hb1.mono (by omega))).trans (hb2.mono (by omega))).trans ((hb3.mono (by omega)).trans (hb4.mono (by omega)))
      clear hb0 hb1 hb2 hb3 hb4
      have hp : I % 2 = 0 ∨ I % 2 = 1 := by omega
      rcases (by omega : n = 0 ∨ n = 1 ∨ n = 2 ∨ n = 3 ∨ n = 4) with rfl | rfl | rfl | rfl | rfl
      · have o := stA_on 0 I a (by simp)
        go_wp2
        go_roundw
        case rel => exact ⟨1, by omega, by omega, rfl, hb, kr⟩
        case measure => simp [intOf]
      · have o := stA_off 1 I a (by simp)
        go_wp2
        go_roundw
        case rel => exact ⟨2, by omega, by omega, rfl, hb, kr⟩
        case measure => simp [intOf]
      · have o := stA_on 2 I a (by simp)
        have x1 : (stB 2 (I + 1) b != stB 2 I b) = false := by simp [stB]
        have x2 : (stB 2 (I + 2) b != stB 2 I b) = false := by simp [stB]
        go_wp2
        go_roundw
        case rel => exact ⟨3, by omega, by omega, rfl, hb, kr⟩
        case measure => simp [intOf]
      · have o := stA_on 3 I a (by simp)
        have x1 : (stB 3 (I + 1) b == stB 3 I b) = false := by simp [stB]; omega
        have x2 : (stB 3 (I + 2) b != stB 3 I b) = false := by simp [stB]
        go_wp2
        go_roundw
        case rel => exact ⟨4, by omega, by omega, rfl, hb, kr⟩
        case measure => simp [intOf]
      · have x1 : (stA 4 (I + 1) a == stA 4 I a) = false := by simp [stA]; omega
        have x2 : (stA 4 (I + 2) a != stA 4 I a) = false := by simp [stA]
        rcases hp with hp | hp
        · have o := stA_on 4 I a (by simp [hp])
          have hp' : (I % 2 == 0) = true := by simp [hp]
          clear hp
          go_wp2
          go_roundw
          case rel => exact ⟨5, by omega, by omega, rfl, hb, kr⟩
          case measure => simp [intOf]
        · have o := stA_off 4 I a (by simp [hp])
          have hp' : (I % 2 == 0) = false := by simp [hp]
          clear hp
          go_wp2
          go_roundw
          case rel => exact ⟨5, by omega, by omega, rfl, hb, kr⟩
          case measure => simp [intOf]

end Go.Proofs.Ytbjjjgmcdabkhaa
