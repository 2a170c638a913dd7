/- Contracts: the reference's mixing. -/
import Derived.Test.YtbjjjgmcdabkhaaLineB
namespace Go.Proofs.Ytbjjjgmcdabkhaa
open Go Go.RowKit
set_option linter.unusedSimpArgs false
set_option linter.unusedVariables false

theorem mix_cases (cols : List Int) (front : List Bool) (k : Nat) (b : Int) :
    (¬ k < cols.length ∧ mixAt cols front k b = b) ∨ (k < cols.length ∧ ¬ k < front.length ∧ mixAt cols front k b = b) ∨
    (k < cols.length ∧ k < front.length ∧ (nth 0 cols k != 0) = false ∧ mixAt cols front k b = b) ∨
    (k < cols.length ∧ k < front.length ∧ (nth 0 cols k != 0) = true ∧ nth false front k = true ∧ mixAt cols front k b = wrap64 (256 + nth 0 cols k)) ∨
    (k < cols.length ∧ k < front.length ∧ (nth 0 cols k != 0) = true ∧ nth false front k = false ∧ (b == 0) = true ∧ mixAt cols front k b = wrap64 (256 + nth 0 cols k)) ∨
    (k < cols.length ∧ k < front.length ∧ (nth 0 cols k != 0) = true ∧ nth false front k = false ∧ (b == 0) = false ∧ mixAt cols front k b = b) := by
  by_cases h1 : k < cols.length
  · by_cases h2 : k < front.length
    · by_cases h3 : nth 0 cols k = 0
      · exact .inr (.inr (.inl ⟨h1, h2, by simp [h3], by simp [mixAt, h3]⟩))
      · cases h4 : nth false front k
        · by_cases h5 : b = 0
          · exact .inr (.inr (.inr (.inr (.inl ⟨h1, h2, by simpa using h3, rfl, by simp [h5], by unfold mixAt; rw [if_pos ⟨by omega, h3, .inr h5⟩]⟩))))
          · exact .inr (.inr (.inr (.inr (.inr ⟨h1, h2, by simpa using h3, rfl, by simpa using h5, by unfold mixAt; rw [if_neg (by rw [h4]; simp [h5])]⟩))))
        · exact .inr (.inr (.inr (.inl ⟨h1, h2, by simpa using h3, rfl, by unfold mixAt; rw [if_pos ⟨by omega, h3, .inl h4⟩]⟩)))
    · exact .inr (.inl ⟨h1, h2, by unfold mixAt; rw [if_neg (by omega)]⟩)
  · exact .inl ⟨h1, by unfold mixAt; rw [if_neg (by omega)]⟩

set_option maxHeartbeats 1000000 in
theorem ref19_Mix (a A1 A2 : Option Addr) (c0 c1 c2 : Nat) (back cols : List Int) (front : List Bool) (w : World)
    (hb : back.length * 8 ≤ 140737488351232) (hm1 : cols.length ≤ maxLen) (hm2 : front.length ≤ maxLen)
    (S0 : SlAt (Value.int .i64) 0 w a back) (S1 : SlAt (Value.int .i64) 0 w A1 cols) (S2 : SlAt Value.bool false w A2 front) :
    Calls Try.prog 15 #[.slice a back.length c0, .slice A1 cols.length c1, .slice A2 front.length c2] w fun e w' =>
      ∃ v, e = .returned v ∧ Own (Value.int .i64) w' w.heap.size 3 v (mixL back cols front back.length) ∧ Below w.heap.size w w' := by
  unfold maxLen at hm1 hm2
  obtain ⟨i0, hi0, hz0, hz1, hz2⟩ := info_parts Try.infoInt
  go_enter Try.func15, Try.ntmps15
  go_wp2
  go_loopw [7, 8] (fun v i wr => ∃ k : Nat, k ≤ back.length ∧ i = .int .i64 k ∧ Own (Value.int .i64) wr w.heap.size 3 v (mixL back cols front k) ∧ Below w.heap.size w wr) (fun _ i _ => back.length - (intOf i).toNat)
  case atStart => exact ⟨0, by omega, rfl, World.ownsRow_nil _ _ _ _, Below.refl _ _⟩
  case round =>
    obtain ⟨k, hk, rfl, hown, hbl⟩ := hrel
    by_cases hlt : k < back.length
    · obtain ⟨ad, rfl, g0⟩ := (S0.below hbl).atN k hlt
      have i1 : (k : Int) < (back.length : Int) := by omega
      have hl := mixL_length back cols front k
      have HL := Lib.hid hl; clear hl
      have hby : (k + 1) * 8 ≤ 140737488355328 := by omega
      rcases mix_cases cols front k (nth 0 back k) with ⟨h1, hf⟩ | ⟨h1, h2, hf⟩ | ⟨h1, h2, h3, hf⟩ | ⟨h1, h2, h3, h4, hf⟩ | ⟨h1, h2, h3, h4, h5, hf⟩ | ⟨h1, h2, h3, h4, h5, hf⟩
      · have Hf := Lib.hid hf; clear hf
        have d1 : decide (k < cols.length) = false := by simpa using h1
        go_wp2_with (at_builtin; refine wpList_app1 (f := Value.int .i64) rfl _ _ 25 rfl w.heap.size 3 i0 (.int .i64 0) 8 Try.underlying25 hi0 hz0 hz1 hz2 rfl _ _ rfl (hown.alloc _) wr.heap.size 1 (mixAt cols front k (nth 0 back k)) rfl (by rw [Hf.out]; simp) rfl (by decide) (by rw [HL.out]; exact hby) (by simp; have := hbl.size; omega) ?_; intro v1 w1 hown1 hg1)
        have hb1 : Below w.heap.size w w1 := (hbl.alloc hbl.size _).grown hg1 (by simp; have := hbl.size; omega) (fun b hb => hown.ge _ hb)
        rw [← mixL_succ] at hown1
        go_roundw
        case rel => exact ⟨k + 1, by omega, by go_num, hown1, hb1⟩
        case measure => simp [intOf]; omega
      · have Hf := Lib.hid hf; clear hf
        have d1 : decide (k < cols.length) = true := by simpa using h1
        have d2 : decide (k < front.length) = false := by simpa using h2
        go_wp2_with (at_builtin; refine wpList_app1 (f := Value.int .i64) rfl _ _ 25 rfl w.heap.size 3 i0 (.int .i64 0) 8 Try.underlying25 hi0 hz0 hz1 hz2 rfl _ _ rfl (hown.alloc _) wr.heap.size 1 (mixAt cols front k (nth 0 back k)) rfl (by rw [Hf.out]; simp) rfl (by decide) (by rw [HL.out]; exact hby) (by simp; have := hbl.size; omega) ?_; intro v1 w1 hown1 hg1)
        have hb1 : Below w.heap.size w w1 := (hbl.alloc hbl.size _).grown hg1 (by simp; have := hbl.size; omega) (fun b hb => hown.ge _ hb)
        rw [← mixL_succ] at hown1
        go_roundw
        case rel => exact ⟨k + 1, by omega, by go_num, hown1, hb1⟩
        case measure => simp [intOf]; omega
      · have Hf := Lib.hid hf; clear hf
        have d1 : decide (k < cols.length) = true := by simpa using h1
        have d2 : decide (k < front.length) = true := by simpa using h2
        obtain ⟨a1, rfl, g1⟩ := (S1.below hbl).atN k h1
        go_wp2_with (at_builtin; refine wpList_app1 (f := Value.int .i64) rfl _ _ 25 rfl w.heap.size 3 i0 (.int .i64 0) 8 Try.underlying25 hi0 hz0 hz1 hz2 rfl _ _ rfl (hown.alloc _) wr.heap.size 1 (mixAt cols front k (nth 0 back k)) rfl (by rw [Hf.out]; simp) rfl (by decide) (by rw [HL.out]; exact hby) (by simp; have := hbl.size; omega) ?_; intro v1 w1 hown1 hg1)
        have hb1 : Below w.heap.size w w1 := (hbl.alloc hbl.size _).grown hg1 (by simp; have := hbl.size; omega) (fun b hb => hown.ge _ hb)
        rw [← mixL_succ] at hown1
        go_roundw
        case rel => exact ⟨k + 1, by omega, by go_num, hown1, hb1⟩
        case measure => simp [intOf]; omega
      all_goals
        have Hf := Lib.hid hf; clear hf
        have d1 : decide (k < cols.length) = true := by simpa using h1
        have d2 : decide (k < front.length) = true := by simpa using h2
        obtain ⟨a1, rfl, g1⟩ := (S1.below hbl).atN k h1
        obtain ⟨a2, rfl, g2⟩ := (S2.below hbl).atN k h2
        have b1 : (k : Int) < (cols.length : Int) := by omega
        have b2 : (k : Int) < (front.length : Int) := by omega
        go_wp2_with (at_builtin; refine wpList_app1 (f := Value.int .i64) rfl _ _ 25 rfl w.heap.size 3 i0 (.int .i64 0) 8 Try.underlying25 hi0 hz0 hz1 hz2 rfl _ _ rfl (hown.alloc _) wr.heap.size 1 (mixAt cols front k (nth 0 back k)) rfl (by rw [Hf.out]; simp) rfl (by decide) (by rw [HL.out]; exact hby) (by simp; have := hbl.size; omega) ?_; intro v1 w1 hown1 hg1)
        have hb1 : Below w.heap.size w w1 := (hbl.alloc hbl.size _).grown hg1 (by simp; have := hbl.size; omega) (fun b hb => hown.ge _ hb)
        rw [← mixL_succ] at hown1
        go_roundw
        case rel => exact ⟨k + 1, by omega, by go_num, hown1, hb1⟩
        case measure => simp [intOf]; omega
    · obtain rfl : k = back.length := by omega
      go_wp2
      go_ret
      exact ⟨_, rfl, hown, hbl⟩

end Go.Proofs.Ytbjjjgmcdabkhaa
