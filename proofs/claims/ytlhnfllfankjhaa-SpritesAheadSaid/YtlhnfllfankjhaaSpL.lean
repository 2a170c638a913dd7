/- Sprites' lines, in plain numbers: what a line is, pixel by pixel. -/
import Derived.Test.YtlhnfllfankjhaaSpV
namespace Go.Proofs.Ytlhnfllfankjhaa
open Go Go.RowKit
set_option linter.unusedSimpArgs false
set_option linter.unusedVariables false

/-- The colour of a sprite at x, of its first m columns; 0: none. -/
def SpV.at (f : Int → Int) (s : SpV) (y : Int) (m : Nat) (x : Nat) : Int := if s.X ≤ x ∧ (x : Int) < s.X + m then s.px f y (x - s.X) else 0
theorem SpV.at_zero (f : Int → Int) (s : SpV) (y : Int) (x : Nat) : s.at f y 0 x = 0 := by unfold SpV.at; rw [if_neg (by omega)]
theorem SpV.at_in (f : Int → Int) (s : SpV) (y : Int) (m x : Nat) : 0 ≤ s.at f y m x ∧ s.at f y m x < 16 := by
  unfold SpV.at
  split
  · exact s.px_in f y _
  · omega
theorem SpV.at_new (f : Int → Int) (s : SpV) (y : Int) (m x : Nat) (h : s.X + m = x) : s.at f y m x = 0 ∧ s.at f y (m + 1) x = s.px f y m := by
  unfold SpV.at
  rw [if_neg (by omega), if_pos (by omega)]
  exact ⟨rfl, by rw [show (x : Int) - s.X = m by omega]⟩
theorem SpV.at_old (f : Int → Int) (s : SpV) (y : Int) (m x : Nat) (h : s.X + m ≠ x) : s.at f y (m + 1) x = s.at f y m x := by
  unfold SpV.at
  by_cases h1 : s.X ≤ x ∧ (x : Int) < s.X + m
  · rw [if_pos h1, if_pos (by omega)]
  · rw [if_neg h1, if_neg (by omega)]

theorem SS.dot_eq (S : SS) (n : Nat) (k : Int) (s : SpV) (x : Nat) (c : Int) (h : x < n ∧ c ≠ 0) : S.dot n k s x c = { cols := if nth 0 S.cols x = 0 then S.cols.set x (16 * s.P + c) else S.cols, front := if nth 0 S.cols x = 0 then S.front.set x s.F else S.front, first := S.first.set x (nth false S.first x || k == 0), hit := S.hit || (decide (0 < k) && nth false S.first x) } := by
  unfold SS.dot
  rw [if_pos ⟨by omega, h.2⟩, Int.toNat_natCast]
theorem SS.dot_not (S : SS) (n : Nat) (k : Int) (s : SpV) (x : Int) (c : Int) (h : ¬ ((0 ≤ x ∧ x < n) ∧ c ≠ 0)) : S.dot n k s x c = S := by unfold SS.dot; rw [if_neg h]

/-- A sprite's columns on what was drawn: pixel by pixel. -/
structure SpIs (f : Int → Int) (n : Nat) (k : Int) (s : SpV) (y : Int) (m : Nat) (S S' : SS) : Prop where
  cols : ∀ x, x < n → nth 0 S'.cols x = if nth 0 S.cols x = 0 ∧ s.at f y m x ≠ 0 then 16 * s.P + s.at f y m x else nth 0 S.cols x
  front : ∀ x, x < n → nth false S'.front x = if nth 0 S.cols x = 0 ∧ s.at f y m x ≠ 0 then s.F else nth false S.front x
  first : ∀ x, x < n → nth false S'.first x = (nth false S.first x || (k == 0 && s.at f y m x != 0))
  hit : S'.hit = true ↔ (S.hit = true ∨ (0 < k ∧ ∃ x, x < n ∧ s.at f y m x ≠ 0 ∧ nth false S.first x = true))

theorem SS.sp_is {S : SS} {n : Nat} (hS : S.Ok n) (f : Int → Int) (k : Int) (hk : 0 ≤ k) {s : SpV} (hs : s.In) (y : Int) : ∀ m, SpIs f n k s y m S (S.sp f n k s y m)
  | 0 => ⟨fun x _ => by rw [SpV.at_zero, if_neg (fun h => h.2 rfl)]; rfl, fun x _ => by rw [SpV.at_zero, if_neg (fun h => h.2 rfl)]; rfl, fun x _ => by rw [SpV.at_zero]; simp [SS.sp],
      ⟨fun h => .inl h, fun h => by
        rcases h with h | ⟨_, x, _, h, _⟩
        · exact h
        · exact absurd (SpV.at_zero f s y x) h⟩⟩
  | m + 1 => by
    have ih := SS.sp_is hS f k hk hs y m
    have ok := hS.sp f k hs y m
    have hP := hs.P
    rw [SS.sp_succ]
    generalize S.sp f n k s y m = T at *
    by_cases hx : (0 ≤ s.X + m ∧ s.X + m < n) ∧ s.px f y m ≠ 0
    · obtain ⟨x0, hx0⟩ : ∃ x0 : Nat, s.X + m = x0 := ⟨(s.X + m).toNat, by omega⟩
      have hxn : x0 < n := by omega
      obtain ⟨e1, e2⟩ := s.at_new f y m x0 hx0
      rw [hx0, SS.dot_eq T n k s x0 _ ⟨hxn, hx.2⟩, ← e2]
      have hpx : s.at f y (m + 1) x0 ≠ 0 := by rw [e2]; exact hx.2
      have hold : ∀ x, x ≠ x0 → s.at f y (m + 1) x = s.at f y m x := fun x h => s.at_old f y m x (by omega)
      have c0 := ih.cols x0 hxn
      have t0 := ih.first x0 hxn
      rw [e1, if_neg (fun h => h.2 rfl)] at c0
      rw [e1] at t0
      simp only [bne_self_eq_false, Bool.and_false, Bool.or_false] at t0
      refine ⟨fun x hxl => ?_, fun x hxl => ?_, fun x hxl => ?_, ?_⟩
      · simp only
        by_cases h : x = x0
        · subst h
          rw [c0]
          by_cases hz : nth 0 S.cols x = 0
          · rw [if_pos hz, nth_set_eq (by rw [ok.cols]; exact hxl), if_pos ⟨hz, hpx⟩]
          · rw [if_neg hz, if_neg (fun h => hz h.1), c0]
        · rw [hold x h, ← ih.cols x hxl]
          split
          · rw [nth_set_ne (Ne.symm h)]
          · rfl
      · simp only
        by_cases h : x = x0
        · subst h
          rw [c0]
          by_cases hz : nth 0 S.cols x = 0
          · rw [if_pos hz, nth_set_eq (by rw [ok.front]; exact hxl), if_pos ⟨hz, hpx⟩]
          · rw [if_neg hz, if_neg (fun h => hz h.1)]
            have := ih.front x hxl
            rw [e1, if_neg (fun h => h.2 rfl)] at this
            exact this
        · rw [hold x h, ← ih.front x hxl]
          split
          · rw [nth_set_ne (Ne.symm h)]
          · rfl
      · simp only
        by_cases h : x = x0
        · subst h
          rw [nth_set_eq (by rw [ok.first]; exact hxl), t0]
          have : (s.at f y (m + 1) x != 0) = true := by simpa using hpx
          rw [this, Bool.and_true]
        · rw [nth_set_ne (Ne.symm h), hold x h]; exact ih.first x hxl
      · simp only
        rw [Bool.or_eq_true, ih.hit, Bool.and_eq_true, decide_eq_true_iff, t0]
        constructor
        · rintro ((h | ⟨h1, x, h2, h3, h4⟩) | ⟨h1, h2⟩)
          · exact .inl h
          · refine .inr ⟨h1, x, h2, ?_, h4⟩
            by_cases h : x = x0
            · subst h; exact hpx
            · rw [hold x h]; exact h3
          · exact .inr ⟨h1, x0, hxn, hpx, h2⟩
        · rintro (h | ⟨h1, x, h2, h3, h4⟩)
          · exact .inl (.inl h)
          · by_cases h : x = x0
            · subst h; exact .inr ⟨h1, h4⟩
            · rw [hold x h] at h3; exact .inl (.inr ⟨h1, x, h2, h3, h4⟩)
    · rw [SS.dot_not T n k s _ _ hx]
      have hold : ∀ x : Nat, x < n → s.at f y (m + 1) x = s.at f y m x := fun x hxl => by
        by_cases h : s.X + m = x
        · obtain ⟨e1, e2⟩ := s.at_new f y m x h
          rw [e1, e2]
          by_cases h0 : s.px f y m = 0
          · exact h0
          · exact absurd ⟨by omega, h0⟩ hx
        · exact s.at_old f y m x h
      refine ⟨fun x hxl => by rw [hold x hxl]; exact ih.cols x hxl, fun x hxl => by rw [hold x hxl]; exact ih.front x hxl, fun x hxl => by rw [hold x hxl]; exact ih.first x hxl, ?_⟩
      rw [ih.hit]
      constructor
      · rintro (h | ⟨h1, x, h2, h3, h4⟩)
        · exact .inl h
        · exact .inr ⟨h1, x, h2, by rw [hold x h2]; exact h3, h4⟩
      · rintro (h | ⟨h1, x, h2, h3, h4⟩)
        · exact .inl h
        · exact .inr ⟨h1, x, h2, by rw [← hold x h2]; exact h3, h4⟩

/-- No sprite from k on, m of them, is on the line. -/
theorem scan_none (f : Int → Int) (n : Nat) (t : List Int) (y : Int) : ∀ (m k : Nat) (S : SS) (tk : Int), (∀ j, k ≤ j → j < k + m → ¬ (spOf t j).on y) → scan f n t y m k S tk = (S, false)
  | 0, _, _, _, _ => rfl
  | m + 1, k, S, tk, h => by
    rw [scan_off f n t y m k S tk (h k (Nat.le_refl _) (by omega))]
    exact scan_none f n t y m (k + 1) S tk (fun j h1 h2 => h j (by omega) (by omega))
/-- Sprites that are alike, or elsewhere, draw alike. -/
theorem scan_congr (f : Int → Int) (n : Nat) (t u : List Int) (y : Int) : ∀ (m k : Nat) (S : SS) (tk : Int), (∀ j, k ≤ j → j < k + m → spOf t j = spOf u j ∨ (¬ (spOf t j).on y ∧ ¬ (spOf u j).on y)) → scan f n t y m k S tk = scan f n u y m k S tk
  | 0, _, _, _, _ => rfl
  | m + 1, k, S, tk, h => by
    have hr : ∀ S tk, scan f n t y m (k + 1) S tk = scan f n u y m (k + 1) S tk := fun S tk => scan_congr f n t u y m (k + 1) S tk (fun j h1 h2 => h j (by omega) (by omega))
    rcases h k (Nat.le_refl _) (by omega) with e | ⟨h1, h2⟩
    · rw [scan, scan, e]
      simp only [hr]
    · rw [scan_off f n t y m k S tk h1, scan_off f n u y m k S tk h2, hr]
theorem spOf_congr (t u : List Int) (k : Nat) (h : ∀ j, 4 * k ≤ j → j < 4 * k + 4 → nth 0 t j = nth 0 u j) : spOf t k = spOf u k := by
  unfold spOf
  rw [h _ (Nat.le_refl _) (by omega), h (4 * k + 1) (by omega) (by omega), h (4 * k + 2) (by omega) (by omega), h (4 * k + 3) (by omega) (by omega)]
/-- A sprite of no words is above all lines. -/
theorem spOf_zero (t : List Int) (k : Nat) (y : Int) (hy : 0 ≤ y) (h : ∀ j, 4 * k ≤ j → j < 4 * k + 4 → nth 0 t j = 0) : ¬ (spOf t k).on y := by
  unfold spOf SpV.on
  rw [h _ (Nat.le_refl _) (by omega), h (4 * k + 1) (by omega) (by omega), h (4 * k + 2) (by omega) (by omega), h (4 * k + 3) (by omega) (by omega)]
  show ¬ ((0 : Int) % 1024 - 64 ≤ y ∧ y < (0 : Int) % 1024 - 64 + sHigh 0)
  have : sHigh 0 = 16 := by decide
  rw [this]; omega
/-- The first sprite alone. -/
theorem sprLine_one (f : Int → Int) (n : Nat) (t : List Int) (y : Int) (hy : (spOf t 0).on y) (h : ∀ j, 1 ≤ j → j < 64 → ¬ (spOf t j).on y) : sprLine f n t y = ((SS.zero n).sp f n 0 (spOf t 0) y (spOf t 0).W.toNat, false) := by
  unfold sprLine
  have hw := (spOf_in t 0).W
  rw [scan_on f n t y 63 0 _ _ hy (by omega), scan_none f n t y 63 (0 + 1) _ _ (fun j h1 h2 => h j (by omega) (by omega))]; rfl
theorem sprLine_no (f : Int → Int) (n : Nat) (t : List Int) (y : Int) (h : ∀ j, j < 64 → ¬ (spOf t j).on y) : sprLine f n t y = (SS.zero n, false) := scan_none f n t y 64 0 _ _ (fun j _ h2 => h j (by omega))
theorem zero_cols (n x : Nat) : nth 0 (SS.zero n).cols x = 0 := nth_zeros n x
theorem zero_front (n x : Nat) : nth false (SS.zero n).front x = false := by
  show nth false (List.replicate n false) x = false
  by_cases h : x < n
  · rw [nth_lt (by simpa using h)]; simp
  · rw [nth_ge (by simpa using h)]
theorem zero_first (n x : Nat) : nth false (SS.zero n).first x = false := zero_front n x
end Go.Proofs.Ytlhnfllfankjhaa
