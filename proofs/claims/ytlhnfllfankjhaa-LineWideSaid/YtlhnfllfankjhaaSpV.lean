/- Sprites' lines, in plain numbers: a sprite, its pixels, and the line that is drawn of a table. -/
import Derived.Test.YtlhnfllfankjhaaSprC
namespace Go.Proofs.Ytlhnfllfankjhaa
open Go Go.RowKit
set_option linter.unusedSimpArgs false
set_option linter.unusedVariables false

structure SpV where
  X : Int
  Y : Int
  C : Int
  W : Int
  H : Int
  P : Int
  F : Bool
  fx : Bool
  fy : Bool
def SpV.cells (s : SpV) : Array Value := #[.int .i64 s.X, .int .i64 s.Y, .int .i64 s.C, .int .i64 s.W, .int .i64 s.H, .int .i64 s.P, .bool s.F, .bool s.fx, .bool s.fy]
def spW (w0 w1 w2 w3 : Int) : SpV := ⟨w1 % 1024 - 32, w0 % 1024 - 64, sCell w2 w3, sWide w3, sHigh w3, w3 % 16, w3 / 128 % 2 == 1, w3 / 2048 % 2 == 1, w3 / 32768 % 2 == 1⟩
/-- A table's sprite. -/
def spOf (t : List Int) (k : Nat) : SpV := spW (nth 0 t (4 * k)) (nth 0 t (4 * k + 1)) (nth 0 t (4 * k + 2)) (nth 0 t (4 * k + 3))
structure SpV.In (s : SpV) : Prop where
  X : -32 ≤ s.X ∧ s.X < 992
  Y : -64 ≤ s.Y ∧ s.Y < 960
  C : 0 ≤ s.C ∧ s.C < 1024
  W : s.W = 16 ∨ s.W = 32
  H : s.H = 16 ∨ s.H = 32 ∨ s.H = 64
  P : 0 ≤ s.P ∧ s.P < 16
theorem sHigh_in (w3 : Int) : sHigh w3 = 16 ∨ sHigh w3 = 32 ∨ sHigh w3 = 64 := by
  unfold sHigh
  repeat' split
  all_goals simp
theorem sWide_in (w3 : Int) : sWide w3 = 16 ∨ sWide w3 = 32 := by unfold sWide; split <;> simp
theorem sCell_in (w2 w3 : Int) : 0 ≤ sCell w2 w3 ∧ sCell w2 w3 < 1024 := by
  unfold sCell
  simp only
  generalize hc : (if w3 / 256 % 2 = 1 then w2 / 2 % 1024 / 2 * 2 else w2 / 2 % 1024) = c
  have : 0 ≤ c ∧ c < 1024 := by rw [← hc]; split <;> omega
  repeat' split
  all_goals omega
theorem spW_in (w0 w1 w2 w3 : Int) : (spW w0 w1 w2 w3).In :=
  ⟨by show -32 ≤ w1 % 1024 - 32 ∧ w1 % 1024 - 32 < 992; omega, by show -64 ≤ w0 % 1024 - 64 ∧ w0 % 1024 - 64 < 960; omega, sCell_in w2 w3, sWide_in w3, sHigh_in w3, by show 0 ≤ w3 % 16 ∧ w3 % 16 < 16; omega⟩
theorem spOf_in (t : List Int) (k : Nat) : (spOf t k).In := spW_in _ _ _ _

/-- A pixel's row and column in a sprite, as it lies in memory. -/
def SpV.row (s : SpV) (y : Int) : Int := if s.fy = true then s.H - 1 - (y - s.Y) else y - s.Y
def SpV.col (s : SpV) (i : Int) : Int := if s.fx = true then s.W - 1 - i else i
def SpV.on (s : SpV) (y : Int) : Prop := s.Y ≤ y ∧ y < s.Y + s.H
instance (s : SpV) (y : Int) : Decidable (s.on y) := by unfold SpV.on; exact inferInstance
theorem SpV.row_in {s : SpV} (h : s.In) {y : Int} (hy : s.on y) : 0 ≤ s.row y ∧ s.row y < 64 := by
  have := h.H; obtain ⟨h1, h2⟩ := hy
  unfold SpV.row; split <;> omega
theorem SpV.col_in {s : SpV} (h : s.In) {i : Int} (h0 : 0 ≤ i) (h1 : i < s.W) : 0 ≤ s.col i ∧ s.col i < 32 := by
  have := h.W
  unfold SpV.col; split <;> omega
/-- Where a row's first plane lies, in the c-th cell from the left. -/
def SpV.place (s : SpV) (r c : Int) : Int := 64 * (s.C + r / 16 * 2 + c) + r % 16
/-- The colour of a place in a sprite, by the words. -/
def pxTo (b : Nat → Int) : Nat → Int
  | 0 => 0
  | p + 1 => pxTo b p + 2 ^ p * b p
def SpV.bit (f : Int → Int) (s : SpV) (r c : Int) (p : Nat) : Int := bitI (f (s.place r (c / 16) + 16 * p)) (15 - c % 16)
def SpV.dot (f : Int → Int) (s : SpV) (r c : Int) : Int := pxTo (s.bit f r c) 4
/-- The colour of the i-th column in a line. -/
def SpV.px (f : Int → Int) (s : SpV) (y i : Int) : Int := s.dot f (s.row y) (s.col i)
theorem SpV.bit_in (f : Int → Int) (s : SpV) (r c : Int) (p : Nat) : 0 ≤ s.bit f r c p ∧ s.bit f r c p ≤ 1 := bitI_range _ _
theorem pxTo_in {b : Nat → Int} (h : ∀ p, 0 ≤ b p ∧ b p ≤ 1) : ∀ k, 0 ≤ pxTo b k ∧ pxTo b k < 2 ^ k
  | 0 => by simp [pxTo]
  | k + 1 => by
    have h1 := pxTo_in h k
    have h2 := h k
    have h3 : (0 : Int) < 2 ^ k := Int.pow_pos (by decide)
    have e : (2 : Int) ^ (k + 1) = 2 * 2 ^ k := by rw [Int.pow_succ]; omega
    rw [e]
    show 0 ≤ pxTo b k + 2 ^ k * b k ∧ pxTo b k + 2 ^ k * b k < 2 * 2 ^ k
    rcases (show b k = 0 ∨ b k = 1 by omega) with h4 | h4 <;> rw [h4] <;> omega
theorem SpV.dot_in (f : Int → Int) (s : SpV) (r c : Int) : 0 ≤ s.dot f r c ∧ s.dot f r c < 16 := pxTo_in (s.bit_in f r c) 4
theorem SpV.px_in (f : Int → Int) (s : SpV) (y i : Int) : 0 ≤ s.px f y i ∧ s.px f y i < 16 := SpV.dot_in _ _ _ _

/-- What is drawn so far. -/
structure SS where
  cols : List Int
  front : List Bool
  first : List Bool
  hit : Bool
def SS.zero (n : Nat) : SS := ⟨List.replicate n 0, List.replicate n false, List.replicate n false, false⟩
structure SS.Ok (S : SS) (n : Nat) : Prop where
  cols : S.cols.length = n
  front : S.front.length = n
  first : S.first.length = n
  range : ∀ i, 0 ≤ nth 0 S.cols i ∧ nth 0 S.cols i < 256
theorem SS.Ok.zero (n : Nat) : (SS.zero n).Ok n := ⟨by simp [SS.zero], by simp [SS.zero], by simp [SS.zero], fun i => by
  have : nth 0 (SS.zero n).cols i = 0 := nth_zeros n i
  rw [this]; decide⟩
/-- A pixel of sprite k (0, or another) at x. -/
def SS.dot (S : SS) (n : Nat) (k : Int) (s : SpV) (x c : Int) : SS :=
  if (0 ≤ x ∧ x < n) ∧ c ≠ 0 then
    { cols := if nth 0 S.cols x.toNat = 0 then S.cols.set x.toNat (16 * s.P + c) else S.cols
      front := if nth 0 S.cols x.toNat = 0 then S.front.set x.toNat s.F else S.front
      first := S.first.set x.toNat (nth false S.first x.toNat || k == 0)
      hit := S.hit || (decide (0 < k) && nth false S.first x.toNat) }
  else S
theorem SS.Ok.dot {S : SS} {n : Nat} (h : S.Ok n) (k : Int) {s : SpV} (hs : s.In) (x : Int) {c : Int} (hc : 0 ≤ c ∧ c < 16) : (S.dot n k s x c).Ok n := by
  unfold SS.dot
  split
  · rename_i hx
    refine ⟨by simp only; split <;> simp [h.cols], by simp only; split <;> simp [h.front], by simp [h.first], fun i => ?_⟩
    simp only
    split
    · by_cases hi : x.toNat = i
      · subst hi
        rw [nth_set_eq (by rw [h.cols]; omega)]
        have := hs.P; omega
      · rw [nth_set_ne hi]; exact h.range i
    · exact h.range i
  · exact h
/-- The first i columns of sprite k. -/
def SS.sp (f : Int → Int) (n : Nat) (k : Int) (s : SpV) (y : Int) (S : SS) : Nat → SS
  | 0 => S
  | i + 1 => (S.sp f n k s y i).dot n k s (s.X + i) (s.px f y i)
theorem SS.sp_succ (f : Int → Int) (n : Nat) (k : Int) (s : SpV) (y : Int) (S : SS) (i : Nat) : S.sp f n k s y (i + 1) = (S.sp f n k s y i).dot n k s (s.X + i) (s.px f y i) := rfl
theorem SS.Ok.sp {S : SS} {n : Nat} (h : S.Ok n) (f : Int → Int) (k : Int) {s : SpV} (hs : s.In) (y : Int) : ∀ i, (S.sp f n k s y i).Ok n
  | 0 => h
  | i + 1 => (SS.Ok.sp h f k hs y i).dot k hs _ (s.px_in f y i)
/-- Sprites from k on, m of them: what is drawn, and whether there were too many. -/
def scan (f : Int → Int) (n : Nat) (t : List Int) (y : Int) : Nat → Nat → SS → Int → SS × Bool
  | 0, _, S, _ => (S, false)
  | m + 1, k, S, tk => if (spOf t k).on y then if 16 < tk + (spOf t k).W / 16 then (S, true) else scan f n t y m (k + 1) (S.sp f n k (spOf t k) y (spOf t k).W.toNat) (tk + (spOf t k).W / 16) else scan f n t y m (k + 1) S tk
/-- The line. -/
def sprLine (f : Int → Int) (n : Nat) (t : List Int) (y : Int) : SS × Bool := scan f n t y 64 0 (SS.zero n) 0
theorem scan_off (f : Int → Int) (n : Nat) (t : List Int) (y : Int) (m k : Nat) (S : SS) (tk : Int) (h : ¬ (spOf t k).on y) : scan f n t y (m + 1) k S tk = scan f n t y m (k + 1) S tk := by
  rw [scan, if_neg h]
theorem scan_over (f : Int → Int) (n : Nat) (t : List Int) (y : Int) (m k : Nat) (S : SS) (tk : Int) (h : (spOf t k).on y) (h' : 16 < tk + (spOf t k).W / 16) : scan f n t y (m + 1) k S tk = (S, true) := by
  rw [scan, if_pos h, if_pos h']
theorem scan_on (f : Int → Int) (n : Nat) (t : List Int) (y : Int) (m k : Nat) (S : SS) (tk : Int) (h : (spOf t k).on y) (h' : ¬ 16 < tk + (spOf t k).W / 16) :
    scan f n t y (m + 1) k S tk = scan f n t y m (k + 1) (S.sp f n k (spOf t k) y (spOf t k).W.toNat) (tk + (spOf t k).W / 16) := by
  rw [scan, if_pos h, if_neg h']
theorem scan_ok (f : Int → Int) (n : Nat) (t : List Int) (y : Int) : ∀ (m k : Nat) (S : SS) (tk : Int), S.Ok n → (scan f n t y m k S tk).1.Ok n
  | 0, _, _, _, h => h
  | m + 1, k, S, tk, h => by
    rw [scan]
    split
    · split
      · exact h
      · exact scan_ok f n t y m _ _ _ (h.sp f k (spOf_in t k) y _)
    · exact scan_ok f n t y m _ _ _ h
theorem sprLine_ok (f : Int → Int) (n : Nat) (t : List Int) (y : Int) : (sprLine f n t y).1.Ok n := scan_ok f n t y _ _ _ _ (SS.Ok.zero n)

/-- or of what goes together. -/
theorem or_low (p : Nat) (hp : p < 4) (c b : Int) (hc : 0 ≤ c ∧ c < 2 ^ p) (hb : 0 ≤ b ∧ b ≤ 1) : bits .or .i64 c (b * 2 ^ p) = c + 2 ^ p * b := by
  have h : ∀ (p : Fin 4) (c : Fin 8) (b : Fin 2), c.val < 2 ^ p.val → bits .or .i64 (c.val : Int) ((b.val : Int) * 2 ^ p.val) = (c.val : Int) + 2 ^ p.val * (b.val : Int) := by decide +kernel
  have hc8 : c.toNat < 8 := by
    have : (2 : Int) ^ p ≤ 8 := by rcases (show p = 0 ∨ p = 1 ∨ p = 2 ∨ p = 3 by omega) with rfl | rfl | rfl | rfl <;> decide
    omega
  have hlt : c.toNat < 2 ^ p := by
    have e : ((2 ^ p : Nat) : Int) = 2 ^ p := by norm_cast
    omega
  have := h ⟨p, hp⟩ ⟨c.toNat, hc8⟩ ⟨b.toNat, by omega⟩ hlt
  simpa [Int.toNat_of_nonneg hc.1, Int.toNat_of_nonneg hb.1] using this
end Go.Proofs.Ytlhnfllfankjhaa
