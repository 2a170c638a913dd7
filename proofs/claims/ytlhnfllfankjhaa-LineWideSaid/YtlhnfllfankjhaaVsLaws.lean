/- Plain laws of video memory: what a word is behind a poke, behind a move of words. No program. -/
import Derived.Test.YtlhnfllfankjhaaVs
namespace Go.Proofs.Ytlhnfllfankjhaa
open Go Go.RowKit
set_option linter.unusedSimpArgs false
set_option linter.unusedVariables false

theorem VS.poke_len (V : VS) (a x : Int) : (V.poke a x).W.length = V.W.length := by unfold VS.poke; split <;> simp
theorem VS.word_poke_ne (V : VS) (a b x : Int) (h : a % 65536 ≠ b % 65536) : (V.poke a x).word b = V.word b := by
  unfold VS.word VS.poke
  by_cases ha : a % 65536 < 32768
  · rw [if_pos ha]
    by_cases hb : b % 65536 < 32768
    · rw [if_pos hb, if_pos hb]; exact nth_set_ne (by omega)
    · rw [if_neg hb, if_neg hb]
  · rw [if_neg ha]
theorem VS.word_poke_eq (V : VS) (hl : V.W.length = 32768) (a b x : Int) (h : a % 65536 = b % 65536) : (V.poke a x).word b = if b % 65536 < 32768 then x % 65536 else 0 := by
  unfold VS.word VS.poke
  rw [h]
  by_cases hb : b % 65536 < 32768
  · rw [if_pos hb, if_pos hb, if_pos hb]; exact nth_set_eq (by rw [hl]; omega)
  · rw [if_neg hb, if_neg hb]
theorem VS.word_new (p : Int) : VS.new.word p = 0 := by
  unfold VS.word; split
  · show nth 0 (zeros 32768) _ = 0; exact nth_zeros _ _
  · rfl
theorem VS.word_setWr (V : VS) (a b : Int) : (V.setWr a).word b = V.word b := rfl
theorem VS.word_setRd (V : VS) (a b : Int) : (V.setRd a).word b = V.word b := rfl
theorem VS.word_setSt (V : VS) (a b : Int) : (V.setSt a).word b = V.word b := rfl
theorem VS.word_putLo (V : VS) (a b : Int) : (V.putLo a).word b = V.word b := rfl
theorem VS.word_putHi (V : VS) (a b : Int) : (V.putHi a).word b = (V.poke V.wr (V.lo + 256 * (a % 256))).word b := rfl
theorem VS.word_congr (V : VS) {a b : Int} (h : a % 65536 = b % 65536) : V.word a = V.word b := by unfold VS.word; rw [h]
theorem VS.poke_congr (V : VS) {a b : Int} (x : Int) (h : a % 65536 = b % 65536) : V.poke a x = V.poke b x := by unfold VS.poke; rw [h]

/-- Words moved, one by one. -/
def mv (V : VS) (a b f t : Int) : Nat → VS
  | 0 => V
  | k + 1 => (mv V a b f t k).poke (t + b * k) ((mv V a b f t k).word (f + a * k))
theorem mv_succ (V : VS) (a b f t : Int) (k : Nat) : mv V a b f t (k + 1) = (mv V a b f t k).poke (t + b * k) ((mv V a b f t k).word (f + a * k)) := rfl
theorem mv_ok {V : VS} (h : V.Ok) (a b f t : Int) : ∀ k, (mv V a b f t k).Ok
  | 0 => h
  | k + 1 => (mv_ok h a b f t k).poke _ _
theorem mv_mod (V : VS) (a b f t : Int) : ∀ k, mv V a b (f % 65536) (t % 65536) k = mv V a b f t k
  | 0 => rfl
  | k + 1 => by
    rw [mv_succ, mv_succ, mv_mod V a b f t k]
    rw [VS.word_congr (a := f % 65536 + a * k) (b := f + a * k) _ (by omega)]
    exact VS.poke_congr _ _ (by omega)
theorem mv_out (V : VS) (a b f t p : Int) : ∀ m : Nat, (∀ j : Nat, j < m → (t + b * j) % 65536 ≠ p % 65536) → (mv V a b f t m).word p = V.word p
  | 0, _ => rfl
  | m + 1, h => by
    rw [mv_succ, VS.word_poke_ne _ _ _ _ (h m (by omega))]
    exact mv_out V a b f t p m (fun j hj => h j (by omega))
theorem mv_in {V : VS} (hV : V.Ok) (a b f t : Int) (i : Nat) (hlt : (t + b * i) % 65536 < 32768) : ∀ m : Nat, i < m → (∀ j : Nat, j < m → j ≠ i → (t + b * j) % 65536 ≠ (t + b * i) % 65536) → (∀ j : Nat, j < m → (t + b * j) % 65536 ≠ (f + a * i) % 65536) →
    (mv V a b f t m).word (t + b * i) = V.word (f + a * i)
  | 0, h, _, _ => by omega
  | m + 1, h, hd, ha => by
    rw [mv_succ]
    by_cases hi : i = m
    · subst hi
      rw [VS.word_poke_eq _ (mv_ok hV a b f t i).len _ _ _ rfl, if_pos hlt, mv_out V a b f t _ i (fun j hj => ha j (by omega))]
      have := hV.word (f + a * i); omega
    · rw [VS.word_poke_ne _ _ _ _ (hd m (by omega) (Ne.symm hi))]
      exact mv_in hV a b f t i hlt m (by omega) (fun j hj => hd j (by omega)) (fun j hj => ha j (by omega))

/-- Words laid one behind the other. -/
def lay (V : VS) (p : Int) (l : List Int) : Nat → VS
  | 0 => V
  | k + 1 => (lay V p l k).poke (p + k) (nth 0 l k)
theorem lay_succ (V : VS) (p : Int) (l : List Int) (k : Nat) : lay V p l (k + 1) = (lay V p l k).poke (p + k) (nth 0 l k) := rfl
theorem lay_ok {V : VS} (h : V.Ok) (p : Int) (l : List Int) : ∀ k, (lay V p l k).Ok
  | 0 => h
  | k + 1 => (lay_ok h p l k).poke _ _
theorem lay_out (V : VS) (p : Int) (l : List Int) (q : Int) : ∀ m : Nat, (∀ j : Nat, j < m → (p + j) % 65536 ≠ q % 65536) → (lay V p l m).word q = V.word q
  | 0, _ => rfl
  | m + 1, h => by
    rw [lay_succ, VS.word_poke_ne _ _ _ _ (h m (by omega))]
    exact lay_out V p l q m (fun j hj => h j (by omega))
theorem lay_in {V : VS} (hV : V.Ok) (p : Int) (l : List Int) (i : Nat) : ∀ m : Nat, i < m → m ≤ 65536 → (lay V p l m).word (p + i) = if (p + i) % 65536 < 32768 then nth 0 l i % 65536 else 0
  | 0, h, _ => by omega
  | m + 1, h, hm => by
    rw [lay_succ]
    by_cases hi : i = m
    · subst hi
      rw [VS.word_poke_eq _ (lay_ok hV p l i).len _ _ _ rfl]
    · rw [VS.word_poke_ne _ _ _ _ (by omega)]
      exact lay_in hV p l i m (by omega) (by omega)

/-- Words from a place on. -/
def wordsK (V : VS) (p : Int) (n : Nat) : List Int := (List.range n).map fun i : Nat => V.word (p + i)
theorem wordsK_length (V : VS) (p : Int) (n : Nat) : (wordsK V p n).length = n := by simp [wordsK]
theorem nth_wordsK (V : VS) (p : Int) (n i : Nat) (h : i < n) : nth 0 (wordsK V p n) i = V.word (p + i) := by
  rw [nth_lt (by rw [wordsK_length]; exact h)]; simp [wordsK]

/-- Cells of a map: pokes of pairs. -/
def pokes (V : VS) (l : List (Int × Int)) : Nat → VS
  | 0 => V
  | k + 1 => (pokes V l k).poke (nth (0, 0) l k).1 (nth (0, 0) l k).2
theorem pokes_succ (V : VS) (l : List (Int × Int)) (k : Nat) : pokes V l (k + 1) = (pokes V l k).poke (nth (0, 0) l k).1 (nth (0, 0) l k).2 := rfl
theorem pokes_ok {V : VS} (h : V.Ok) (l : List (Int × Int)) : ∀ k, (pokes V l k).Ok
  | 0 => h
  | k + 1 => (pokes_ok h l k).poke _ _

end Go.Proofs.Ytlhnfllfankjhaa
