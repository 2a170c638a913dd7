/- Plain laws of moved words: there and back; filling. No program. -/
import Derived.Test.YtlhnfllfankjhaaVsLaws
namespace Go.Proofs.Ytlhnfllfankjhaa
open Go Go.RowKit
set_option linter.unusedSimpArgs false
set_option linter.unusedVariables false

def db0 (l : List Int) (p : Int) (m : Nat) : VS := lay VS.new p l m
def db1 (l : List Int) (p : Int) (m : Nat) : VS := mv (db0 l p m) 1 1 p (p + 1000) m
def db2 (l : List Int) (p : Int) (m : Nat) : VS := mv (db1 l p m) 1 (-1) (p + 1000) (p + 2000 + ((m : Int) - 1)) m
def db3 (l : List Int) (p : Int) (m k : Nat) : VS := lay (db2 l p m) p (zeros m) k
def db4 (l : List Int) (p : Int) (m : Nat) : VS := mv (db3 l p m m) 1 1 (p + 1000) p m
theorem db0_ok (l : List Int) (p : Int) (m : Nat) : (db0 l p m).Ok := lay_ok VS.Ok.new _ _ _
theorem db1_ok (l : List Int) (p : Int) (m : Nat) : (db1 l p m).Ok := mv_ok (lay_ok VS.Ok.new _ _ _) _ _ _ _ _
theorem db2_ok (l : List Int) (p : Int) (m : Nat) : (db2 l p m).Ok := mv_ok (db1_ok l p m) _ _ _ _ _
theorem db3_ok (l : List Int) (p : Int) (m k : Nat) : (db3 l p m k).Ok := lay_ok (db2_ok l p m) _ _ _
theorem db3_out (l : List Int) (p : Int) (m : Nat) (k : Nat) (q : Int) (hq : ∀ j : Nat, j < k → (p + j) % 65536 ≠ q % 65536) : (db3 l p m k).word q = (db2 l p m).word q := lay_out _ _ _ _ k hq
section
variable {l : List Int} {p : Int} {m : Nat} (h0 : 0 ≤ p) (h1 : p < 16384) (hm : m ≤ 60)
include h0 h1 hm
theorem db0_a (i : Nat) (hi : i < m) : (db0 l p m).word (p + i) = nth 0 l i % 65536 := by
  unfold db0; rw [lay_in VS.Ok.new p l i m hi (by omega), if_pos (by omega)]
theorem db1_a (i : Nat) (hi : i < m) : (db1 l p m).word (p + i) = nth 0 l i % 65536 := by
  unfold db1; rw [mv_out _ _ _ _ _ _ m (fun j hj => by omega)]; exact db0_a h0 h1 hm i hi
theorem db1_b (i : Nat) (hi : i < m) : (db1 l p m).word (p + 1000 + i) = nth 0 l i % 65536 := by
  have := mv_in (db0_ok l p m) 1 1 p (p + 1000) i (by omega) m hi (fun j hj hn => by omega) (fun j hj => by omega)
  unfold db1; rw [show p + 1000 + (i : Int) = p + 1000 + 1 * (i : Int) by omega, this, show p + 1 * (i : Int) = p + i by omega]; exact db0_a h0 h1 hm i hi
theorem db2_a (i : Nat) (hi : i < m) : (db2 l p m).word (p + i) = nth 0 l i % 65536 := by
  unfold db2; rw [mv_out _ _ _ _ _ _ m (fun j hj => by omega)]; exact db1_a h0 h1 hm i hi
theorem db2_b (i : Nat) (hi : i < m) : (db2 l p m).word (p + 1000 + i) = nth 0 l i % 65536 := by
  unfold db2; rw [mv_out _ _ _ _ _ _ m (fun j hj => by omega)]; exact db1_b h0 h1 hm i hi
theorem db2_c (i : Nat) (hi : i < m) : (db2 l p m).word (p + 2000 + ((m : Int) - 1) - i) = nth 0 l i % 65536 := by
  have := mv_in (db1_ok l p m) 1 (-1) (p + 1000) (p + 2000 + ((m : Int) - 1)) i (by omega) m hi (fun j hj hn => by omega) (fun j hj => by omega)
  unfold db2; rw [show p + 2000 + ((m : Int) - 1) - (i : Int) = p + 2000 + ((m : Int) - 1) + (-1) * (i : Int) by omega, this, show p + 1000 + 1 * (i : Int) = p + 1000 + i by omega]; exact db1_b h0 h1 hm i hi
theorem db3_a (i : Nat) (hi : i < m) : (db3 l p m i).word (p + i) = nth 0 l i % 65536 := by
  rw [db3_out l p m i _ (fun j hj => by omega)]; exact db2_a h0 h1 hm i hi
theorem db3_b (k : Nat) (hk : k ≤ m) (i : Nat) (hi : i < m) : (db3 l p m k).word (p + 1000 + i) = nth 0 l i % 65536 := by
  rw [db3_out l p m k _ (fun j hj => by omega)]; exact db2_b h0 h1 hm i hi
theorem db3_c (k : Nat) (hk : k ≤ m) (i : Nat) (hi : i < m) : (db3 l p m k).word (p + 2000 + ((m : Int) - 1) - i) = nth 0 l i % 65536 := by
  rw [db3_out l p m k _ (fun j hj => by omega)]; exact db2_c h0 h1 hm i hi
theorem db4_a (i : Nat) (hi : i < m) : (db4 l p m).word (p + i) = nth 0 l i % 65536 := by
  have := mv_in (db3_ok l p m m) 1 1 (p + 1000) p i (by omega) m hi (fun j hj hn => by omega) (fun j hj => by omega)
  unfold db4; rw [show p + (i : Int) = p + 1 * (i : Int) by omega, this, show p + 1000 + 1 * (i : Int) = p + 1000 + i by omega]; exact db3_b h0 h1 hm m (Nat.le_refl _) i hi
end

/-- Filled. -/
theorem fill_in {V : VS} (hV : V.Ok) (p w : Int) (h0 : 0 ≤ p) (h1 : p < 16384) : ∀ (k : Nat), k ≤ 300 → ∀ j : Nat, j ≤ k → (mv (V.poke p w) 1 1 p (p + 1) k).word (p + j) = w % 65536
  | 0, _, j, hj => by
    obtain rfl : j = 0 := by omega
    show (V.poke p w).word (p + (0 : Nat)) = _
    rw [VS.word_poke_eq _ hV.len _ _ _ (by simp), if_pos (by simp; omega)]
  | k + 1, hk, j, hj => by
    rw [mv_succ]
    by_cases h : j = k + 1
    · subst h
      have e : (p + 1 + 1 * (k : Int)) % 65536 = (p + ((k + 1 : Nat) : Int)) % 65536 := by omega
      rw [VS.word_poke_eq _ (mv_ok (hV.poke _ _) _ _ _ _ k).len _ _ _ e, if_pos (by omega)]
      rw [show p + 1 * (k : Int) = p + (k : Nat) by omega, fill_in hV p w h0 h1 k (by omega) k (Nat.le_refl _)]; omega
    · rw [VS.word_poke_ne _ _ _ _ (by omega)]
      exact fill_in hV p w h0 h1 k (by omega) j (by omega)
theorem fill_out (p w : Int) (h0 : 0 ≤ p) (h1 : p < 16384) (k : Nat) (hk : k ≤ 300) : (mv (VS.new.poke p w) 1 1 p (p + 1) k).word (p + (k : Int) + 1) = 0 := by
  rw [mv_out _ _ _ _ _ _ k (fun j hj => by omega), VS.word_poke_ne _ _ _ _ (by omega)]; exact VS.word_new _

end Go.Proofs.Ytlhnfllfankjhaa
