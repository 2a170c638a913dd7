/- Contracts: a sprites' table of some words. -/
import Derived.Test.YtlhnfllfankjhaaArr
namespace Go.Proofs.Ytlhnfllfankjhaa
open Go Go.RowKit
set_option linter.unusedSimpArgs false
set_option linter.unusedVariables false

theorem zero256 : ∀ w : World, (zeroValue 37).run Try.prog w = .ok (.agg (cellsI (zeros 256))) w := by
  have h : (Try.prog.info? 37).map (·.zero) = some (some (.agg (cellsI (zeros 256)))) := by kernel_rfl
  obtain ⟨i, hi, hz⟩ := Option.map_eq_some_iff.1 h
  intro w; simp [zeroValue, typeInfo, hi, hz]
theorem size256 : (Try.prog.info? 37).map (·.size) = some 256 := by kernel_rfl

/-- The first k of n words are those of a list, the others 0. -/
def tableN (n : Nat) (xs : List Int) (k : Nat) : List Int := (List.range n).map fun i => if i < k then nth 0 xs i else 0
theorem tableN_length (n : Nat) (xs : List Int) (k : Nat) : (tableN n xs k).length = n := by simp [tableN]
theorem tableN_zero (n : Nat) (xs : List Int) : tableN n xs 0 = zeros n := by
  apply List.ext_getElem <;> simp [tableN, zeros]
theorem tableN_set (n : Nat) (xs : List Int) (k : Nat) : (tableN n xs k).set k (nth 0 xs k) = tableN n xs (k + 1) := by
  apply List.ext_getElem
  · simp [tableN]
  · intro i h1 h2
    simp [tableN, List.getElem_set] at h1 ⊢
    by_cases h : k = i
    · subst h; simp
    · rw [if_neg h]
      by_cases h' : i < k
      · rw [if_pos h', if_pos (by omega)]
      · rw [if_neg h', if_neg (by omega)]
theorem nth_tableN (n : Nat) (xs : List Int) (k i : Nat) (hi : i < n) : nth 0 (tableN n xs k) i = if i < k then nth 0 xs i else 0 := by
  rw [nth_lt (by rw [tableN_length]; exact hi)]; simp [tableN]
/-- A sprites' table of some words. -/
def table (xs : List Int) (k : Nat) : List Int := tableN 256 xs k
theorem table_length (xs : List Int) (k : Nat) : (table xs k).length = 256 := tableN_length 256 xs k
theorem table_zero (xs : List Int) : table xs 0 = zeros 256 := tableN_zero 256 xs
theorem table_set (xs : List Int) (k : Nat) : (table xs k).set k (nth 0 xs k) = table xs (k + 1) := tableN_set 256 xs k
theorem nth_table (xs : List Int) (k i : Nat) (hi : i < 256) : nth 0 (table xs k) i = if i < k then nth 0 xs i else 0 := nth_tableN 256 xs k i hi

set_option maxRecDepth 100000 in
theorem law18_Table (a : Option Addr) (c : Nat) (xs : List Int) (w : World) (hm : xs.length ≤ maxLen) (S : SlAt (Value.int .i64) 0 w a xs) :
    Calls Try.prog 50 #[.slice a xs.length c] w fun e w' => e = .returned (aggI (table xs (min xs.length 256))) ∧ Below w.heap.size w w' := by
  unfold maxLen at hm
  have hz := zero256
  go_enter Try.func50, Try.ntmps50
  go_wp2
  clear hz
  go_loopw [4] (fun i wr => ∃ k : Nat, k ≤ min xs.length 256 ∧ i = .int .i64 k ∧ BlkL (Value.int .i64) wr w.heap.size (zeros 256) 37 ∧ BlkL (Value.int .i64) wr (w.heap.size + 1) (table xs k) 37 ∧ Below w.heap.size w wr) (fun i _ => 256 - (intOf i).toNat)
  case atStart => exact ⟨0, by omega, rfl, Blk.alloc (Blk.new _ _ _) _, by rw [table_zero]; exact Blk.new' _ _ _ (by simp), ((Below.refl _ _).alloc (Nat.le_refl _) _).alloc (by simp) _⟩
  case round =>
    obtain ⟨k, hk, rfl, h0, h1, hb⟩ := hrel
    by_cases hlt : k < xs.length
    · have d1 : decide (k < xs.length) = true := by simpa using hlt
      by_cases h256 : k < 256
      · obtain ⟨ad, rfl, g0⟩ := (S.below hb).atN k hlt
        have c1 := h1.at (i := k) (by rw [table_length]; exact h256)
        have f1 := Blk.free h1 k
        have i1 : (k : Int) < (xs.length : Int) := by omega
        have i2 : (k : Int) < 256 := by omega
        go_wp2
        go_roundw
        case rel => exact ⟨k + 1, by omega, by go_num, Blk.other h0 _ (by omega), by rw [← table_set]; exact h1.set _, hb.setCell (by simp) _⟩
        case measure => simp [intOf]; omega
      · obtain rfl : k = 256 := by omega
        go_wp2_with (first
          | (refine wpList_load_row rfl 37 _ rfl (w.heap.size + 1) rfl 37 (cellsI (table xs 256)) (0, 0) _ h1 Try.underlying37 rfl (by rw [cellsI_size, table_length]; exact size256) ?_)
          | (refine wpList_store_row rfl 37 _ _ rfl w.heap.size (cellsI (table xs 256)) rfl rfl 37 (cellsI (zeros 256)) h0 (by rw [cellsI_size, table_length]; exact size256) (by rw [cellsI_size, cellsI_size, table_length, zeros_length]) (cellsI_one _) ?_))
        refine ret_row rfl rfl (Blk.setRow h0 _) Try.underlying37 rfl (by rw [cellsI_size, table_length]; exact size256) rfl ⟨?_, below_setRow hb (by omega) _⟩
        rw [show min xs.length 256 = 256 from by omega]; rfl
    · obtain rfl : k = xs.length := by omega
      have d1 : decide (xs.length < xs.length) = false := by simp
      go_wp2_with (first
          | (refine wpList_load_row rfl 37 _ rfl (w.heap.size + 1) rfl 37 (cellsI (table xs xs.length)) (0, 0) _ h1 Try.underlying37 rfl (by rw [cellsI_size, table_length]; exact size256) ?_)
          | (refine wpList_store_row rfl 37 _ _ rfl w.heap.size (cellsI (table xs xs.length)) rfl rfl 37 (cellsI (zeros 256)) h0 (by rw [cellsI_size, table_length]; exact size256) (by rw [cellsI_size, cellsI_size, table_length, zeros_length]) (cellsI_one _) ?_))
      refine ret_row rfl rfl (Blk.setRow h0 _) Try.underlying37 rfl (by rw [cellsI_size, table_length]; exact size256) rfl ⟨?_, below_setRow hb (by omega) _⟩
      rw [show min xs.length 256 = xs.length from by omega]; rfl

end Go.Proofs.Ytlhnfllfankjhaa
