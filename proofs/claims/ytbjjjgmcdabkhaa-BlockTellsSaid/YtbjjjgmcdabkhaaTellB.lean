/- Contracts: the kinds' names; the law BlockTells, walked. -/
import Derived.Test.YtbjjjgmcdabkhaaTellA
import Derived.Test.YtbjjjgmcdabkhaaQb
namespace Go.Proofs.Ytbjjjgmcdabkhaa
open Go Go.RowKit
set_option linter.unusedSimpArgs false
set_option linter.unusedVariables false

theorem block_names (w : World) : Calls Try.prog 35 #[] w fun e w' => e = .returned (.agg nmV) ∧ Below w.heap.size w w' := by
  go_enter Try.func35, Try.ntmps35
  go_wp2
  exact ret_row rfl rfl (Blk.new w nmV 65) Try.underlying65 rfl (by kernel_rfl) rfl ⟨rfl, (Below.refl _ _).alloc (Nat.le_refl _) _⟩

theorem tupIB {k : IntKind} {a c : Int} {b d : Bool} (h : a = c) (h' : b = d) : Ending.returned (.tuple #[.int k a, .bool b]) = .returned (.tuple #[.int k c, .bool d]) := by rw [h, h']

theorem block_Kind (s : ByteArray) (w : World) : Calls Try.prog 25 #[.string s] w fun e w' => e = .returned (.tuple #[.int .i64 (max (ix s.toList) 0), .bool (decide (0 ≤ ix s.toList))]) ∧ Below w.heap.size w w' := by
  go_enter Try.func25, Try.ntmps25
  go_wp2_with fail
  refine (block_names _).mono ?_; rintro e w1 ⟨rfl, hb1⟩
  unfold nmV
  go_wp2_with fail
  refine (slices_Index w1.heap.size 5 s _ 65 (Blk.new w1 nmV _)).mono ?_; rintro e w2 ⟨rfl, rfl⟩
  generalize hr : ix s.toList = r
  have HR := Lib.hid hr; clear hr
  go_wp2
  · go_ret2
    exact ⟨tupIB (by rw [HR.out]; omega) (by rw [HR.out]), hb1.alloc hb1.size _⟩
  · go_ret2
    exact ⟨tupIB (by rw [HR.out]; omega) (by rw [HR.out]; simp [h]), hb1.alloc hb1.size _⟩

set_option maxHeartbeats 1000000 in
theorem ref09_Kind (s : ByteArray) (w : World) : Calls Try.prog 26 #[.string s] w fun e w' => e = .returned (.tuple #[.int .i64 (max (ix s.toList) 0), .bool (decide (0 ≤ ix s.toList))]) ∧ Below w.heap.size w w' := by
  go_enter Try.func26, Try.ntmps26
  go_wp2
  have h := Blk.new w nmV 9
  unfold nmV at h
  have hb := (Below.refl w.heap.size w).alloc (Nat.le_refl _) (Obj.cells nmV 9)
  unfold nmV at hb
  generalize World.alloc _ _ = W at *
  have c0 := h.cell 0; have c1 := h.cell 1; have c2 := h.cell 2; have c3 := h.cell 3; have c4 := h.cell 4
  simp only [List.getElem?_toArray, List.getElem?_cons_zero, List.getElem?_cons_succ] at c0 c1 c2 c3 c4
  go_loopw [5] (fun i wr => ∃ k : Nat, k ≤ 5 ∧ i = .int .i64 k ∧ Hid (∀ j, j < k → s.toList ≠ nm j) ∧ W = wr) (fun i _ => 5 - (intOf i).toNat)
  case atStart => exact ⟨0, by omega, rfl, Lib.hid (by intro j hj; omega), rfl⟩
  case round =>
    obtain ⟨k, hk, rfl, hn, rfl⟩ := hrel
    have step : ∀ k : Nat, Hid (∀ j, j < k → s.toList ≠ nm j) → s.toList ≠ nm k → Hid (∀ j, j < k + 1 → s.toList ≠ nm j) := by
      intro k hn hs
      refine Lib.hid fun j hj => ?_
      rcases Nat.lt_succ_iff_lt_or_eq.1 hj with h | rfl
      · exact hn.out j h
      · exact hs
    rcases (show k = 0 ∨ k = 1 ∨ k = 2 ∨ k = 3 ∨ k = 4 ∨ k = 5 by omega) with rfl | rfl | rfl | rfl | rfl | rfl
    · by_cases hs : s.toList = nm 0
      · have hb1 : ([84, 73, 73] == s.toList) = true := by rw [hs]; rfl
        have hx := ix_at s.toList 0 (by omega) hn.out hs
        clear hs
        go_wp2
        go_ret2
        exact ⟨by rw [hx]; rfl, hb⟩
      · have hb1 : ([84, 73, 73] == s.toList) = false := by rw [beq_eq_false_iff_ne]; exact fun h => hs h.symm
        have hn2 := step _ hn hs
        clear hs hn step
        go_wp2
        go_roundw
        case rel => exact ⟨1, by omega, rfl, hn2, trivial⟩
        case measure => simp [intOf]
    · by_cases hs : s.toList = nm 1
      · have hb1 : ([84, 68, 68] == s.toList) = true := by rw [hs]; rfl
        have hx := ix_at s.toList 1 (by omega) hn.out hs
        clear hs
        go_wp2
        go_ret2
        exact ⟨by rw [hx]; rfl, hb⟩
      · have hb1 : ([84, 68, 68] == s.toList) = false := by rw [beq_eq_false_iff_ne]; exact fun h => hs h.symm
        have hn2 := step _ hn hs
        clear hs hn step
        go_wp2
        go_roundw
        case rel => exact ⟨2, by omega, rfl, hn2, trivial⟩
        case measure => simp [intOf]
    · by_cases hs : s.toList = nm 2
      · have hb1 : ([84, 73, 78] == s.toList) = true := by rw [hs]; rfl
        have hx := ix_at s.toList 2 (by omega) hn.out hs
        clear hs
        go_wp2
        go_ret2
        exact ⟨by rw [hx]; rfl, hb⟩
      · have hb1 : ([84, 73, 78] == s.toList) = false := by rw [beq_eq_false_iff_ne]; exact fun h => hs h.symm
        have hn2 := step _ hn hs
        clear hs hn step
        go_wp2
        go_roundw
        case rel => exact ⟨3, by omega, rfl, hn2, trivial⟩
        case measure => simp [intOf]
    · by_cases hs : s.toList = nm 3
      · have hb1 : ([84, 73, 65] == s.toList) = true := by rw [hs]; rfl
        have hx := ix_at s.toList 3 (by omega) hn.out hs
        clear hs
        go_wp2
        go_ret2
        exact ⟨by rw [hx]; rfl, hb⟩
      · have hb1 : ([84, 73, 65] == s.toList) = false := by rw [beq_eq_false_iff_ne]; exact fun h => hs h.symm
        have hn2 := step _ hn hs
        clear hs hn step
        go_wp2
        go_roundw
        case rel => exact ⟨4, by omega, rfl, hn2, trivial⟩
        case measure => simp [intOf]
    · by_cases hs : s.toList = nm 4
      · have hb1 : ([84, 65, 73] == s.toList) = true := by rw [hs]; rfl
        have hx := ix_at s.toList 4 (by omega) hn.out hs
        clear hs
        go_wp2
        go_ret2
        exact ⟨by rw [hx]; rfl, hb⟩
      · have hb1 : ([84, 65, 73] == s.toList) = false := by rw [beq_eq_false_iff_ne]; exact fun h => hs h.symm
        have hn2 := step _ hn hs
        clear hs hn step
        go_wp2
        go_roundw
        case rel => exact ⟨5, by omega, rfl, hn2, trivial⟩
        case measure => simp [intOf]
    · have hx := ix_no s.toList hn.out
      go_wp2
      go_ret2
      exact ⟨by rw [hx]; rfl, hb⟩

end Go.Proofs.Ytbjjjgmcdabkhaa
