/- Contracts: what a name, a length, a step of a transfer mean. -/
import Derived.Test.YtbjjjgmcdabkhaaBlockLaws
import Derived.Test.YtbjjjgmcdabkhaaBits
import Derived.Test.YtbjjjgmcdabkhaaArr
import Derived.Lib.Hide
namespace Go.Proofs.Ytbjjjgmcdabkhaa
open Go Go.RowKit
set_option linter.unusedSimpArgs false
set_option linter.unusedVariables false

def InI (n : Int) : Prop := -9223372036854775808 ≤ n ∧ n ≤ 9223372036854775807

theorem block_Step_out (kind i a b : Int) (hk : kind < 0 ∨ 5 ≤ kind) (w : World) : Calls Try.prog 16 #[.int .i64 kind, .int .i64 i, .agg #[.int .i64 a, .int .i64 b]] w fun e w' =>
    e = .returned (.tuple #[.int .i64 0, .int .i64 0]) ∧ Below w.heap.size w w' := by
  rcases hk with hk | hk
  all_goals
    go_enter Try.func16, Try.ntmps16
    go_wp2
    go_ret2
    exact ⟨rfl, (Below.refl _ _).alloc (Nat.le_refl _) _⟩

theorem ref09_add (a b : Int) (ha : InI a) (hb : InI b) (w : World) : Calls Try.prog 34 #[.int .i64 a, .int .i64 b] w fun e w' => e = .returned (.int .i64 ((a + b) % 65536)) ∧ w = w' := by
  have e1 : IntKind.i64.wrap (a % 65536 + b % 65536) = a % 65536 + b % 65536 := IntWalk.i64_in _ (by omega)
  go_enter Try.func34, Try.ntmps34
  go_wp2_with fail
  refine (ref01_Word a ha _).mono ?_; rintro e w' ⟨rfl, rfl⟩
  go_wp2_with fail
  refine (ref01_Word b hb _).mono ?_; rintro e w' ⟨rfl, rfl⟩
  go_wp2_with fail
  refine (ref01_Word (a % 65536 + b % 65536) (by omega) _).mono ?_; rintro e w' ⟨rfl, rfl⟩
  go_wp2
  go_ret
  exact ⟨ret_int (by omega), rfl⟩

theorem ref09_Count (n : Int) (hn : InI n) (w : World) : Calls Try.prog 27 #[.int .i64 n] w fun e w' => e = .returned (.int .i64 (cnt n)) ∧ w = w' := by
  go_enter Try.func27, Try.ntmps27
  go_wp2_with fail
  refine (ref01_Word n hn _).mono ?_; rintro e w' ⟨rfl, rfl⟩
  by_cases h : n % 65536 = 0
  · go_wp2
    go_ret
    exact ⟨ret_int (by unfold cnt; rw [if_pos h]), rfl⟩
  · go_wp2
    go_ret
    exact ⟨ret_int (by unfold cnt; rw [if_neg h]), rfl⟩

theorem ref09_Step (kind i a b : Int) (hi : InI i) (ha : InI a) (hb : InI b) (w : World) : Calls Try.prog 24 #[.int .i64 kind, .int .i64 i, .int .i64 a, .int .i64 b] w fun e w' =>
    e = .returned (.tuple #[.int .i64 (if kind < 0 ∨ 5 ≤ kind then 0 else stA kind i a), .int .i64 (if kind < 0 ∨ 5 ≤ kind then 0 else stB kind i b)]) ∧ w = w' := by
  have e1 : IntKind.i64.wrap (65536 - i % 65536) = 65536 - i % 65536 := IntWalk.i64_in _ (by omega)
  have e2 : (i % 65536).tmod 2 = i % 2 := by rw [Int.tmod_eq_emod_of_nonneg (by omega)]; omega
  rcases (show kind = 0 ∨ kind = 1 ∨ kind = 2 ∨ kind = 3 ∨ kind = 4 ∨ (kind < 0 ∨ 5 ≤ kind) by omega) with rfl | rfl | rfl | rfl | rfl | hk
  · go_enter Try.func24, Try.ntmps24
    go_wp2_with fail
    refine (ref01_Word i hi _).mono ?_; rintro e w' ⟨rfl, rfl⟩
    go_wp2_with fail
    refine (ref09_add a (i % 65536) ha (by unfold InI; omega) _).mono ?_; rintro e w' ⟨rfl, rfl⟩
    go_wp2_with fail
    refine (ref09_add b (i % 65536) hb (by unfold InI; omega) _).mono ?_; rintro e w' ⟨rfl, rfl⟩
    go_wp2
    go_ret2
    exact ⟨tup2 (by simp [stA]) (by simp [stB]), rfl⟩
  · go_enter Try.func24, Try.ntmps24
    go_wp2_with fail
    refine (ref01_Word i hi _).mono ?_; rintro e w' ⟨rfl, rfl⟩
    go_wp2_with fail
    refine (ref09_add a (65536 - i % 65536) ha (by unfold InI; omega) _).mono ?_; rintro e w' ⟨rfl, rfl⟩
    go_wp2_with fail
    refine (ref09_add b (65536 - i % 65536) hb (by unfold InI; omega) _).mono ?_; rintro e w' ⟨rfl, rfl⟩
    go_wp2
    go_ret2
    exact ⟨tup2 (by simp [stA]; omega) (by simp [stB]; omega), rfl⟩
  · go_enter Try.func24, Try.ntmps24
    go_wp2_with fail
    refine (ref01_Word i hi _).mono ?_; rintro e w' ⟨rfl, rfl⟩
    go_wp2_with fail
    refine (ref09_add a (i % 65536) ha (by unfold InI; omega) _).mono ?_; rintro e w' ⟨rfl, rfl⟩
    go_wp2_with fail
    refine (ref09_add b 0 hb (by unfold InI; omega) _).mono ?_; rintro e w' ⟨rfl, rfl⟩
    go_wp2
    go_ret2
    exact ⟨tup2 (by simp [stA]) (by simp [stB]), rfl⟩
  · go_enter Try.func24, Try.ntmps24
    go_wp2_with fail
    refine (ref01_Word i hi _).mono ?_; rintro e w' ⟨rfl, rfl⟩
    go_wp2_with fail
    refine (ref09_add a (i % 65536) ha (by unfold InI; omega) _).mono ?_; rintro e w' ⟨rfl, rfl⟩
    go_wp2_with fail
    refine (ref09_add b (i % 2) hb (by unfold InI; omega) _).mono ?_; rintro e w' ⟨rfl, rfl⟩
    go_wp2
    go_ret2
    exact ⟨tup2 (by simp [stA]) (by simp [stB]), rfl⟩
  · go_enter Try.func24, Try.ntmps24
    go_wp2_with fail
    refine (ref01_Word i hi _).mono ?_; rintro e w' ⟨rfl, rfl⟩
    go_wp2_with fail
    refine (ref09_add a (i % 2) ha (by unfold InI; omega) _).mono ?_; rintro e w' ⟨rfl, rfl⟩
    go_wp2_with fail
    refine (ref09_add b (i % 65536) hb (by unfold InI; omega) _).mono ?_; rintro e w' ⟨rfl, rfl⟩
    go_wp2
    go_ret2
    exact ⟨tup2 (by simp [stA]) (by simp [stB]), rfl⟩
  · rw [if_pos hk, if_pos hk]
    have k0 : (kind == 0) = false := by simp; omega
    have k1 : (kind == 1) = false := by simp; omega
    have k2 : (kind == 2) = false := by simp; omega
    have k3 : (kind == 3) = false := by simp; omega
    have k4 : (kind == 4) = false := by simp; omega
    clear hk
    go_enter Try.func24, Try.ntmps24
    go_wp2_with fail
    refine (ref01_Word i hi _).mono ?_; rintro e w' ⟨rfl, rfl⟩
    go_wp2
    go_ret2
    exact ⟨rfl, rfl⟩

/-- The five names. -/
def nm : Nat → List UInt8
  | 0 => [84, 73, 73]
  | 1 => [84, 68, 68]
  | 2 => [84, 73, 78]
  | 3 => [84, 73, 65]
  | _ => [84, 65, 73]
def nmV : Array Value := #[.string ⟨#[84, 73, 73]⟩, .string ⟨#[84, 68, 68]⟩, .string ⟨#[84, 73, 78]⟩, .string ⟨#[84, 73, 65]⟩, .string ⟨#[84, 65, 73]⟩]
/-- Where a name stands. -/
def ix (s : List UInt8) : Int := if s = nm 0 then 0 else if s = nm 1 then 1 else if s = nm 2 then 2 else if s = nm 3 then 3 else if s = nm 4 then 4 else -1
theorem ix_at (s : List UInt8) (k : Nat) (hk : k < 5) (hn : ∀ j, j < k → s ≠ nm j) (h : s = nm k) : ix s = k := by
  unfold ix
  rcases (show k = 0 ∨ k = 1 ∨ k = 2 ∨ k = 3 ∨ k = 4 by omega) with rfl | rfl | rfl | rfl | rfl
  · rw [if_pos h]; rfl
  · rw [if_neg (hn 0 (by omega)), if_pos h]; rfl
  · rw [if_neg (hn 0 (by omega)), if_neg (hn 1 (by omega)), if_pos h]; rfl
  · rw [if_neg (hn 0 (by omega)), if_neg (hn 1 (by omega)), if_neg (hn 2 (by omega)), if_pos h]; rfl
  · rw [if_neg (hn 0 (by omega)), if_neg (hn 1 (by omega)), if_neg (hn 2 (by omega)), if_neg (hn 3 (by omega)), if_pos h]; rfl
theorem ix_no (s : List UInt8) (hn : ∀ j, j < 5 → s ≠ nm j) : ix s = -1 := by
  unfold ix
  rw [if_neg (hn 0 (by omega)), if_neg (hn 1 (by omega)), if_neg (hn 2 (by omega)), if_neg (hn 3 (by omega)), if_neg (hn 4 (by omega))]

set_option maxHeartbeats 1000000 in
theorem slices_Index (g : Nat) (c : Nat) (s : ByteArray) (w : World) (t : TypeId) (h : Blk w g nmV t) : Calls Try.prog 36 #[.slice (some ⟨g, 0, none⟩) 5 c, .string s] w fun e w' => e = .returned (.int .i64 (ix s.toList)) ∧ w = w' := by
  have c0 := h.cell 0; have c1 := h.cell 1; have c2 := h.cell 2; have c3 := h.cell 3; have c4 := h.cell 4
  unfold nmV at c0 c1 c2 c3 c4
  simp only [List.getElem?_toArray, List.getElem?_cons_zero, List.getElem?_cons_succ] at c0 c1 c2 c3 c4
  go_enter Try.func36, Try.ntmps36
  go_wp2
  go_loopw [8] (fun i wr => ∃ k : Nat, k ≤ 5 ∧ i = .int .i64 k ∧ Hid (∀ j, j < k → s.toList ≠ nm j) ∧ w = wr) (fun i _ => 5 - (intOf i).toNat)
  case atStart => exact ⟨0, by omega, rfl, Lib.hid (by intro j hj; omega), rfl⟩
  case round =>
    obtain ⟨k, hk, rfl, hn, rfl⟩ := hrel
    have step : ∀ k : Nat, Hid (∀ j, j < k → s.toList ≠ nm j) → s.toList ≠ nm k → Hid (∀ j, j < k + 1 → s.toList ≠ nm j) := by
      intro k hn hs
      refine Lib.hid fun j hj => ?_
      rcases Nat.lt_succ_iff_lt_or_eq.1 hj with h | rfl
      · exact hn.out j h
      · exact hs
    rcases (show k = 0 ∨ k = 1 ∨ k = 2 ∨ k = 3 ∨ k = 4 ∨ k = 5 by omega) with rfl | rfl | rfl | rfl | rfl | rfl
    · by_cases hs : s.toList = nm 0
      · have hb : (s.toList == [84, 73, 73]) = true := by rw [hs]; rfl
        have hx := ix_at s.toList 0 (by omega) hn.out hs
        clear hs
        go_wp2
        go_ret
        exact ⟨ret_int (by rw [hx]), rfl⟩
      · have hb : (s.toList == [84, 73, 73]) = false := by rw [beq_eq_false_iff_ne]; exact hs
        have hn2 := step _ hn hs
        clear hs hn step
        go_wp2
        go_roundw
        case rel => exact ⟨1, by omega, rfl, hn2, trivial⟩
        case measure => simp [intOf]
    · by_cases hs : s.toList = nm 1
      · have hb : (s.toList == [84, 68, 68]) = true := by rw [hs]; rfl
        have hx := ix_at s.toList 1 (by omega) hn.out hs
        clear hs
        go_wp2
        go_ret
        exact ⟨ret_int (by rw [hx]), rfl⟩
      · have hb : (s.toList == [84, 68, 68]) = false := by rw [beq_eq_false_iff_ne]; exact hs
        have hn2 := step _ hn hs
        clear hs hn step
        go_wp2
        go_roundw
        case rel => exact ⟨2, by omega, rfl, hn2, trivial⟩
        case measure => simp [intOf]
    · by_cases hs : s.toList = nm 2
      · have hb : (s.toList == [84, 73, 78]) = true := by rw [hs]; rfl
        have hx := ix_at s.toList 2 (by omega) hn.out hs
        clear hs
        go_wp2
        go_ret
        exact ⟨ret_int (by rw [hx]), rfl⟩
      · have hb : (s.toList == [84, 73, 78]) = false := by rw [beq_eq_false_iff_ne]; exact hs
        have hn2 := step _ hn hs
        clear hs hn step
        go_wp2
        go_roundw
        case rel => exact ⟨3, by omega, rfl, hn2, trivial⟩
        case measure => simp [intOf]
    · by_cases hs : s.toList = nm 3
      · have hb : (s.toList == [84, 73, 65]) = true := by rw [hs]; rfl
        have hx := ix_at s.toList 3 (by omega) hn.out hs
        clear hs
        go_wp2
        go_ret
        exact ⟨ret_int (by rw [hx]), rfl⟩
      · have hb : (s.toList == [84, 73, 65]) = false := by rw [beq_eq_false_iff_ne]; exact hs
        have hn2 := step _ hn hs
        clear hs hn step
        go_wp2
        go_roundw
        case rel => exact ⟨4, by omega, rfl, hn2, trivial⟩
        case measure => simp [intOf]
    · by_cases hs : s.toList = nm 4
      · have hb : (s.toList == [84, 65, 73]) = true := by rw [hs]; rfl
        have hx := ix_at s.toList 4 (by omega) hn.out hs
        clear hs
        go_wp2
        go_ret
        exact ⟨ret_int (by rw [hx]), rfl⟩
      · have hb : (s.toList == [84, 65, 73]) = false := by rw [beq_eq_false_iff_ne]; exact hs
        have hn2 := step _ hn hs
        clear hs hn step
        go_wp2
        go_roundw
        case rel => exact ⟨5, by omega, rfl, hn2, trivial⟩
        case measure => simp [intOf]
    · have hx := ix_no s.toList hn.out
      go_wp2
      go_ret
      exact ⟨ret_int (by rw [hx]), rfl⟩

end Go.Proofs.Ytbjjjgmcdabkhaa
