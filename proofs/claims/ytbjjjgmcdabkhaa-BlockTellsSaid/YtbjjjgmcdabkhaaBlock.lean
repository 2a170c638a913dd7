/- Contracts of block's functions. -/
import Derived.Test.YtbjjjgmcdabkhaaBase
namespace Go.Proofs.Ytbjjjgmcdabkhaa
open Go Go.RowKit
set_option linter.unusedSimpArgs false
set_option linter.unusedVariables false

theorem bits_Word (n : Int) (w : World) : Calls Try.prog 29 #[.int .i64 n] w fun e w' => e = .returned (.int .i64 (n % 65536)) ∧ w = w' := by
  go_enter Try.func29, Try.ntmps29
  go_wp2
  go_ret
  exact ⟨rfl, rfl⟩

def cnt (n : Int) : Int := if n % 65536 = 0 then 65536 else n % 65536
theorem cnt_range (n : Int) : 1 ≤ cnt n ∧ cnt n ≤ 65536 := by unfold cnt; split <;> omega

theorem block_Count (n : Int) (w : World) : Calls Try.prog 18 #[.int .i64 n] w fun e w' => e = .returned (.int .i64 (cnt n)) ∧ w = w' := by
  go_enter Try.func18, Try.ntmps18
  go_wp2_with (go_at_call 29; refine (bits_Word _ _).mono ?_; rintro e w' ⟨rfl, rfl⟩)
  · go_ret
    exact ⟨ret_int (by unfold cnt; simp_all), rfl⟩
  · go_ret
    exact ⟨ret_int (by unfold cnt; simp_all), rfl⟩

theorem block_Cycles (n : Int) (w : World) : Calls Try.prog 17 #[.int .i64 n] w fun e w' => e = .returned (.int .i64 (17 + 6 * cnt n)) ∧ w = w' := by
  have h := cnt_range n
  go_enter Try.func17, Try.ntmps17
  go_wp2_with (go_at_call 18; refine (block_Count _ _).mono ?_; rintro e w' ⟨rfl, rfl⟩)
  go_ret
  exact ⟨rfl, rfl⟩

def stA (kind i a : Int) : Int := (a + if kind = 0 then i else if kind = 1 then -i else if kind = 4 then i % 2 else i) % 65536
def stB (kind i a : Int) : Int := (a + if kind = 0 then i else if kind = 1 then -i else if kind = 2 then 0 else if kind = 3 then i % 2 else i) % 65536

theorem block_Step (kind i a b : Int) (hk : 0 ≤ kind) (hk5 : kind < 5) (w : World) : Calls Try.prog 16 #[.int .i64 kind, .int .i64 i, .agg #[.int .i64 a, .int .i64 b]] w fun e w' =>
    e = .returned (.tuple #[.int .i64 (stA kind i a), .int .i64 (stB kind i b)]) ∧ Below w.heap.size w w' := by
  rcases (by omega : kind = 0 ∨ kind = 1 ∨ kind = 2 ∨ kind = 3 ∨ kind = 4) with rfl | rfl | rfl | rfl | rfl
  all_goals
    clear hk hk5
    go_enter Try.func16, Try.ntmps16
    go_wp2
    go_quiet ((go_at_call 29; exact quiet_same (bits_Word _ _)))
    go_wp2
    go_ret2
    refine ⟨tup2 ?_ ?_, ?_⟩
    · simp [stA, w64_65536, add_w64_65536]
    · simp [stB, w64_65536, add_w64_65536]
    · exact below_drewN ((((Below.refl _ _).alloc (Nat.le_refl _) _).alloc (by simp) _).alloc (by simp; omega) _) _

end Go.Proofs.Ytbjjjgmcdabkhaa
