/- Contracts: bits, and the reference's. -/
import Derived.Test.YtlhnfllfankjhaaBase
namespace Go.Proofs.Ytlhnfllfankjhaa
open Go Go.RowKit
set_option linter.unusedSimpArgs false
set_option linter.unusedVariables false

theorem ref01_Mod (n m : Int) (hn : -9223372036854775808 ≤ n ∧ n ≤ 9223372036854775807) (hm : 0 < m) (hm' : m ≤ 9223372036854775807) (w : World) : Calls Try.prog 88 #[.int .i64 n, .int .i64 m] w fun e w' => e = .returned (.int .i64 (n % m)) ∧ w = w' := by
  have e0 : Int.tmod n m = if 0 ≤ n then n % m else -((-n) % m) := by
    split
    · rename_i h; exact Int.tmod_eq_emod_of_nonneg h
    · rename_i h
      have : n = -(-n) := by omega
      rw [this, Int.neg_tmod, Int.tmod_eq_emod_of_nonneg (by omega)]; simp
  have h0 := Int.emod_nonneg n (show m ≠ 0 by omega)
  have h1 := Int.emod_lt_of_pos n hm
  have h2 := Int.emod_nonneg (-n) (show m ≠ 0 by omega)
  have h3 := Int.emod_lt_of_pos (-n) hm
  have h4 : n % m = if Int.tmod n m < 0 then Int.tmod n m + m else Int.tmod n m := by
    rw [e0]
    by_cases hn0 : 0 ≤ n
    · rw [if_pos hn0, if_neg (by omega)]
    · rw [if_neg hn0]
      by_cases hz : (-n) % m = 0
      · rw [hz]; simp
        exact Int.emod_eq_zero_of_dvd (by have := Int.dvd_of_emod_eq_zero hz; exact Int.dvd_neg.1 this)
      · rw [if_pos (by omega)]
        have : n % m = (m - (-n) % m) % m := by
          rw [Int.sub_emod, Int.emod_emod_of_dvd _ (Int.dvd_refl m), ← Int.sub_emod]
          rw [show m - -n = n + m from by omega, Int.add_emod_right]
        rw [this, Int.emod_eq_of_lt (by omega) (by omega)]; omega
  have h5 : -m < Int.tmod n m ∧ Int.tmod n m < m := by rw [e0]; split <;> omega
  by_cases hn0 : 0 ≤ n
  · clear e0 h4 h5 h2 h3
    have hlt : ¬ n % m < 0 := by omega
    go_enter Try.func88, Try.ntmps88
    go_wp2
    go_ret
    exact ⟨rfl, rfl⟩
  · clear e0 h2 h3
    by_cases hr : Int.tmod n m < 0
    · rw [if_pos hr] at h4
      have H4 := Lib.hid h4; clear h4
      go_enter Try.func88, Try.ntmps88
      go_wp2
      go_ret
      exact ⟨ret_int H4.out.symm, rfl⟩
    · rw [if_neg hr] at h4
      have H4 := Lib.hid h4; clear h4
      go_enter Try.func88, Try.ntmps88
      go_wp2
      go_ret
      exact ⟨ret_int H4.out.symm, rfl⟩

theorem ref01_Word (n : Int) (hn : -9223372036854775808 ≤ n ∧ n ≤ 9223372036854775807) (w : World) : Calls Try.prog 62 #[.int .i64 n] w fun e w' => e = .returned (.int .i64 (n % 65536)) ∧ w = w' := by
  go_enter Try.func62, Try.ntmps62
  go_wp2_with fail
  refine (ref01_Mod n 65536 hn (by decide) (by decide) _).mono ?_; rintro e w' ⟨rfl, rfl⟩
  go_wp2
  go_ret
  exact ⟨rfl, rfl⟩

/-- A bit of a number, from 0 to 15. -/
def bitI (n k : Int) : Int := if 0 ≤ k ∧ k ≤ 15 then n / 2 ^ k.toNat % 2 else 0
theorem bitI_range (n k : Int) : 0 ≤ bitI n k ∧ bitI n k ≤ 1 := by unfold bitI; split <;> omega

theorem bits_Bit (n k : Int) (w : World) : Calls Try.prog 64 #[.int .i64 n, .int .i64 k] w fun e w' => e = .returned (.int .i64 (bitI n k)) ∧ w = w' := by
  by_cases h0 : 0 ≤ k
  · by_cases h1 : k ≤ 15
    · go_enter Try.func64, Try.ntmps64
      go_wp2
      go_ret
      refine ⟨ret_int ?_, rfl⟩
      unfold bitI; rw [if_pos ⟨h0, h1⟩]
    · have e : bitI n k = 0 := by unfold bitI; rw [if_neg (by omega)]
      rw [e]
      go_enter Try.func64, Try.ntmps64
      go_wp2
      go_ret
      exact ⟨rfl, rfl⟩
  · have e : bitI n k = 0 := by unfold bitI; rw [if_neg (by omega)]
    rw [e]
    go_enter Try.func64, Try.ntmps64
    go_wp2
    go_ret
    exact ⟨rfl, rfl⟩

end Go.Proofs.Ytlhnfllfankjhaa
