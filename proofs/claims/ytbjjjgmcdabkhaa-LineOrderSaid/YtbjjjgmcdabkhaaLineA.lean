/- Contracts: two slices of numbers held against each other. -/
import Derived.Test.YtbjjjgmcdabkhaaSl
namespace Go.Proofs.Ytbjjjgmcdabkhaa
open Go Go.RowKit
set_option linter.unusedSimpArgs false
set_option linter.unusedVariables false

theorem law19_ints (a b : Option Addr) (ca cb : Nat) (xs ys : List Int) (w : World) (hm : xs.length ≤ maxLen) (hm' : ys.length ≤ maxLen) (hx : SlAt (Value.int .i64) 0 w a xs) (hy : SlAt (Value.int .i64) 0 w b ys) :
    Calls Try.prog 13 #[.slice a xs.length ca, .slice b ys.length cb] w fun e w' => e = .returned (.bool (decide (xs = ys))) ∧ ∃ n, w' = w.drewN n := by
  unfold maxLen at hm hm'
  by_cases hl : xs.length = ys.length
  · have hl' : ((xs.length : Int) != (ys.length : Int)) = false := by rw [hl]; simp
    go_enter Try.func13, Try.ntmps13
    go_wp2
    go_loopw [5] (fun i wr => ∃ k : Nat, k ≤ xs.length ∧ i = .int .i64 k ∧ (∀ j, j < k → nth 0 xs j = nth 0 ys j) ∧ ∃ n, wr = w.drewN n) (fun i _ => xs.length - (intOf i).toNat)
    case atStart => exact ⟨0, by omega, rfl, by intro j hj; omega, 0, rfl⟩
    case round =>
      obtain ⟨k, hk, rfl, hall, n, rfl⟩ := hrel
      by_cases hlt : k < xs.length
      · obtain ⟨ad, rfl, c1⟩ := hx.atN k hlt
        obtain ⟨bd, rfl, c2⟩ := hy.atN k (by omega)
        have H := Lib.hid hl; clear hl
        have HA := Lib.hid hall; clear hall
        have i1 : (k : Int) < (xs.length : Int) := by omega
        have i2 : (k : Int) < (ys.length : Int) := by have := H.out; omega
        go_wp2_with fail
        go_quiet (fail)
        by_cases he : (nth 0 xs k != nth 0 ys k) = true
        · go_wp2
          go_ret
          refine ⟨ret_bool ?_, _, by rw [World.drewN_drewN]⟩
          symm; rw [decide_eq_false_iff_not]; rintro rfl; simp at he
        · have he' : (nth 0 xs k != nth 0 ys k) = false := by simpa using he
          clear he
          go_wp2
          go_roundw
          case rel => exact ⟨k + 1, by omega, by go_num, (by intro j hj; rcases (by omega : j < k ∨ j = k) with h | rfl; (exact HA.out j h); simpa using he'), _, rfl⟩
          case measure => simp [intOf]; omega
      · go_wp2
        go_ret
        refine ⟨ret_bool ?_, _, rfl⟩
        symm; rw [decide_eq_true_iff]
        exact nth_ext 0 hl (fun i hi => hall i (by omega))
  · have hl' : ((xs.length : Int) != (ys.length : Int)) = true := by simp; omega
    go_enter Try.func13, Try.ntmps13
    go_wp2
    go_ret
    refine ⟨ret_bool ?_, 0, rfl⟩
    symm; rw [decide_eq_false_iff_not]; rintro rfl; exact hl rfl

end Go.Proofs.Ytbjjjgmcdabkhaa
