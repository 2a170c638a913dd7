/- The law BlockTells, walked. -/
import Derived.Test.YtbjjjgmcdabkhaaTellB
import Derived.Test.YtbjjjgmcdabkhaaOpen
namespace Go.Proofs.Ytbjjjgmcdabkhaa
open Go Go.RowKit Go.ChangeShapes Go.WideShapes
set_option linter.unusedSimpArgs false
set_option linter.unusedVariables false

def sA (kind i a : Int) : Int := if kind < 0 ∨ 5 ≤ kind then 0 else stA kind i a
def sB (kind i a : Int) : Int := if kind < 0 ∨ 5 ≤ kind then 0 else stB kind i a

theorem block_Step_all (kind i a b : Int) (w : World) : Calls Try.prog 16 #[.int .i64 kind, .int .i64 i, .agg #[.int .i64 a, .int .i64 b]] w fun e w' =>
    e = .returned (.tuple #[.int .i64 (sA kind i a), .int .i64 (sB kind i b)]) ∧ Below w.heap.size w w' := by
  unfold sA sB
  by_cases h : kind < 0 ∨ 5 ≤ kind
  · rw [if_pos h, if_pos h]; exact block_Step_out kind i a b h w
  · rw [if_neg h, if_neg h]; exact block_Step kind i a b (by omega) (by omega) w

theorem ref09_Step_all (kind i a b : Int) (hi : InI i) (ha : InI a) (hb : InI b) (w : World) : Calls Try.prog 24 #[.int .i64 kind, .int .i64 i, .int .i64 a, .int .i64 b] w fun e w' =>
    e = .returned (.tuple #[.int .i64 (sA kind i a), .int .i64 (sB kind i b)]) ∧ w = w' := ref09_Step kind i a b hi ha hb w

set_option maxRecDepth 100000 in
set_option maxHeartbeats 4000000 in
theorem tells_walk (kind n0 n1 n2 : Int) (s : ByteArray) (h0 : InI n0) (h1 : InI n1) (h2 : InI n2) (w : World) :
    Calls Try.prog 10 #[.int .i64 kind, .agg #[.int .i64 n0, .int .i64 n1, .int .i64 n2], .string s] w fun e w' => e = .returned (.bool true) ∧ Below w.heap.size w w' := by
  have hc := cnt_range n0
  have e1 : IntKind.i64.wrap (6 * cnt n0) = 6 * cnt n0 := IntWalk.i64_in _ (by omega)
  have e2 : IntKind.i64.wrap (17 + 6 * cnt n0) = 17 + 6 * cnt n0 := IntWalk.i64_in _ (by omega)
  have z : cnt 0 = 65536 := rfl
  go_enter Try.func10, Try.ntmps10
  go_upto_if 17 with (fail)
  go_cut [2] (fun s2 wx => ∃ t, s2 = .string t ∧ Blk wx w.heap.size #[.int .i64 n0, .int .i64 n1, .int .i64 n2] 55 ∧ Below w.heap.size w wx)
  case first =>
    by_cases hs : (100 : Int) < (s.size : Int)
    · go_wp2
      go_meet
      exact ⟨_, rfl, Blk.new _ _ _, (Below.refl _ _).alloc (Nat.le_refl _) _⟩
    · go_wp2
      go_meet
      exact ⟨_, rfl, Blk.new _ _ _, (Below.refl _ _).alloc (Nat.le_refl _) _⟩
  case rest =>
    obtain ⟨t, rfl, q, hb⟩ := hcut
    have ql := q.lt
    have c0 := q.cell 0; have c1 := q.cell 1; have c2 := q.cell 2
    simp only [List.getElem?_toArray, List.getElem?_cons_zero, List.getElem?_cons_succ] at c0 c1 c2
    go_wp2_with fail
    refine (block_Step_all kind n0 n1 n2 _).mono ?_; rintro e w1 ⟨rfl, hb1⟩
    replace q := q.below hb1
    replace hb := hb.trans (hb1.mono hb.size)
    clear c0 c1 c2
    have c0 := q.cell 0; have c1 := q.cell 1; have c2 := q.cell 2
    simp only [List.getElem?_toArray, List.getElem?_cons_zero, List.getElem?_cons_succ] at c0 c1 c2
    go_wp2_with fail
    refine (ref09_Step_all kind n0 n1 n2 h0 h1 h2 _).mono ?_; rintro e w' ⟨rfl, rfl⟩
    go_wp2_with fail
    refine (block_Kind t _).mono ?_; rintro e w2 ⟨rfl, hb2⟩
    replace q := q.below hb2
    replace hb := hb.trans (hb2.mono hb.size)
    go_wp2_with fail
    refine (ref09_Kind t _).mono ?_; rintro e w3 ⟨rfl, hb3⟩
    replace q := q.below hb3
    replace hb := hb.trans (hb3.mono hb.size)
    clear c0 c1 c2 hb1 hb2 hb3
    have c0 := q.cell 0
    simp only [List.getElem?_toArray, List.getElem?_cons_zero, List.getElem?_cons_succ] at c0
    generalize decide (0 ≤ ix t.toList) = y2
    generalize max (ix t.toList) 0 = y1
    generalize sA kind n0 n1 = x1
    generalize sB kind n0 n2 = x2
    generalize hcn : cnt n0 = cn at *
    have HC := Lib.hid hcn; clear hcn
    have k1 : ∀ w', Calls Try.prog 18 #[.int .i64 n0] w' fun e w'' => e = .returned (.int .i64 cn) ∧ w' = w'' := fun w' => HC.out ▸ block_Count n0 w'
    have k2 : ∀ w', Calls Try.prog 27 #[.int .i64 n0] w' fun e w'' => e = .returned (.int .i64 cn) ∧ w' = w'' := fun w' => HC.out ▸ ref09_Count n0 h0 w'
    have k3 : ∀ w', Calls Try.prog 17 #[.int .i64 n0] w' fun e w'' => e = .returned (.int .i64 (17 + 6 * cn)) ∧ w' = w'' := fun w' => HC.out ▸ block_Cycles n0 w'
    have k4 : ∀ w', Calls Try.prog 18 #[.int .i64 0] w' fun e w'' => e = .returned (.int .i64 65536) ∧ w' = w'' := fun w' => block_Count 0 w'
    have K1 := Lib.hid k1; have K2 := Lib.hid k2; have K3 := Lib.hid k3; have K4 := Lib.hid k4
    clear k1 k2 k3 k4
    go_upto_region 7 with (fail)
    go_quiet (first
      | (go_at_call 18; exact quiet_same (K1.out _))
      | (go_at_call 18; exact quiet_same (K4.out _))
      | (go_at_call 27; exact quiet_same (K2.out _))
      | (go_at_call 17; exact quiet_same (K3.out _)))
    go_wp2
    go_ret
    exact ⟨rfl, below_drewN hb _⟩

end Go.Proofs.Ytbjjjgmcdabkhaa
