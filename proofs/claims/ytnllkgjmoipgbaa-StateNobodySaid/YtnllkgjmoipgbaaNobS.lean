/- The law StateNobody, walked. -/
import Derived.Test.YtnllkgjmoipgbaaBui
import Derived.Deep.CutBlock
import Derived.WalkSpells
namespace Go.Proofs.Ytnllkgjmoipgbaa
open Go Go.RowKit
set_option linter.unusedSimpArgs false
set_option linter.unusedVariables false
set_option maxRecDepth 100000

theorem state_Encode_no (v : Value) (w : World) (h : v = .pointer none ∨ ∃ g, v = .pointer (some ⟨g, 0, none⟩) ∧ (w.cell? ⟨g, 8, none⟩ = some (.pointer none) ∨ ∃ b, w.cell? ⟨g, 8, none⟩ = some (.pointer (some ⟨b, 0, none⟩)) ∧ w.cell? ⟨b, 281, none⟩ = some (.pointer none))) :
    Calls Try.prog 4 #[v] w fun e w' => e = .returned (.tuple #[.slice none 0 0, .int .i64 1]) ∧ w = w' := by
  rcases h with rfl | ⟨g, rfl, h | ⟨b, h, h2⟩⟩
  all_goals
    go_enter Try.func4, Try.ntmps4
    go_wp2
    go_ret2
    exact ⟨rfl, rfl⟩
theorem card_Pages_no (v : Value) (w : World) (h : v = .pointer none ∨ ∃ g, v = .pointer (some ⟨g, 0, none⟩) ∧ w.cell? ⟨g, 0, none⟩ = some (.slice none 0 0)) :
    Calls Try.prog 7 #[v] w fun e w' => e = .returned (.int .i64 0) ∧ w = w' := by
  rcases h with rfl | ⟨g, rfl, h⟩
  all_goals
    go_enter Try.func7, Try.ntmps7
    go_wp2
    go_ret
    exact ⟨rfl, rfl⟩
theorem state_Decode_no (v s : Value) (w : World) (h : v = .pointer none ∨ ∃ g, v = .pointer (some ⟨g, 0, none⟩) ∧ w.cell? ⟨g, 0, none⟩ = some (.slice none 0 0)) :
    Calls Try.prog 5 #[v, s] w fun e w' => e = .returned (.tuple #[.pointer none, .int .i64 1]) ∧ w = w' := by
  go_enter Try.func5, Try.ntmps5
  go_wp2_with fail
  refine (card_Pages_no v _ h).mono ?_; rintro e w' ⟨rfl, rfl⟩
  go_wp2
  go_ret2
  exact ⟨rfl, rfl⟩
theorem zeroBus281 : (Try.zeroCells63)[281]? = some (.pointer none) := by kernel_rfl
set_option maxHeartbeats 2000000 in
theorem stateNobody_walk (s : Value) (w : World) : Calls Try.prog 3 #[s] w fun e w' => e = .returned (.bool true) ∧ Below w.heap.size w w' := by
  go_enter Try.func3, Try.ntmps3
  go_upto_region 2 with (fail)
  go_loopw [19] (fun i wr => ∃ k : Nat, k ≤ 3 ∧ i = .int .i64 k ∧ wr.cell? ⟨w.heap.size, 8, none⟩ = some (.pointer none) ∧ wr.cell? ⟨w.heap.size + 1, 281, none⟩ = some (.pointer none) ∧ wr.cell? ⟨w.heap.size + 1 + 1, 8, none⟩ = some (.pointer (some ⟨w.heap.size + 1, 0, none⟩)) ∧
    wr.cell? ⟨w.heap.size + 1 + 1 + 1, 0, none⟩ = some (.pointer none) ∧ wr.cell? ⟨w.heap.size + 1 + 1 + 1, 1, none⟩ = some (.pointer (some ⟨w.heap.size, 0, none⟩)) ∧ wr.cell? ⟨w.heap.size + 1 + 1 + 1, 2, none⟩ = some (.pointer (some ⟨w.heap.size + 1 + 1, 0, none⟩)) ∧ Below w.heap.size w wr) (fun i _ => 3 - (intOf i).toNat)
  case atStart =>
    refine ⟨0, by omega, rfl, (Blk.cell (Blk.alloc (Blk.alloc (Blk.alloc (Blk.new w _ _) _) _) _) 8).trans rfl, ?_, ?_, ?_, ?_, ?_, ?_⟩
    · refine (Blk.cell (Blk.alloc (Blk.alloc (Blk.new' (w.alloc _) _ _ (by simp)) _) _) 281).trans ?_
      exact zeroBus281
    · exact (Blk.cell (Blk.alloc (Blk.new' ((w.alloc _).alloc _) _ _ (by simp)) _) 8).trans rfl
    · exact (Blk.cell (Blk.new' (((w.alloc _).alloc _).alloc _) _ _ (by simp)) 0).trans rfl
    · exact (Blk.cell (Blk.new' (((w.alloc _).alloc _).alloc _) _ _ (by simp)) 1).trans rfl
    · exact (Blk.cell (Blk.new' (((w.alloc _).alloc _).alloc _) _ _ (by simp)) 2).trans rfl
    · exact ((((Below.refl _ _).alloc (Nat.le_refl _) _).alloc (by simp) _).alloc (by simp; omega) _).alloc (by simp; omega) _
  case round =>
    obtain ⟨k, hk, rfl, c0, c1, c2, c3, c4, c5, B⟩ := hrel
    rcases (show k = 0 ∨ k = 1 ∨ k = 2 ∨ k = 3 by omega) with rfl | rfl | rfl | rfl
    · go_wp2_with fail
      refine (state_Encode_no (.pointer none) _ (.inl rfl)).mono ?_; rintro e w' ⟨rfl, rfl⟩
      go_wp2
      go_roundw
      case rel => exact ⟨1, by omega, rfl, c0, c1, c2, c3, c4, c5, B⟩
      case measure => simp [intOf]
    · go_wp2_with fail
      refine (state_Encode_no (.pointer (some ⟨w.heap.size, 0, none⟩)) _ (.inr ⟨_, rfl, .inl c0⟩)).mono ?_; rintro e w' ⟨rfl, rfl⟩
      go_wp2
      go_roundw
      case rel => exact ⟨2, by omega, rfl, c0, c1, c2, c3, c4, c5, B⟩
      case measure => simp [intOf]
    · go_wp2_with fail
      refine (state_Encode_no (.pointer (some ⟨w.heap.size + 1 + 1, 0, none⟩)) _ (.inr ⟨_, rfl, .inr ⟨_, c2, c1⟩⟩)).mono ?_; rintro e w' ⟨rfl, rfl⟩
      go_wp2
      go_roundw
      case rel => exact ⟨3, by omega, rfl, c0, c1, c2, c3, c4, c5, B⟩
      case measure => simp [intOf]
    · clear c0 c1 c2 c3 c4 c5
      go_upto_region 9 with (fail)
      have s1 := B.size
      generalize hgw : wr.heap.size = gw at *
      go_loopw [40] (fun i wq => ∃ k : Nat, k ≤ 2 ∧ i = .int .i64 k ∧ wq.cell? ⟨gw, 0, none⟩ = some (.slice none 0 0) ∧ wq.cell? ⟨gw + 1, 0, none⟩ = some (.pointer none) ∧ wq.cell? ⟨gw + 1, 1, none⟩ = some (.pointer (some ⟨gw, 0, none⟩)) ∧ Below w.heap.size w wq) (fun i _ => 2 - (intOf i).toNat)
      case atStart =>
        refine ⟨0, by omega, rfl, (Blk.cell (Blk.alloc (Blk.new' wr _ _ hgw.symm) _) 0).trans rfl, ?_, ?_, ?_⟩
        · exact (Blk.cell (Blk.new' (wr.alloc _) _ _ (by rw [← hgw]; simp)) 0).trans rfl
        · exact (Blk.cell (Blk.new' (wr.alloc _) _ _ (by rw [← hgw]; simp)) 1).trans rfl
        · exact (B.alloc (by omega) _).alloc (by simp; omega) _
      case round =>
        clear B
        obtain ⟨k, hk, rfl, c0, c1, c2, B⟩ := hrel
        rcases (show k = 0 ∨ k = 1 ∨ k = 2 by omega) with rfl | rfl | rfl
        · go_wp2_with fail
          refine (state_Decode_no (.pointer none) s _ (.inl rfl)).mono ?_; rintro e w' ⟨rfl, rfl⟩
          go_wp2
          go_roundw
          case rel => exact ⟨_, _, _, _, _, _, _, _, _, _, _, _, _, _, _, _, _, _, _, _, _, ⟨1, by omega, rfl, c0, c1, c2, B⟩, rfl⟩
          case measure => simp [intOf]
        · go_wp2_with fail
          refine (state_Decode_no (.pointer (some ⟨gw, 0, none⟩)) s _ (.inr ⟨_, rfl, c0⟩)).mono ?_; rintro e w' ⟨rfl, rfl⟩
          go_wp2
          go_roundw
          case rel => exact ⟨_, _, _, _, _, _, _, _, _, _, _, _, _, _, _, _, _, _, _, _, _, ⟨2, by omega, rfl, c0, c1, c2, B⟩, rfl⟩
          case measure => simp [intOf]
        · go_wp2
          go_ret
          exact ⟨rfl, B⟩
end Go.Proofs.Ytnllkgjmoipgbaa
