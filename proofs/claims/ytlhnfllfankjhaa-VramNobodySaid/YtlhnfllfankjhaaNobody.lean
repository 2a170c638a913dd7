/- The walk of VramNobody. -/
import Derived.Test.YtlhnfllfankjhaaDuo
namespace Go.Proofs.Ytlhnfllfankjhaa
open Go Go.RowKit
set_option linter.unusedSimpArgs false
set_option linter.unusedVariables false
set_option maxRecDepth 100000

/-- Video memory that no call made: none, or one of zeros. -/
def NoV (w : World) (v : Value) : Prop := v = .pointer none ∨ ∃ p, v = .pointer (some ⟨p, 0, none⟩) ∧ Blk w p #[.slice none 0 0, .int .i64 0, .int .i64 0, .int .i64 0, .int .i64 0, .int .i64 0] 69
theorem vram_none_no {w : World} {v : Value} (h : NoV w v) : Calls Try.prog 61 #[v] w fun e w' => e = .returned (.bool true) ∧ w = w' := by
  rcases h with rfl | ⟨p, rfl, hb⟩
  · exact vram_none_nil w
  · have qS : ∀ w : World, (binOp .eql 22 (.slice none 0 0) (.slice none 0 0)).run Try.prog w = .ok (.bool true) w := fun w => Lib.run_eql_slice_nil w 22 3 none 0 0 0 0 Try.underlying22
    have c0 := hb.cell 0
    simp only [List.getElem?_toArray, List.getElem?_cons_zero, List.getElem?_cons_succ] at c0
    go_enter Try.func61, Try.ntmps61
    go_wp2
    go_ret
    exact ⟨rfl, rfl⟩
theorem vram_SetWrite_no {w : World} {v : Value} (h : NoV w v) (n : Int) : Calls Try.prog 38 #[v, .int .i64 n] w fun e w' => e = .returned (.tuple #[]) ∧ w = w' := by
  go_enter Try.func38, Try.ntmps38
  go_wp2_with fail
  refine (vram_none_no h).mono ?_; rintro e w' ⟨rfl, rfl⟩
  go_wp2
  exact ⟨rfl, _, by first | exact rfl | (unfold results; rfl) | kernel_rfl, rfl, rfl⟩
theorem vram_SetRead_no {w : World} {v : Value} (h : NoV w v) (n : Int) : Calls Try.prog 39 #[v, .int .i64 n] w fun e w' => e = .returned (.tuple #[]) ∧ w = w' := by
  go_enter Try.func39, Try.ntmps39
  go_wp2_with fail
  refine (vram_none_no h).mono ?_; rintro e w' ⟨rfl, rfl⟩
  go_wp2
  exact ⟨rfl, _, by first | exact rfl | (unfold results; rfl) | kernel_rfl, rfl, rfl⟩
theorem vram_SetStep_no {w : World} {v : Value} (h : NoV w v) (n : Int) : Calls Try.prog 40 #[v, .int .i64 n] w fun e w' => e = .returned (.tuple #[]) ∧ w = w' := by
  go_enter Try.func40, Try.ntmps40
  go_wp2_with fail
  refine (vram_none_no h).mono ?_; rintro e w' ⟨rfl, rfl⟩
  go_wp2
  exact ⟨rfl, _, by first | exact rfl | (unfold results; rfl) | kernel_rfl, rfl, rfl⟩
theorem vram_Put_no {w : World} {v : Value} (h : NoV w v) (n : Int) : Calls Try.prog 41 #[v, .bool true, .int .i64 n] w fun e w' => e = .returned (.tuple #[]) ∧ w = w' := by
  go_enter Try.func41, Try.ntmps41
  go_wp2_with fail
  refine (vram_none_no h).mono ?_; rintro e w' ⟨rfl, rfl⟩
  go_wp2
  exact ⟨rfl, _, by first | exact rfl | (unfold results; rfl) | kernel_rfl, rfl, rfl⟩
theorem vram_Poke_no {w : World} {v : Value} (h : NoV w v) (n x : Int) : Calls Try.prog 27 #[v, .int .i64 n, .int .i64 x] w fun e w' => e = .returned (.tuple #[]) ∧ w = w' := by
  go_enter Try.func27, Try.ntmps27
  go_wp2_with fail
  refine (bits_Word n _).mono ?_; rintro e w' ⟨rfl, rfl⟩
  go_wp2_with fail
  refine (vram_none_no h).mono ?_; rintro e w' ⟨rfl, rfl⟩
  go_wp2
  exact ⟨rfl, _, by first | exact rfl | (unfold results; rfl) | kernel_rfl, rfl, rfl⟩
theorem vram_Ports_no {w : World} {v : Value} (h : NoV w v)  : Calls Try.prog 43 #[v] w fun e w' => e = .returned (.tuple #[.int .i64 0, .int .i64 0, .int .i64 0, .int .i64 0, .int .i64 0]) ∧ w = w' := by
  go_enter Try.func43, Try.ntmps43
  go_wp2_with fail
  refine (vram_none_no h).mono ?_; rintro e w' ⟨rfl, rfl⟩
  go_wp2
  exact ⟨rfl, _, by first | exact rfl | (unfold results; rfl) | kernel_rfl, rfl, rfl⟩
theorem vram_Get_no {w : World} {v : Value} (h : NoV w v)  : Calls Try.prog 42 #[v, .bool true] w fun e w' => e = .returned (.int .i64 0) ∧ w = w' := by
  go_enter Try.func42, Try.ntmps42
  go_wp2_with fail
  refine (vram_none_no h).mono ?_; rintro e w' ⟨rfl, rfl⟩
  go_wp2
  exact ⟨rfl, _, by first | exact rfl | (unfold results; rfl) | kernel_rfl, rfl, rfl⟩
theorem vram_Word_no {w : World} {v : Value} (h : NoV w v) (n : Int) : Calls Try.prog 31 #[v, .int .i64 n] w fun e w' => e = .returned (.int .i64 0) ∧ w = w' := by
  go_enter Try.func31, Try.ntmps31
  go_wp2_with fail
  refine (bits_Word n _).mono ?_; rintro e w' ⟨rfl, rfl⟩
  go_wp2_with fail
  refine (vram_none_no h).mono ?_; rintro e w' ⟨rfl, rfl⟩
  go_wp2
  exact ⟨rfl, _, by first | exact rfl | (unfold results; rfl) | kernel_rfl, rfl, rfl⟩
theorem vram_Words_no {w : World} {v : Value} (h : NoV w v) (n m : Int) : Calls Try.prog 44 #[v, .int .i64 n, .int .i64 m] w fun e w' => e = .returned (.slice none 0 0) ∧ w = w' := by
  go_enter Try.func44, Try.ntmps44
  go_wp2_with fail
  refine (vram_none_no h).mono ?_; rintro e w' ⟨rfl, rfl⟩
  go_wp2
  exact ⟨rfl, _, by first | exact rfl | (unfold results; rfl) | kernel_rfl, rfl, rfl⟩

set_option maxHeartbeats 8000000 in
theorem vramNobody_walk (n : Int) (w : World) :
    Calls Try.prog 15 #[.int .i64 n] w fun e w' => e = .returned (.bool true) ∧ Below w.heap.size w w' := by
  go_enter Try.func15, Try.ntmps15
  go_wp2_with fail
  have C0 : Blk ((w.alloc (Obj.cells #[Value.slice none 0 0, Value.int .i64 0, Value.int .i64 0, Value.int .i64 0, Value.int .i64 0, Value.int .i64 0] 69)).alloc (Obj.cells #[Value.pointer none, Value.pointer (some ⟨w.heap.size, 0, none⟩)] 24)) w.heap.size _ _ := Blk.alloc (Blk.new w #[Value.slice none 0 0, Value.int .i64 0, Value.int .i64 0, Value.int .i64 0, Value.int .i64 0, Value.int .i64 0] 69) _
  have Z0 : Blk ((w.alloc (Obj.cells #[Value.slice none 0 0, Value.int .i64 0, Value.int .i64 0, Value.int .i64 0, Value.int .i64 0, Value.int .i64 0] 69)).alloc (Obj.cells #[Value.pointer none, Value.pointer (some ⟨w.heap.size, 0, none⟩)] 24)) (w.heap.size + 1) _ _ := Blk.new' (w.alloc (Obj.cells #[Value.slice none 0 0, Value.int .i64 0, Value.int .i64 0, Value.int .i64 0, Value.int .i64 0, Value.int .i64 0] 69)) #[Value.pointer none, Value.pointer (some ⟨w.heap.size, 0, none⟩)] 24 (by simp)
  have B0 : Below w.heap.size w ((w.alloc (Obj.cells #[Value.slice none 0 0, Value.int .i64 0, Value.int .i64 0, Value.int .i64 0, Value.int .i64 0, Value.int .i64 0] 69)).alloc (Obj.cells #[Value.pointer none, Value.pointer (some ⟨w.heap.size, 0, none⟩)] 24)) := ((Below.refl _ _).alloc (Nat.le_refl _) _).alloc (by simp) _
  have z0 := Z0.cell 0
  have z1 := Z0.cell 1
  simp only [List.getElem?_toArray, List.getElem?_cons_zero, List.getElem?_cons_succ] at z0 z1
  generalize ((w.alloc (Obj.cells #[Value.slice none 0 0, Value.int .i64 0, Value.int .i64 0, Value.int .i64 0, Value.int .i64 0, Value.int .i64 0] 69)).alloc (Obj.cells #[Value.pointer none, Value.pointer (some ⟨w.heap.size, 0, none⟩)] 24)) = w2 at *
  go_loopw [15] (fun i wr => ∃ k : Nat, k ≤ 2 ∧ i = .int .i64 k ∧ w2 = wr) (fun i _ => 2 - (intOf i).toNat)
  case atStart => exact ⟨0, by omega, rfl, rfl⟩
  case round =>
    obtain ⟨k, hk, rfl, rfl⟩ := hrel
    rcases (show k = 0 ∨ k = 1 ∨ k = 2 by omega) with rfl | rfl | rfl
    · have hN : NoV w2 (.pointer none) := .inl rfl
      go_wp2_with fail
      refine (vram_SetWrite_no hN n).mono ?_; rintro e w' ⟨rfl, rfl⟩
      go_wp2_with fail
      refine (vram_SetRead_no hN n).mono ?_; rintro e w' ⟨rfl, rfl⟩
      go_wp2_with fail
      refine (vram_SetStep_no hN n).mono ?_; rintro e w' ⟨rfl, rfl⟩
      go_wp2_with fail
      refine (vram_Put_no hN n).mono ?_; rintro e w' ⟨rfl, rfl⟩
      go_wp2_with fail
      refine (vram_Poke_no hN n n).mono ?_; rintro e w' ⟨rfl, rfl⟩
      go_wp2_with fail
      refine (vram_Ports_no hN).mono ?_; rintro e w' ⟨rfl, rfl⟩
      go_wp2_with fail
      refine (vram_Get_no hN).mono ?_; rintro e w' ⟨rfl, rfl⟩
      go_wp2_with fail
      refine (vram_Word_no hN n).mono ?_; rintro e w' ⟨rfl, rfl⟩
      go_wp2_with fail
      refine (vram_Words_no hN n 5).mono ?_; rintro e w' ⟨rfl, rfl⟩
      go_wp2
      go_roundw
      case rel => exact ⟨1, by omega, rfl, trivial⟩
      case measure => simp [intOf]
    · have hN : NoV w2 (.pointer (some ⟨w.heap.size, 0, none⟩)) := .inr ⟨_, rfl, C0⟩
      go_wp2_with fail
      refine (vram_SetWrite_no hN n).mono ?_; rintro e w' ⟨rfl, rfl⟩
      go_wp2_with fail
      refine (vram_SetRead_no hN n).mono ?_; rintro e w' ⟨rfl, rfl⟩
      go_wp2_with fail
      refine (vram_SetStep_no hN n).mono ?_; rintro e w' ⟨rfl, rfl⟩
      go_wp2_with fail
      refine (vram_Put_no hN n).mono ?_; rintro e w' ⟨rfl, rfl⟩
      go_wp2_with fail
      refine (vram_Poke_no hN n n).mono ?_; rintro e w' ⟨rfl, rfl⟩
      go_wp2_with fail
      refine (vram_Ports_no hN).mono ?_; rintro e w' ⟨rfl, rfl⟩
      go_wp2_with fail
      refine (vram_Get_no hN).mono ?_; rintro e w' ⟨rfl, rfl⟩
      go_wp2_with fail
      refine (vram_Word_no hN n).mono ?_; rintro e w' ⟨rfl, rfl⟩
      go_wp2_with fail
      refine (vram_Words_no hN n 5).mono ?_; rintro e w' ⟨rfl, rfl⟩
      go_wp2
      go_roundw
      case rel => exact ⟨2, by omega, rfl, trivial⟩
      case measure => simp [intOf]
    · go_wp2_with fail
      refine (vram_New _).mono ?_; rintro e w3 ⟨p, g, rfl, hx, hb, hp, hg⟩
      go_wp2_with fail
      refine (vram_Poke hx 5 7).mono ?_; rintro e w4 ⟨rfl, hx4, t4⟩
      go_wp2_with fail
      refine (vram_Word hx4 5).mono ?_; rintro e w5 ⟨rfl, rfl⟩
      rw [VS.word_poke_eq VS.new VS.Ok.new.len 5 5 7 rfl, if_pos (by decide)]
      go_wp2
      go_ret
      exact ⟨rfl, Tr.below (B0.trans (hb.mono B0.size)) t4 (Nat.le_refl _) (by have := B0.size; simp; omega)⟩
end Go.Proofs.Ytlhnfllfankjhaa
