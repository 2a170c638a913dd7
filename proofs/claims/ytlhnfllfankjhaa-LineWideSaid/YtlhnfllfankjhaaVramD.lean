/- Contracts: fresh video memories; words from a place on. -/
import Derived.Test.YtlhnfllfankjhaaVramC
import Derived.Laws.CopyOwn
import Derived.Deep.OwnRows
namespace Go.Proofs.Ytlhnfllfankjhaa
open Go Go.RowKit
set_option linter.unusedSimpArgs false
set_option linter.unusedVariables false
set_option maxRecDepth 100000

theorem Try.infoInt : (Try.prog.info? 3).map (fun i => (i.zero, i.size, i.bytes)) = some (some (.int .i64 0), 1, 8) := by kernel_rfl
theorem make_ints (n : Nat) (hn : n ≤ 1000000000) (w : World) : (Instr.makeSlice 22 (.int .i64 (n : Int)) (.int .i64 (n : Int))).run Try.prog w = .ok (.slice (some ⟨w.heap.size, 0, none⟩) n n) (w.alloc (.cells (madeCells #[.int .i64 0] n) 3)) :=
  run_make_row' 22 3 _ 8 Try.underlying22 Try.infoInt rfl .i64 .i64 n (by omega) (by omega) w

theorem vat_new (t : TypeId) (w : World) : VAt t ((w.alloc (.cells (madeCells #[.int .i64 0] 32768) 3)).alloc (.cells (VS.new.cells w.heap.size 32768) t)) (w.heap.size + 1) w.heap.size VS.new :=
  ⟨⟨[], Blk.new' _ _ _ (by simp), by rw [List.append_nil]; exact Blk.alloc (BlkL.made (f := Value.int .i64) w 0 32768 3 rfl) _⟩, VS.Ok.new, by omega⟩
theorem below_new (w : World) (o o' : Obj) : Below w.heap.size w ((w.alloc o).alloc o') := ((Below.refl _ _).alloc (Nat.le_refl _) _).alloc (by simp) _

theorem vram_New (w : World) : Calls Try.prog 25 #[] w fun e w' => ∃ p g, e = .returned (.pointer (some ⟨p, 0, none⟩)) ∧ VAt 69 w' p g VS.new ∧ Below w.heap.size w w' ∧ w.heap.size ≤ p ∧ w.heap.size ≤ g := by
  have hm : ∀ w : World, (Instr.makeSlice 22 (.int .i64 32768) (.int .i64 32768)).run Try.prog w = .ok (.slice (some ⟨w.heap.size, 0, none⟩) 32768 32768) (w.alloc (.cells (madeCells #[.int .i64 0] 32768) 3)) := fun w => make_ints 32768 (by omega) w
  have N := Lib.hid (vat_new 69 w)
  generalize madeCells #[Value.int .i64 0] 32768 = cs at *
  go_enter Try.func25, Try.ntmps25
  go_wp2
  go_ret
  exact ⟨_, _, rfl, N.out, below_new w _ _, by omega, by omega⟩
theorem ref13_New (w : World) : Calls Try.prog 26 #[] w fun e w' => ∃ p g, e = .returned (.pointer (some ⟨p, 0, none⟩)) ∧ VAt 66 w' p g VS.new ∧ Below w.heap.size w w' ∧ w.heap.size ≤ p ∧ w.heap.size ≤ g := by
  have hm : ∀ w : World, (Instr.makeSlice 22 (.int .i64 32768) (.int .i64 32768)).run Try.prog w = .ok (.slice (some ⟨w.heap.size, 0, none⟩) 32768 32768) (w.alloc (.cells (madeCells #[.int .i64 0] 32768) 3)) := fun w => make_ints 32768 (by omega) w
  have N := Lib.hid (vat_new 66 w)
  generalize madeCells #[Value.int .i64 0] 32768 = cs at *
  go_enter Try.func26, Try.ntmps26
  go_wp2
  go_ret
  exact ⟨_, _, rfl, N.out, below_new w _ _, by omega, by omega⟩

end Go.Proofs.Ytlhnfllfankjhaa
