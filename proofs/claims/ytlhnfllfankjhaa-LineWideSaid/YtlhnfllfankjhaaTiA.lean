/- Contracts: a view, and a pixel's place. -/
import Derived.Test.YtlhnfllfankjhaaDmaB
import Derived.Test.YtlhnfllfankjhaaEqA
namespace Go.Proofs.Ytlhnfllfankjhaa
open Go Go.RowKit
set_option linter.unusedSimpArgs false
set_option linter.unusedVariables false
set_option maxRecDepth 100000

/-- A view: the map's cells, wide and high, and where the picture is. -/
structure ViewV where
  wide : Int
  high : Int
  x : Int
  y : Int
def ViewV.cells (v : ViewV) : Array Value := #[.int .i64 v.wide, .int .i64 v.high, .int .i64 v.x, .int .i64 v.y]
def ViewV.val (v : ViewV) : Value := .agg v.cells
/-- Is it one? -/
def ViewV.Right (v : ViewV) : Prop := (v.wide = 32 ∨ v.wide = 64 ∨ v.wide = 128) ∧ (v.high = 32 ∨ v.high = 64)
instance (v : ViewV) : Decidable v.Right := by unfold ViewV.Right; exact inferInstance
def ViewV.px (v : ViewV) (x : Int) : Int := (v.x % 65536 + x % 65536) % (8 * v.wide)
def ViewV.py (v : ViewV) (y : Int) : Int := (v.y % 65536 + y % 65536) % (8 * v.high)

theorem tiles_right (v : ViewV) (w : World) : Calls Try.prog 66 #[v.val] w fun e w' => e = .returned (.bool (decide v.Right)) ∧ Below w.heap.size w w' := by
  obtain ⟨wd, hg, x, y⟩ := v
  unfold ViewV.val ViewV.cells
  simp only
  have C0 := Blk.new w #[Value.int .i64 wd, Value.int .i64 hg, Value.int .i64 x, Value.int .i64 y] 42
  have k0 := C0.cell 0
  have k1 := C0.cell 1
  simp only [List.getElem?_toArray, List.getElem?_cons_zero, List.getElem?_cons_succ] at k0 k1
  have B := (Below.refl w.heap.size w).alloc (Nat.le_refl _) (Obj.cells #[Value.int .i64 wd, Value.int .i64 hg, Value.int .i64 x, Value.int .i64 y] 42)
  rcases (show wd = 32 ∨ wd = 64 ∨ wd = 128 ∨ (wd ≠ 32 ∧ wd ≠ 64 ∧ wd ≠ 128) by omega) with rfl | rfl | rfl | ⟨a1, a2, a3⟩
  · rcases (show hg = 32 ∨ hg = 64 ∨ (hg ≠ 32 ∧ hg ≠ 64) by omega) with rfl | rfl | ⟨b1, b2⟩
    · go_enter Try.func66, Try.ntmps66
      go_wp2
      go_ret
      exact ⟨ret_bool (by simp [ViewV.Right]), B⟩
    · go_enter Try.func66, Try.ntmps66
      go_wp2
      go_ret
      exact ⟨ret_bool (by simp [ViewV.Right]), B⟩
    · have e1 : (hg == 32) = false := by simpa using b1
      have e2 : (hg == 64) = false := by simpa using b2
      have hn : ∀ a : Int, decide (ViewV.Right ⟨a, hg, x, y⟩) = false := fun a => by
        apply decide_eq_false
        unfold ViewV.Right
        simp only
        omega
      have HN := Lib.hid hn
      clear hn b1 b2
      go_enter Try.func66, Try.ntmps66
      go_wp2
      go_ret
      exact ⟨ret_bool (HN.out _).symm, B⟩
  · rcases (show hg = 32 ∨ hg = 64 ∨ (hg ≠ 32 ∧ hg ≠ 64) by omega) with rfl | rfl | ⟨b1, b2⟩
    · go_enter Try.func66, Try.ntmps66
      go_wp2
      go_ret
      exact ⟨ret_bool (by simp [ViewV.Right]), B⟩
    · go_enter Try.func66, Try.ntmps66
      go_wp2
      go_ret
      exact ⟨ret_bool (by simp [ViewV.Right]), B⟩
    · have e1 : (hg == 32) = false := by simpa using b1
      have e2 : (hg == 64) = false := by simpa using b2
      have hn : ∀ a : Int, decide (ViewV.Right ⟨a, hg, x, y⟩) = false := fun a => by
        apply decide_eq_false
        unfold ViewV.Right
        simp only
        omega
      have HN := Lib.hid hn
      clear hn b1 b2
      go_enter Try.func66, Try.ntmps66
      go_wp2
      go_ret
      exact ⟨ret_bool (HN.out _).symm, B⟩
  · rcases (show hg = 32 ∨ hg = 64 ∨ (hg ≠ 32 ∧ hg ≠ 64) by omega) with rfl | rfl | ⟨b1, b2⟩
    · go_enter Try.func66, Try.ntmps66
      go_wp2
      go_ret
      exact ⟨ret_bool (by simp [ViewV.Right]), B⟩
    · go_enter Try.func66, Try.ntmps66
      go_wp2
      go_ret
      exact ⟨ret_bool (by simp [ViewV.Right]), B⟩
    · have e1 : (hg == 32) = false := by simpa using b1
      have e2 : (hg == 64) = false := by simpa using b2
      have hn : ∀ a : Int, decide (ViewV.Right ⟨a, hg, x, y⟩) = false := fun a => by
        apply decide_eq_false
        unfold ViewV.Right
        simp only
        omega
      have HN := Lib.hid hn
      clear hn b1 b2
      go_enter Try.func66, Try.ntmps66
      go_wp2
      go_ret
      exact ⟨ret_bool (HN.out _).symm, B⟩
  have e1 : (wd == 32) = false := by simpa using a1
  have e2 : (wd == 64) = false := by simpa using a2
  have e3 : (wd == 128) = false := by simpa using a3
  have hn : decide (ViewV.Right ⟨wd, hg, x, y⟩) = false := by
    apply decide_eq_false
    unfold ViewV.Right
    simp only
    omega
  have HN := Lib.hid hn
  clear hn a1 a2 a3
  go_enter Try.func66, Try.ntmps66
  go_wp2
  go_ret
  exact ⟨ret_bool HN.out.symm, B⟩

theorem ViewV.Right_range {v : ViewV} (h : v.Right) : (32 ≤ v.wide ∧ v.wide ≤ 128) ∧ (32 ≤ v.high ∧ v.high ≤ 64) := by
  unfold ViewV.Right at h; omega
theorem ViewV.px_range {v : ViewV} (h : v.Right) (x : Int) : 0 ≤ v.px x ∧ v.px x < 8 * v.wide ∧ v.px x < 1024 := by
  have := ViewV.Right_range h
  have h1 := Int.emod_nonneg (v.x % 65536 + x % 65536) (show 8 * v.wide ≠ 0 by omega)
  have h2 := Int.emod_lt_of_pos (v.x % 65536 + x % 65536) (show 0 < 8 * v.wide by omega)
  unfold ViewV.px; omega
theorem ViewV.py_range {v : ViewV} (h : v.Right) (y : Int) : 0 ≤ v.py y ∧ v.py y < 8 * v.high ∧ v.py y < 512 := by
  have := ViewV.Right_range h
  have h1 := Int.emod_nonneg (v.y % 65536 + y % 65536) (show 8 * v.high ≠ 0 by omega)
  have h2 := Int.emod_lt_of_pos (v.y % 65536 + y % 65536) (show 0 < 8 * v.high by omega)
  unfold ViewV.py; omega

theorem tiles_place (v : ViewV) (hR : v.Right) (x y : Int) (w : World) : Calls Try.prog 67 #[v.val, .int .i64 x, .int .i64 y] w fun e w' =>
    e = .returned (.tuple #[.int .i64 (v.px x), .int .i64 (v.py y)]) ∧ Below w.heap.size w w' := by
  have hr := ViewV.Right_range hR
  have e1 : IntKind.i64.wrap (8 * v.wide) = 8 * v.wide := IntWalk.i64_in _ (by omega)
  have e2 : IntKind.i64.wrap (8 * v.high) = 8 * v.high := IntWalk.i64_in _ (by omega)
  have e3 : IntKind.i64.wrap (v.x % 65536 + x % 65536) = v.x % 65536 + x % 65536 := IntWalk.i64_in _ (by omega)
  have e4 : IntKind.i64.wrap (v.y % 65536 + y % 65536) = v.y % 65536 + y % 65536 := IntWalk.i64_in _ (by omega)
  have e5 : (v.x % 65536 + x % 65536).tmod (8 * v.wide) = v.px x := Int.tmod_eq_emod_of_nonneg (by omega)
  have e6 : (v.y % 65536 + y % 65536).tmod (8 * v.high) = v.py y := Int.tmod_eq_emod_of_nonneg (by omega)
  have n1 : ¬ 8 * v.wide = 0 := by omega
  have n2 : ¬ 8 * v.high = 0 := by omega
  have r1 := ViewV.px_range hR x
  have r2 := ViewV.py_range hR y
  have e7 : IntKind.i64.wrap (v.px x) = v.px x := IntWalk.i64_in _ (by omega)
  have e8 : IntKind.i64.wrap (v.py y) = v.py y := IntWalk.i64_in _ (by omega)
  have C0 := Blk.new w #[Value.int .i64 v.wide, Value.int .i64 v.high, Value.int .i64 v.x, Value.int .i64 v.y] 42
  have k0 := C0.cell 0
  have k1 := C0.cell 1
  have k2 := C0.cell 2
  have k3 := C0.cell 3
  simp only [List.getElem?_toArray, List.getElem?_cons_zero, List.getElem?_cons_succ] at k0 k1 k2 k3
  have B := (Below.refl w.heap.size w).alloc (Nat.le_refl _) (Obj.cells #[Value.int .i64 v.wide, Value.int .i64 v.high, Value.int .i64 v.x, Value.int .i64 v.y] 42)
  unfold ViewV.val ViewV.cells
  generalize v.px x = px at *
  generalize v.py y = py at *
  go_enter Try.func67, Try.ntmps67
  go_wp2_with fail
  generalize w.alloc (Obj.cells #[Value.int .i64 v.wide, Value.int .i64 v.high, Value.int .i64 v.x, Value.int .i64 v.y] 42) = w2 at *
  go_quiet ((go_at_call 60; exact quiet_same (bits_Word _ _)))
  go_wp2
  go_ret2
  exact ⟨rfl, below_drewN B _⟩
end Go.Proofs.Ytlhnfllfankjhaa
