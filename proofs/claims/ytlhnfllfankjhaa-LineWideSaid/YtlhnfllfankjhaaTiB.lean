/- Contracts: a row of a cell's pixels. -/
import Derived.Test.YtlhnfllfankjhaaTiA
import Derived.Laws.Rows
import Derived.Laws.Tables
namespace Go.Proofs.Ytlhnfllfankjhaa
open Go Go.RowKit
set_option linter.unusedSimpArgs false
set_option linter.unusedVariables false
set_option maxRecDepth 100000

/-- Where words come from: a pointer, and what each call of Word tells. -/
structure Words (w : World) (pv : Value) (f : Int → Int) : Prop where
  call : ∀ wq, Below w.heap.size w wq → ∀ n : Int, Calls Try.prog 31 #[pv, .int .i64 n] wq fun e w' => e = .returned (.int .i64 (f n)) ∧ wq = w'
  range : ∀ n, 0 ≤ f n ∧ f n < 65536
theorem VAt.toWords {w : World} {p g : Nat} {V : VS} (h : VAt 69 w p g V) : Words w (.pointer (some ⟨p, 0, none⟩)) V.word :=
  ⟨fun wq hq n => vram_Word (h.below hq) n, fun n => h.ok.word n⟩
theorem Words.nil (w : World) : Words w (.pointer none) (fun _ => 0) := ⟨fun wq _ n => vram_Word_nil n wq, fun _ => by decide⟩
theorem Words.below {w w' : World} {pv : Value} {f : Int → Int} (h : Words w pv f) (hb : Below w.heap.size w w') : Words w' pv f :=
  ⟨fun wq hq n => h.call wq (hb.trans (hq.mono hb.size)) n, h.range⟩

/-- A pixel's colour in its tile, and the pixel. -/
def pixC (f : Int → Int) (cell q k : Int) : Int :=
  bitI (f (cell % 4096 * 16 + q % 8)) k + 2 * bitI (f (cell % 4096 * 16 + q % 8)) (k + 8) + 4 * bitI (f (cell % 4096 * 16 + q % 8 + 8)) k + 8 * bitI (f (cell % 4096 * 16 + q % 8 + 8)) (k + 8)
def pixV (f : Int → Int) (cell q k : Int) : Int := if pixC f cell q k = 0 then 0 else cell / 4096 * 16 + pixC f cell q k
theorem pixC_range (f : Int → Int) (cell q k : Int) : 0 ≤ pixC f cell q k ∧ pixC f cell q k < 16 := by
  unfold pixC
  have h1 := bitI_range (f (cell % 4096 * 16 + q % 8)) k
  have h2 := bitI_range (f (cell % 4096 * 16 + q % 8)) (k + 8)
  have h3 := bitI_range (f (cell % 4096 * 16 + q % 8 + 8)) k
  have h4 := bitI_range (f (cell % 4096 * 16 + q % 8 + 8)) (k + 8)
  omega
theorem pixV_range (f : Int → Int) (cell q k : Int) (hc : 0 ≤ cell ∧ cell < 65536) : 0 ≤ pixV f cell q k ∧ pixV f cell q k < 256 := by
  have := pixC_range f cell q k
  unfold pixV; split <;> omega
theorem or_four (b0 b1 b2 b3 : Int) (h0 : 0 ≤ b0 ∧ b0 ≤ 1) (h1 : 0 ≤ b1 ∧ b1 ≤ 1) (h2 : 0 ≤ b2 ∧ b2 ≤ 1) (h3 : 0 ≤ b3 ∧ b3 ≤ 1) :
    bits .or .i64 (bits .or .i64 (bits .or .i64 b0 (b1 * 2)) (b2 * 4)) (b3 * 8) = b0 + 2 * b1 + 4 * b2 + 8 * b3 := by
  rcases (show b0 = 0 ∨ b0 = 1 by omega) with rfl | rfl <;> rcases (show b1 = 0 ∨ b1 = 1 by omega) with rfl | rfl <;> rcases (show b2 = 0 ∨ b2 = 1 by omega) with rfl | rfl <;> rcases (show b3 = 0 ∨ b3 = 1 by omega) with rfl | rfl <;> decide
/-- The first j of a row's pixels. -/
def rowTo (f : Int → Int) (cell q : Int) (j : Nat) : List Int := (List.range 8).map fun i : Nat => if i < j then pixV f cell q (7 - i) else 0
def rowK (f : Int → Int) (wide col q : Int) : List Int := rowTo f (f (q / 8 * wide + col)) q 8
theorem rowTo_length (f : Int → Int) (cell q : Int) (j : Nat) : (rowTo f cell q j).length = 8 := by simp [rowTo]
theorem rowTo_zero (f : Int → Int) (cell q : Int) : rowTo f cell q 0 = zeros 8 := by
  unfold rowTo zeros
  exact (by decide : (List.range 8).map (fun _ : Nat => (0 : Int)) = List.replicate 8 0)
theorem rowTo_set (f : Int → Int) (cell q : Int) (j : Nat) (hj : j < 8) : (rowTo f cell q j).set j (pixV f cell q (7 - j)) = rowTo f cell q (j + 1) := by
  unfold rowTo
  apply List.ext_getElem
  · simp
  · intro i h1 h2
    simp [List.getElem_set] at h1 ⊢
    by_cases h : j = i
    · subst h; simp
    · rw [if_neg h]
      by_cases h' : i < j
      · rw [if_pos h', if_pos (by omega)]
      · rw [if_neg h', if_neg (by omega)]
theorem rowTo_skip (f : Int → Int) (cell q : Int) (j : Nat) (hj : j < 8) (h : pixV f cell q (7 - j) = 0) : rowTo f cell q (j + 1) = rowTo f cell q j := by
  rw [← rowTo_set f cell q j hj, h]
  unfold rowTo
  apply List.ext_getElem
  · simp
  · intro i h1 h2
    simp [List.getElem_set] at h1 ⊢
    intro e1 e2; omega
theorem nth_rowTo (f : Int → Int) (cell q : Int) (j i : Nat) (hi : i < 8) : nth 0 (rowTo f cell q j) i = if i < j then pixV f cell q (7 - i) else 0 := by
  rw [nth_lt (by rw [rowTo_length]; exact hi)]; simp [rowTo]
theorem t8 : (Try.prog.info? 118).map (·.size) = some 8 := by kernel_rfl

set_option maxHeartbeats 4000000 in
theorem tiles_row {w : World} {pv : Value} {f : Int → Int} (hW : Words w pv f) (v : ViewV) (hR : v.Right) (col q : Int) (hc : 0 ≤ col ∧ col < 128) (hq : 0 ≤ q ∧ q < 512) : Calls Try.prog 68 #[pv, v.val, .int .i64 col, .int .i64 q] w fun e w' =>
    e = .returned (aggI (rowK f v.wide col q)) ∧ Below w.heap.size w w' := by
  have hr := ViewV.Right_range hR
  have hq8 : q.tdiv 8 = q / 8 := Int.tdiv_eq_ediv_of_nonneg hq.1
  have q0 : 0 ≤ q / 8 ∧ q / 8 < 64 := by omega
  have m0 : 0 ≤ q / 8 * v.wide := Int.mul_nonneg q0.1 (by omega)
  have m1 : q / 8 * v.wide ≤ 64 * 128 := Int.mul_le_mul (by omega) (by omega) (by omega) (by omega)
  have e1 : IntKind.i64.wrap (q / 8 * v.wide) = q / 8 * v.wide := IntWalk.i64_in _ (by omega)
  have hf := hW.range (q / 8 * v.wide + col)
  unfold ViewV.val ViewV.cells rowK
  generalize hA : q / 8 * v.wide = AA at *
  go_enter Try.func68, Try.ntmps68
  go_wp2_with fail
  have A5 := Blk.alloc (Blk.alloc (Blk.new w #[Value.int .i64 v.wide, Value.int .i64 v.high, Value.int .i64 v.x, Value.int .i64 v.y] 42) (Obj.cells (cellsI (zeros 8)) 118)) (Obj.cells (cellsI (zeros 8)) 118)
  have A8 := Blk.alloc (Blk.new' (w.alloc (Obj.cells #[Value.int .i64 v.wide, Value.int .i64 v.high, Value.int .i64 v.x, Value.int .i64 v.y] 42)) (n := w.heap.size + 1) (cellsI (zeros 8)) 118 (by simp)) (Obj.cells (cellsI (zeros 8)) 118)
  have A9 : BlkL (Value.int .i64) _ (w.heap.size + 1 + 1) (zeros 8) 118 := Blk.new' ((w.alloc (Obj.cells #[Value.int .i64 v.wide, Value.int .i64 v.high, Value.int .i64 v.x, Value.int .i64 v.y] 42)).alloc (Obj.cells (cellsI (zeros 8)) 118)) (n := w.heap.size + 1 + 1) (cellsI (zeros 8)) 118 (by simp)
  have B3 := (((Below.refl w.heap.size w).alloc (Nat.le_refl _) (Obj.cells #[Value.int .i64 v.wide, Value.int .i64 v.high, Value.int .i64 v.x, Value.int .i64 v.y] 42)).alloc (by simp) (Obj.cells (cellsI (zeros 8)) 118)).alloc (by simp; omega) (Obj.cells (cellsI (zeros 8)) 118)
  change Calls _ _ _ (((w.alloc (Obj.cells #[Value.int .i64 v.wide, Value.int .i64 v.high, Value.int .i64 v.x, Value.int .i64 v.y] 42)).alloc (Obj.cells (cellsI (zeros 8)) 118)).alloc (Obj.cells (cellsI (zeros 8)) 118)) _
  generalize (((w.alloc (Obj.cells #[Value.int .i64 v.wide, Value.int .i64 v.high, Value.int .i64 v.x, Value.int .i64 v.y] 42)).alloc (Obj.cells (cellsI (zeros 8)) 118)).alloc (Obj.cells (cellsI (zeros 8)) 118)) = w3 at *
  have HW := hW.below B3
  have l5 := A5.lt
  have l8 := A8.lt
  have l9 := A9.lt
  refine (HW.call _ (Below.refl _ _) _).mono ?_; rintro e wx ⟨rfl, rfl⟩
  have hfc : 0 ≤ f (AA + col) ∧ f (AA + col) < 65536 := hW.range _
  generalize hcell : f (AA + col) = cell at *
  have HCell := Lib.hid hcell
  clear hcell
  have m2 : 0 ≤ cell % 4096 * 16 + q % 8 ∧ cell % 4096 * 16 + q % 8 < 65536 := by omega
  go_wp2_with fail
  refine (HW.call _ (Below.refl _ _) _).mono ?_; rintro e wx ⟨rfl, rfl⟩
  go_wp2_with fail
  refine (HW.call _ (Below.refl _ _) _).mono ?_; rintro e wx ⟨rfl, rfl⟩
  have hC : ∀ k, pixC f cell q k = bitI (f (cell % 4096 * 16 + q % 8)) k + 2 * bitI (f (cell % 4096 * 16 + q % 8)) (k + 8) + 4 * bitI (f (cell % 4096 * 16 + q % 8 + 8)) k + 8 * bitI (f (cell % 4096 * 16 + q % 8 + 8)) (k + 8) := fun k => rfl
  generalize f (cell % 4096 * 16 + q % 8) = a at *
  generalize f (cell % 4096 * 16 + q % 8 + 8) = b at *
  have HC := Lib.hid hC
  clear hC
  go_wp2_with fail
  go_loopw [39] (fun i wr => ∃ j : Nat, j ≤ 8 ∧ i = .int .i64 j ∧ BlkL (Value.int .i64) wr (w.heap.size + 1 + 1) (rowTo f cell q j) 118 ∧ Blk wr (w.heap.size + 1) (cellsI (zeros 8)) 118 ∧ Below w.heap.size w wr) (fun i _ => 8 - (intOf i).toNat)
  case atStart => exact ⟨0, by omega, rfl, by rw [rowTo_zero]; exact A9, A8, B3⟩
  case round =>
    obtain ⟨j, hj, rfl, A, A', B⟩ := hrel
    by_cases hlt : j < 8
    · have d1 : decide ((j : Int) < 8) = true := by simp; omega
      have h7 : IntKind.i64.wrap (7 - (j : Int)) = 7 - (j : Int) := IntWalk.i64_in _ (by omega)
      have h15 : IntKind.i64.wrap (7 - (j : Int) + 8) = 7 - (j : Int) + 8 := IntWalk.i64_in _ (by omega)
      have hC := HC.out (7 - (j : Int))
      have HC2 := Lib.hid (HC.out (7 - (j : Int)))
      have r0 := bitI_range a (7 - (j : Int))
      have r1 := bitI_range a (7 - (j : Int) + 8)
      have r2 := bitI_range b (7 - (j : Int))
      have r3 := bitI_range b (7 - (j : Int) + 8)
      have o4 := Lib.hid (or_four _ _ _ _ r0 r1 r2 r3)
      clear hC
      go_wp2_with fail
      refine (bits_Bit _ _ _).mono ?_; rintro e wx ⟨rfl, rfl⟩
      generalize bitI a (7 - (j : Int)) = b0 at *
      go_wp2_with fail
      refine (bits_Bit _ _ _).mono ?_; rintro e wx ⟨rfl, rfl⟩
      generalize bitI a (7 - (j : Int) + 8) = b1 at *
      go_wp2_with fail
      refine (bits_Bit _ _ _).mono ?_; rintro e wx ⟨rfl, rfl⟩
      generalize bitI b (7 - (j : Int)) = b2 at *
      go_wp2_with fail
      refine (bits_Bit _ _ _).mono ?_; rintro e wx ⟨rfl, rfl⟩
      generalize bitI b (7 - (j : Int) + 8) = b3 at *
      have o5 := o4.out.trans HC2.out.symm
      clear o4 HC2 HC
      have rc := pixC_range f cell q (7 - (j : Int))
      have cl := A.free j
      have ca := A.at (i := j) (by rw [rowTo_length]; exact hlt)
      have hset := A.set (i := j) (pixV f cell q (7 - (j : Int)))
      rw [rowTo_set f cell q j hlt] at hset
      have hskip := rowTo_skip f cell q j hlt
      have hp0 : pixC f cell q (7 - (j : Int)) = 0 → pixV f cell q (7 - (j : Int)) = 0 := fun h => by unfold pixV; rw [if_pos h]
      have hp1 : pixC f cell q (7 - (j : Int)) ≠ 0 → pixV f cell q (7 - (j : Int)) = cell / 4096 * 16 + pixC f cell q (7 - (j : Int)) := fun h => by unfold pixV; rw [if_neg h]
      generalize pixC f cell q (7 - (j : Int)) = c at *
      generalize pixV f cell q (7 - (j : Int)) = pv1 at *
      by_cases hc0 : c = 0
      · subst hc0
        have hA2 := hskip (hp0 rfl)
        have HA2 := Lib.hid hA2
        clear hskip hp0 hp1 hset hA2
        go_wp2
        go_roundw
        case rel => exact ⟨j + 1, by omega, rfl, by rw [HA2.out]; exact A, A', B⟩
        case measure => simp [intOf]; omega
      · have hb : (c != 0) = true := by simpa using hc0
        have hor : bits .or .i64 (cell / 4096 * 16) c = cell / 4096 * 16 + c := by
          exact or_join64 4 (cell / 4096 * 16) c (by omega) (by omega) rc.1 (by simp; omega) (by omega) (by simp)
        rw [hp1 hc0] at hset
        clear hskip hp0 hp1 hc0
        go_wp2
        go_roundw
        case rel => exact ⟨j + 1, by omega, rfl, hset, A'.other _ (by omega), B.setCell (by simp; omega) _⟩
        case measure => simp [intOf]; omega
    · obtain rfl : j = 8 := by omega
      have hinf : (Try.prog.info? 118).map (·.size) = some (cellsI (rowTo f cell q 8)).size := by rw [cellsI_size, rowTo_length]; exact t8
      have hzc : (cellsI (zeros 8)).size = (cellsI (rowTo f cell q 8)).size := by rw [cellsI_size, cellsI_size, rowTo_length, zeros_length]
      have H1 := Lib.hid hinf
      have H2 := Lib.hid hzc
      have H3 := Lib.hid (cellsI_one (rowTo f cell q 8))
      clear hinf hzc
      go_wp2_with (first
        | (refine wpList_load_row rfl 118 _ rfl (w.heap.size + 1 + 1) rfl 118 (cellsI (rowTo f cell q 8)) (0, 0) _ A Try.underlying118 rfl H1.out ?_)
        | (refine wpList_store_row rfl 118 _ _ rfl (w.heap.size + 1) (cellsI (rowTo f cell q 8)) rfl rfl 118 _ A' H1.out H2.out H3.out ?_))
      refine ret_row rfl rfl (Blk.setRow A' _) Try.underlying118 rfl H1.out rfl ?_
      rw [HCell.out]
      exact ⟨rfl, below_setRow B (by omega) _⟩
end Go.Proofs.Ytlhnfllfankjhaa
