/- Contracts: the four words of a sprite's row. -/
import Derived.Test.YtlhnfllfankjhaaSpV
import Derived.Test.YtlhnfllfankjhaaTiB
namespace Go.Proofs.Ytlhnfllfankjhaa
open Go Go.RowKit
set_option linter.unusedSimpArgs false
set_option linter.unusedVariables false
set_option maxRecDepth 100000

/-- The first j of the four words. -/
def planes (f : Int → Int) (a : Int) (j : Nat) : List Int := (List.range 4).map fun i : Nat => if i < j then f (a + 16 * i) else 0
theorem planes_length (f : Int → Int) (a : Int) (j : Nat) : (planes f a j).length = 4 := by simp [planes]
theorem planes_zero (f : Int → Int) (a : Int) : planes f a 0 = zeros 4 := by
  unfold planes zeros
  exact (by decide : (List.range 4).map (fun _ : Nat => (0 : Int)) = List.replicate 4 0)
theorem planes_set (f : Int → Int) (a : Int) (j : Nat) (hj : j < 4) : (planes f a j).set j (f (a + 16 * j)) = planes f a (j + 1) := by
  unfold planes
  apply List.ext_getElem
  · simp
  · intro i h1 h2
    simp [List.getElem_set] at h1 ⊢
    by_cases h : j = i
    · subst h; simp
    · rw [if_neg h]
      by_cases h' : i < j
      · rw [if_pos h', if_pos (by omega)]
      · rw [if_neg h', if_neg (by omega)]
theorem nth_planes (f : Int → Int) (a : Int) (i : Nat) (hi : i < 4) : nth 0 (planes f a 4) i = f (a + 16 * i) := by
  rw [nth_lt (by rw [planes_length]; exact hi)]; simp [planes]; intro h; omega
theorem t4i : (Try.prog.info? 23).map (·.size) = some 4 := by kernel_rfl
theorem t9o : (Try.prog.info? 88).map (·.size) = some 9 := by kernel_rfl

set_option maxHeartbeats 4000000 in
theorem sprites_words {w : World} {pv : Value} {f : Int → Int} (hW : Words w pv f) (s : SpV) (hs : s.In) (r c : Int) (hr : 0 ≤ r ∧ r < 64) (hc : 0 ≤ c ∧ c < 2) : Calls Try.prog 91 #[.agg s.cells, pv, .int .i64 r, .int .i64 c] w fun e w' =>
    e = .returned (aggI (planes f (s.place r c) 4)) ∧ Below w.heap.size w w' := by
  have A4 := Blk.alloc (Blk.alloc (Blk.new w s.cells 88) (Obj.cells (cellsI (zeros 4)) 23)) (Obj.cells (cellsI (zeros 4)) 23)
  have A8 := Blk.alloc (Blk.new' (w.alloc (Obj.cells s.cells 88)) (n := w.heap.size + 1) (cellsI (zeros 4)) 23 (by simp)) (Obj.cells (cellsI (zeros 4)) 23)
  have A9 : BlkL (Value.int .i64) _ (w.heap.size + 1 + 1) (zeros 4) 23 := Blk.new' ((w.alloc (Obj.cells s.cells 88)).alloc (Obj.cells (cellsI (zeros 4)) 23)) (n := w.heap.size + 1 + 1) (cellsI (zeros 4)) 23 (by simp)
  have B3 := (((Below.refl w.heap.size w).alloc (Nat.le_refl _) (Obj.cells s.cells 88)).alloc (by simp) (Obj.cells (cellsI (zeros 4)) 23)).alloc (by simp; omega) (Obj.cells (cellsI (zeros 4)) 23)
  have hC := hs.C
  have k2 : s.cells[2]? = some (.int .i64 s.C) := rfl
  have hpl : s.place r c = 64 * (s.C + r / 16 * 2 + c) + r % 16 := rfl
  have HPL := Lib.hid hpl
  clear hpl
  have hq8 : r.tdiv 16 = r / 16 := Int.tdiv_eq_ediv_of_nonneg hr.1
  have hq9 : r.tmod 16 = r % 16 := Int.tmod_eq_emod_of_nonneg hr.1
  go_enter Try.func91, Try.ntmps91
  go_wp2_with fail
  change Code.wp _ _ _ _ (((w.alloc (Obj.cells s.cells 88)).alloc (Obj.cells (cellsI (zeros 4)) 23)).alloc (Obj.cells (cellsI (zeros 4)) 23))
  generalize (((w.alloc (Obj.cells s.cells 88)).alloc (Obj.cells (cellsI (zeros 4)) 23)).alloc (Obj.cells (cellsI (zeros 4)) 23)) = w3 at *
  rw [← HPL.out]
  have ha : 0 ≤ s.place r c ∧ s.place r c < 100000 := by rw [HPL.out]; omega
  generalize hpa : s.place r c = a at *
  have HPA := Lib.hid hpa
  clear HPL k2 hpa
  go_loopw [24] (fun i wr => ∃ j : Nat, j ≤ 4 ∧ i = .int .i64 j ∧ BlkL (Value.int .i64) wr (w.heap.size + 1 + 1) (planes f a j) 23 ∧ Blk wr (w.heap.size + 1) (cellsI (zeros 4)) 23 ∧ Below w.heap.size w wr) (fun i _ => 4 - (intOf i).toNat)
  case atStart => exact ⟨0, by omega, rfl, by rw [planes_zero]; exact A9, A8, B3⟩
  case round =>
    obtain ⟨j, hj, rfl, A, A', B⟩ := hrel
    by_cases hlt : j < 4
    · have d1 : decide ((j : Int) < 4) = true := by simp; omega
      have fr := A.free j
      have hset := A.set (i := j) (f (a + 16 * j))
      rw [planes_set f a j hlt] at hset
      have hc0 := BlkL.at A (i := j) (by rw [planes_length]; exact hlt)
      have i1 : (j : Int) < 4 := by omega
      go_wp2_with fail
      refine ((hW.below B).call _ (Below.refl _ _) _).mono ?_; rintro e wx ⟨rfl, rfl⟩
      generalize f (a + 16 * (j : Int)) = z at *
      go_wp2
      go_roundw
      case rel => exact ⟨j + 1, by omega, rfl, hset, A'.other _ (by omega), B.setCell (by simp; omega) _⟩
      case measure => simp [intOf]; omega
    · obtain rfl : j = 4 := by omega
      have hinf : (Try.prog.info? 23).map (·.size) = some (cellsI (planes f a 4)).size := by rw [cellsI_size, planes_length]; exact t4i
      have hzc : (cellsI (zeros 4)).size = (cellsI (planes f a 4)).size := by rw [cellsI_size, cellsI_size, planes_length, zeros_length]
      have H1 := Lib.hid hinf
      have H2 := Lib.hid hzc
      have H3 := Lib.hid (cellsI_one (planes f a 4))
      clear hinf hzc
      go_wp2_with (first
        | (refine wpList_load_row rfl 23 _ rfl (w.heap.size + 1 + 1) rfl 23 (cellsI (planes f a 4)) (0, 0) _ A Try.underlying23 rfl H1.out ?_)
        | (refine wpList_store_row rfl 23 _ _ rfl (w.heap.size + 1) (cellsI (planes f a 4)) rfl rfl 23 _ A' H1.out H2.out H3.out ?_))
      refine ret_row rfl rfl (Blk.setRow A' _) Try.underlying23 rfl H1.out rfl ?_
      rw [HPA.out]
      exact ⟨rfl, below_setRow B (by omega) _⟩
end Go.Proofs.Ytlhnfllfankjhaa
