/- The walk of DmaFills. -/
import Derived.Test.YtlhnfllfankjhaaTwo
import Derived.Test.YtlhnfllfankjhaaEqA
namespace Go.Proofs.Ytlhnfllfankjhaa
open Go Go.RowKit
set_option linter.unusedSimpArgs false
set_option linter.unusedVariables false
set_option maxRecDepth 100000

theorem dma_Move_0 {w : World} {p g : Nat} {V : VS} (h : VAt 69 w p g V) (f t n : Int) (m : Nat) (hm : n % 65536 = (m : Int)) : Calls Try.prog 29 #[.pointer (some ⟨p, 0, none⟩), .agg #[.int .i64 f, .int .i64 t], .int .i64 n, .int .i64 0] w fun e w' =>
    e = .returned (.agg #[.int .i64 ((f + ((m + 1 : Nat) : Int)) % 65536), .int .i64 ((t + ((m + 1 : Nat) : Int)) % 65536)]) ∧ VAt 69 w' p g (mv V 1 1 f t (m + 1)) ∧ Tr [g] w w' := by
  have := dma_Move h f t n 0 m hm
  rw [show bitI 0 2 = 0 by decide, show bitI 0 3 = 0 by decide, show (1 : Int) - 2 * 0 = 1 from rfl, Int.one_mul] at this
  exact this
theorem dma_Move_8 {w : World} {p g : Nat} {V : VS} (h : VAt 69 w p g V) (f t n : Int) (m : Nat) (hm : n % 65536 = (m : Int)) : Calls Try.prog 29 #[.pointer (some ⟨p, 0, none⟩), .agg #[.int .i64 f, .int .i64 t], .int .i64 n, .int .i64 8] w fun e w' =>
    e = .returned (.agg #[.int .i64 ((f + ((m + 1 : Nat) : Int)) % 65536), .int .i64 ((t - ((m + 1 : Nat) : Int)) % 65536)]) ∧ VAt 69 w' p g (mv V 1 (-1) f t (m + 1)) ∧ Tr [g] w w' := by
  have := dma_Move h f t n 8 m hm
  rw [show bitI 8 2 = 0 by decide, show bitI 8 3 = 1 by decide, show (1 : Int) - 2 * 0 = 1 from rfl, show (1 : Int) - 2 * 1 = -1 from rfl, Int.one_mul, Int.neg_mul, Int.one_mul, ← Int.sub_eq_add_neg] at this
  exact this

set_option maxHeartbeats 4000000 in
theorem dmaFills_walk (x at' n : Int) (w : World) :
    Calls Try.prog 5 #[.int .i64 x, .int .i64 at', .int .i64 n] w fun e w' => e = .returned (.bool true) ∧ Below w.heap.size w w' := by
  obtain ⟨m, hm⟩ : ∃ m : Nat, n % 256 = (m : Int) := ⟨(n % 256).toNat, by omega⟩
  have hm8 : m < 256 := by omega
  have hm6 : (m : Int) % 65536 = (m : Int) := by omega
  have HM6 := Lib.hid hm6
  clear hm6
  go_enter Try.func5, Try.ntmps5
  go_wp2_with fail
  refine (vram_New _).mono ?_; rintro e w1 ⟨p, g, rfl, hx, hb1, hp, hg⟩
  generalize hA : at' % 16384 = pa at *
  have pa0 : 0 ≤ pa ∧ pa < 16384 := by omega
  clear hA
  go_wp2_with fail
  refine (vram_Poke hx _ _).mono ?_; rintro e w2 ⟨rfl, hx2, t2⟩
  have B2 := Tr.below hb1 t2 (Nat.le_refl _) (by simp; exact hg)
  clear hx t2
  go_wp2_with fail
  refine (dma_Move_0 hx2 _ _ _ m HM6.out).mono ?_; rintro e w3 ⟨rfl, hx3, t3⟩
  have B3 := Tr.below B2 t3 (Nat.le_refl _) (by simp; exact hg)
  have e1 : (pa + ((m + 1 : Nat) : Int)) % 65536 = pa + m + 1 := by omega
  have e2 : (pa + 1 + ((m + 1 : Nat) : Int)) % 65536 = pa + m + 2 := by omega
  rw [e1, e2]
  have hf : ∀ j : Nat, j ≤ m + 1 → (mv (VS.new.poke pa x) 1 1 pa (pa + 1) (m + 1)).word (pa + j) = x % 65536 := fun j hj => fill_in VS.Ok.new pa x pa0.1 pa0.2 (m + 1) (by omega) j hj
  have hz : (mv (VS.new.poke pa x) 1 1 pa (pa + 1) (m + 1)).word (pa + m + 2) = 0 := by
    have := fill_out pa x pa0.1 pa0.2 (m + 1) (by omega)
    rw [show pa + (m : Int) + 2 = pa + ((m + 1 : Nat) : Int) + 1 by omega]; exact this
  generalize mv (VS.new.poke pa x) 1 1 pa (pa + 1) (m + 1) = V at *
  have HF := Lib.hid hf
  have HZ := Lib.hid hz
  clear hf hz e1 e2 hm hx2 B2 hb1
  have l3 := hx3.lt
  have Z := Blk.new w3 #[Value.int .i64 0, Value.int .i64 0] 29
  have x4 := (hx3.below ((Below.refl _ _).alloc (Nat.le_refl _) (Obj.cells #[Value.int .i64 0, Value.int .i64 0] 29))).setRow (b := w3.heap.size) #[Value.int .i64 (pa + m + 1), Value.int .i64 (pa + m + 2)] (by omega) (by omega)
  have E4 := Blk.setRow Z #[Value.int .i64 (pa + m + 1), Value.int .i64 (pa + m + 2)]
  have B4 := below_setRow (B3.alloc B3.size (Obj.cells #[Value.int .i64 0, Value.int .i64 0] 29)) B3.size #[Value.int .i64 (pa + m + 1), Value.int .i64 (pa + m + 2)]
  go_wp2_with (first
    | (refine wpList_store_row rfl 29 _ _ rfl w3.heap.size (#[Value.int .i64 (pa + m + 1), Value.int .i64 (pa + m + 2)]) rfl rfl 29 _ Z (by kernel_rfl) rfl (by simp [Value.oneCell']) ?_))
  generalize ((w3.alloc (Obj.cells #[Value.int .i64 0, Value.int .i64 0] 29)).setRow w3.heap.size #[Value.int .i64 (pa + m + 1), Value.int .i64 (pa + m + 2)]) = w4 at *
  generalize hge : w3.heap.size = ge at *
  clear hge Z hx3 B3 t3
  go_loopw [9] (fun i wr => ∃ k : Nat, k ≤ m + 2 ∧ i = .int .i64 k ∧ w4 = wr) (fun i _ => m + 2 - (intOf i).toNat)
  case atStart => exact ⟨0, by omega, rfl, rfl⟩
  case round =>
    obtain ⟨k, hk, rfl, rfl⟩ := hrel
    by_cases hlt : k < m + 2
    · have d1 : (k : Int) ≤ (m : Int) + 1 := by omega
      go_wp2_with fail
      refine (vram_Word x4 _).mono ?_; rintro e w' ⟨rfl, rfl⟩
      rw [HF.out k (by omega)]
      go_wp2
      go_roundw
      case rel => exact ⟨k + 1, by omega, rfl, trivial⟩
      case measure => simp [intOf]; omega
    · obtain rfl : k = m + 2 := by omega
      have hq := eq_pair (pa + m + 1) (pa + m + 2) (pa + m + 1) (pa + m + 2)
      have d1 : ¬ ((m + 2 : Nat) : Int) ≤ (m : Int) + 1 := by omega
      go_wp2_with (first
        | (refine wpList_load_row rfl 29 _ rfl ge rfl 29 #[Value.int .i64 (pa + m + 1), Value.int .i64 (pa + m + 2)] (0, 0) _ E4 Try.underlying29 rfl (by kernel_rfl) ?_))
      refine (vram_Word x4 _).mono ?_; rintro e w' ⟨rfl, rfl⟩
      rw [HZ.out]
      go_wp2
      go_ret
      exact ⟨rfl, B4⟩
end Go.Proofs.Ytlhnfllfankjhaa
