/- Contracts: words moved, here and in the reference. -/
import Derived.Test.YtlhnfllfankjhaaVramE
import Derived.Test.YtlhnfllfankjhaaDmaLaws
namespace Go.Proofs.Ytlhnfllfankjhaa
open Go Go.RowKit
set_option linter.unusedSimpArgs false
set_option linter.unusedVariables false
set_option maxRecDepth 100000

theorem vram_none_nil (w : World) : Calls Try.prog 61 #[.pointer none] w fun e w' => e = .returned (.bool true) ∧ w = w' := by
  go_enter Try.func61, Try.ntmps61
  go_wp2
  go_ret
  exact ⟨rfl, rfl⟩
theorem vram_Word_nil (n : Int) (w : World) : Calls Try.prog 31 #[.pointer none, .int .i64 n] w fun e w' => e = .returned (.int .i64 0) ∧ w = w' := by
  go_enter Try.func31, Try.ntmps31
  go_wp2_with fail
  refine (bits_Word n _).mono ?_; rintro e w' ⟨rfl, rfl⟩
  go_wp2_with fail
  refine (vram_none_nil _).mono ?_; rintro e w' ⟨rfl, rfl⟩
  go_wp2
  go_ret
  exact ⟨rfl, rfl⟩
theorem vram_Poke_nil (n x : Int) (w : World) : Calls Try.prog 27 #[.pointer none, .int .i64 n, .int .i64 x] w fun e w' => e = .returned (.tuple #[]) ∧ w = w' := by
  go_enter Try.func27, Try.ntmps27
  go_wp2_with fail
  refine (bits_Word n _).mono ?_; rintro e w' ⟨rfl, rfl⟩
  go_wp2_with fail
  refine (vram_none_nil _).mono ?_; rintro e w' ⟨rfl, rfl⟩
  go_wp2
  exact ⟨rfl, .tuple #[], by first | exact rfl | (unfold results; rfl) | kernel_rfl, rfl, rfl⟩
theorem vram_Words_nil (n x : Int) (w : World) : Calls Try.prog 44 #[.pointer none, .int .i64 n, .int .i64 x] w fun e w' => e = .returned (.slice none 0 0) ∧ w = w' := by
  go_enter Try.func44, Try.ntmps44
  go_wp2_with fail
  refine (vram_none_nil _).mono ?_; rintro e w' ⟨rfl, rfl⟩
  go_wp2
  go_ret
  exact ⟨rfl, rfl⟩

theorem dma_way (k c : Int) (g : Nat) (w : World) (hc : w.cell? ⟨g, 0, none⟩ = some (.int .i64 c)) : Calls Try.prog 63 #[.int .i64 k, .pointer (some ⟨g, 0, none⟩)] w fun e w' => e = .returned (.int .i64 (1 - 2 * bitI c k)) ∧ w = w' := by
  have hb := bitI_range c k
  go_enter Try.func63, Try.ntmps63
  go_wp2_with fail
  refine (bits_Bit c k _).mono ?_; rintro e w' ⟨rfl, rfl⟩
  go_wp2
  go_ret
  exact ⟨rfl, rfl⟩

theorem VAt.setRow {t : TypeId} {w : World} {p g b : Nat} {V : VS} (h : VAt t w p g V) (cs : Array Value) (hp : p ≠ b) (hg : g ≠ b) : VAt t (w.setRow b cs) p g V :=
  let ⟨R, h1, h2⟩ := h.obj
  ⟨⟨R, Blk.setRow_other h1 cs hp, Blk.setRow_other h2 cs hg⟩, h.ok, h.ne⟩

theorem mv_step (f a : Int) (k : Nat) : ((f + a * k) % 65536 + a) % 65536 = (f + a * ((k + 1 : Nat) : Int)) % 65536 := by
  have : a * ((k + 1 : Nat) : Int) = a * k + a := by push_cast; rw [Int.mul_add, Int.mul_one]
  rw [this]; omega

theorem dma_Move {w : World} {p g : Nat} {V : VS} (h : VAt 69 w p g V) (f t n c : Int) (m : Nat) (hm : n % 65536 = (m : Int)) : Calls Try.prog 29 #[.pointer (some ⟨p, 0, none⟩), .agg #[.int .i64 f, .int .i64 t], .int .i64 n, .int .i64 c] w fun e w' =>
    e = .returned (.agg #[.int .i64 ((f + (1 - 2 * bitI c 2) * ((m + 1 : Nat) : Int)) % 65536), .int .i64 ((t + (1 - 2 * bitI c 3) * ((m + 1 : Nat) : Int)) % 65536)]) ∧
      VAt 69 w' p g (mv V (1 - 2 * bitI c 2) (1 - 2 * bitI c 3) f t (m + 1)) ∧ Tr [g] w w' := by
  have hb2 := bitI_range c 2
  have hb3 := bitI_range c 3
  go_enter Try.func29, Try.ntmps29
  go_wp2_with fail
  have hv3 : VAt 69 (((w.alloc (Obj.cells #[Value.int IntKind.i64 f, Value.int IntKind.i64 t] 29)).alloc (Obj.cells #[Value.int IntKind.i64 c] 3)).alloc (Obj.cells #[Value.int IntKind.i64 0, Value.int IntKind.i64 0] 29)) p g V := h.below ((((Below.refl _ _).alloc (Nat.le_refl _) _).alloc (by simp) _).alloc (by simp; omega) _)
  have A5 : Blk (((w.alloc (Obj.cells #[Value.int IntKind.i64 f, Value.int IntKind.i64 t] 29)).alloc (Obj.cells #[Value.int IntKind.i64 c] 3)).alloc (Obj.cells #[Value.int IntKind.i64 0, Value.int IntKind.i64 0] 29)) w.heap.size _ _ := (Blk.alloc (Blk.alloc (Blk.new w #[Value.int IntKind.i64 f, Value.int IntKind.i64 t] 29) _) _)
  have A7 : Blk (((w.alloc (Obj.cells #[Value.int IntKind.i64 f, Value.int IntKind.i64 t] 29)).alloc (Obj.cells #[Value.int IntKind.i64 c] 3)).alloc (Obj.cells #[Value.int IntKind.i64 0, Value.int IntKind.i64 0] 29)) (w.heap.size + 1) _ _ := Blk.alloc (Blk.new' (w.alloc (Obj.cells #[Value.int IntKind.i64 f, Value.int IntKind.i64 t] 29)) #[Value.int IntKind.i64 c] 3 (by simp)) _
  have A8 : Blk (((w.alloc (Obj.cells #[Value.int IntKind.i64 f, Value.int IntKind.i64 t] 29)).alloc (Obj.cells #[Value.int IntKind.i64 c] 3)).alloc (Obj.cells #[Value.int IntKind.i64 0, Value.int IntKind.i64 0] 29)) (w.heap.size + 1 + 1) _ _ := Blk.new' ((w.alloc (Obj.cells #[Value.int IntKind.i64 f, Value.int IntKind.i64 t] 29)).alloc (Obj.cells #[Value.int IntKind.i64 c] 3)) #[Value.int IntKind.i64 0, Value.int IntKind.i64 0] 29 (by simp)
  have T3 : Tr [g] w (((w.alloc (Obj.cells #[Value.int IntKind.i64 f, Value.int IntKind.i64 t] 29)).alloc (Obj.cells #[Value.int IntKind.i64 c] 3)).alloc (Obj.cells #[Value.int IntKind.i64 0, Value.int IntKind.i64 0] 29)) := (((Tr.refl _ _).alloc _).alloc _).alloc _
  have l1 := h.lt
  generalize (((w.alloc (Obj.cells #[Value.int IntKind.i64 f, Value.int IntKind.i64 t] 29)).alloc (Obj.cells #[Value.int IntKind.i64 c] 3)).alloc (Obj.cells #[Value.int IntKind.i64 0, Value.int IntKind.i64 0] 29)) = w3 at *
  generalize hg5 : w.heap.size = g5 at *
  refine (dma_way 2 c _ _ (A7.cell 0)).mono ?_; rintro e w' ⟨rfl, rfl⟩
  go_wp2_with fail
  refine (dma_way 3 c _ _ (A7.cell 0)).mono ?_; rintro e w' ⟨rfl, rfl⟩
  generalize hA : 1 - 2 * bitI c 2 = sa at *
  generalize hB : 1 - 2 * bitI c 3 = sb at *
  have ha : -1 ≤ sa ∧ sa ≤ 1 := by omega
  have hb : -1 ≤ sb ∧ sb ≤ 1 := by omega
  have HA := Lib.hid hA
  have HB := Lib.hid hB
  clear hA hB hb2 hb3
  have a50 := A5.cell 0
  have a51 := A5.cell 1
  simp only [List.getElem?_toArray, List.getElem?_cons_zero, List.getElem?_cons_succ] at a50 a51
  go_wp2_with fail
  go_quiet ((go_at_call 60; exact quiet_same (bits_Word _ _)))
  have hv4 := hv3.drewN nq
  have A9 := Blk.drewN A8 nq
  have T4 := T3.drewN nq
  generalize w3.drewN nq = w4 at *
  clear A5 A7 A8 T3 hv3 a50 a51
  go_wp2_with fail
  refine (bits_Word n _).mono ?_; rintro e w' ⟨rfl, rfl⟩
  rw [hm]
  have hm6 : m < 65536 := by omega
  clear hm
  go_wp2_with fail
  go_loopw [12, 13, 28] (fun x y i wr => ∃ k : Nat, k ≤ m + 1 ∧ i = .int .i64 k ∧ x = .int .i64 ((f + sa * (k : Int)) % 65536) ∧ y = .int .i64 ((t + sb * (k : Int)) % 65536) ∧ VAt 69 wr p g (mv V sa sb f t k) ∧ Blk wr (g5 + 1 + 1) #[Value.int IntKind.i64 0, Value.int IntKind.i64 0] 29 ∧ Tr [g] w wr) (fun _ _ i _ => m + 1 - (intOf i).toNat)
  case atStart => exact ⟨0, by omega, rfl, by simp, by simp, hv4, A9, T4⟩
  case round =>
    obtain ⟨k, hk, rfl, rfl, rfl, hv, A, T⟩ := hrel
    by_cases hlt : k < m + 1
    · have d1 : decide ((k : Int) < (m : Int) + 1) = true := by simp; omega
      have hx := mv_step f sa k
      have hy := mv_step t sb k
      have HX := Lib.hid hx
      have HY := Lib.hid hy
      clear hx hy
      go_wp2_with fail
      refine (vram_Word hv _).mono ?_; rintro e w' ⟨rfl, rfl⟩
      go_wp2_with fail
      refine (vram_Poke hv _ _).mono ?_; rintro e w' ⟨rfl, hv', T'⟩
      have A' := Blk.tr A T' (by simp; omega)
      have T2 := T.trans T'
      have hv2 : VAt 69 w' p g (mv V sa sb f t (k + 1)) := by
        rw [mv_succ, ← VS.poke_mod, ← VS.word_mod]; exact hv'
      clear hv hv' A T T'
      have x0 : 0 ≤ (f + sa * (k : Int)) % 65536 ∧ (f + sa * (k : Int)) % 65536 < 65536 := by omega
      have y0 : 0 ≤ (t + sb * (k : Int)) % 65536 ∧ (t + sb * (k : Int)) % 65536 < 65536 := by omega
      generalize (f + sa * (k : Int)) % 65536 = x at *
      generalize (t + sb * (k : Int)) % 65536 = y at *
      go_wp2_with fail
      refine (bits_Word (x + sa) _).mono ?_; rintro e w' ⟨rfl, rfl⟩
      go_wp2_with fail
      refine (bits_Word (y + sb) _).mono ?_; rintro e w' ⟨rfl, rfl⟩
      rw [HX.out, HY.out]
      clear HX HY
      go_wp2
      go_roundw
      case rel => exact ⟨k + 1, by omega, rfl, rfl, rfl, hv2, A', T2⟩
      case measure => simp [intOf]; omega
    · obtain rfl : k = m + 1 := by omega
      have d1 : decide (((m + 1 : Nat) : Int) < (m : Int) + 1) = false := by simp
      go_wp2_with (first
        | (refine wpList_store_row rfl 29 _ _ rfl (g5 + 1 + 1) (#[Value.int IntKind.i64 ((f + sa * ((m + 1 : Nat) : Int)) % 65536), Value.int IntKind.i64 ((t + sb * ((m + 1 : Nat) : Int)) % 65536)]) rfl rfl 29 _ A (by kernel_rfl) rfl (by simp [Value.oneCell']) ?_))
      refine ret_row rfl rfl (Blk.setRow A _) Try.underlying29 rfl rfl rfl ?_
      rw [HA.out, HB.out]
      exact ⟨rfl, hv.setRow _ (by omega) (by omega), T.setRow (by omega) _⟩

end Go.Proofs.Ytlhnfllfankjhaa
