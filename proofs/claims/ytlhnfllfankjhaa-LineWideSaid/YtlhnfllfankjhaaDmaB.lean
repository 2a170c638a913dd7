/- Contracts: words moved where there is no video memory; the reference's; the sprites' table. -/
import Derived.Test.YtlhnfllfankjhaaDma
namespace Go.Proofs.Ytlhnfllfankjhaa
open Go Go.RowKit
set_option linter.unusedSimpArgs false
set_option linter.unusedVariables false
set_option maxRecDepth 100000

theorem dma_Move_nil {w : World} (f t n c : Int) (m : Nat) (hm : n % 65536 = (m : Int)) : Calls Try.prog 29 #[.pointer none, .agg #[.int .i64 f, .int .i64 t], .int .i64 n, .int .i64 c] w fun e w' =>
    e = .returned (.agg #[.int .i64 ((f + (1 - 2 * bitI c 2) * ((m + 1 : Nat) : Int)) % 65536), .int .i64 ((t + (1 - 2 * bitI c 3) * ((m + 1 : Nat) : Int)) % 65536)]) ∧ Tr [] w w' := by
  have hb2 := bitI_range c 2
  have hb3 := bitI_range c 3
  go_enter Try.func29, Try.ntmps29
  go_wp2_with fail
  have A5 : Blk (((w.alloc (Obj.cells #[Value.int IntKind.i64 f, Value.int IntKind.i64 t] 29)).alloc (Obj.cells #[Value.int IntKind.i64 c] 3)).alloc (Obj.cells #[Value.int IntKind.i64 0, Value.int IntKind.i64 0] 29)) w.heap.size _ _ := (Blk.alloc (Blk.alloc (Blk.new w #[Value.int IntKind.i64 f, Value.int IntKind.i64 t] 29) _) _)
  have A7 : Blk (((w.alloc (Obj.cells #[Value.int IntKind.i64 f, Value.int IntKind.i64 t] 29)).alloc (Obj.cells #[Value.int IntKind.i64 c] 3)).alloc (Obj.cells #[Value.int IntKind.i64 0, Value.int IntKind.i64 0] 29)) (w.heap.size + 1) _ _ := Blk.alloc (Blk.new' (w.alloc (Obj.cells #[Value.int IntKind.i64 f, Value.int IntKind.i64 t] 29)) #[Value.int IntKind.i64 c] 3 (by simp)) _
  have A8 : Blk (((w.alloc (Obj.cells #[Value.int IntKind.i64 f, Value.int IntKind.i64 t] 29)).alloc (Obj.cells #[Value.int IntKind.i64 c] 3)).alloc (Obj.cells #[Value.int IntKind.i64 0, Value.int IntKind.i64 0] 29)) (w.heap.size + 1 + 1) _ _ := Blk.new' ((w.alloc (Obj.cells #[Value.int IntKind.i64 f, Value.int IntKind.i64 t] 29)).alloc (Obj.cells #[Value.int IntKind.i64 c] 3)) #[Value.int IntKind.i64 0, Value.int IntKind.i64 0] 29 (by simp)
  have T3 : Tr [] w (((w.alloc (Obj.cells #[Value.int IntKind.i64 f, Value.int IntKind.i64 t] 29)).alloc (Obj.cells #[Value.int IntKind.i64 c] 3)).alloc (Obj.cells #[Value.int IntKind.i64 0, Value.int IntKind.i64 0] 29)) := (((Tr.refl _ _).alloc _).alloc _).alloc _
  generalize (((w.alloc (Obj.cells #[Value.int IntKind.i64 f, Value.int IntKind.i64 t] 29)).alloc (Obj.cells #[Value.int IntKind.i64 c] 3)).alloc (Obj.cells #[Value.int IntKind.i64 0, Value.int IntKind.i64 0] 29)) = w3 at *
  generalize hg5 : w.heap.size = g5 at *
  refine (dma_way 2 c _ _ (A7.cell 0)).mono ?_; rintro e w' ⟨rfl, rfl⟩
  go_wp2_with fail
  refine (dma_way 3 c _ _ (A7.cell 0)).mono ?_; rintro e w' ⟨rfl, rfl⟩
  generalize hA : 1 - 2 * bitI c 2 = sa at *
  generalize hB : 1 - 2 * bitI c 3 = sb at *
  have ha : -1 ≤ sa ∧ sa ≤ 1 := by omega
  have hb : -1 ≤ sb ∧ sb ≤ 1 := by omega
  have HA := Lib.hid hA
  have HB := Lib.hid hB
  clear hA hB hb2 hb3
  have a50 := A5.cell 0
  have a51 := A5.cell 1
  simp only [List.getElem?_toArray, List.getElem?_cons_zero, List.getElem?_cons_succ] at a50 a51
  go_wp2_with fail
  go_quiet ((go_at_call 60; exact quiet_same (bits_Word _ _)))
  have A9 := Blk.drewN A8 nq
  have T4 := T3.drewN nq
  generalize w3.drewN nq = w4 at *
  clear A5 A7 A8 T3 a50 a51
  go_wp2_with fail
  refine (bits_Word n _).mono ?_; rintro e w' ⟨rfl, rfl⟩
  rw [hm]
  have hm6 : m < 65536 := by omega
  clear hm
  go_wp2_with fail
  go_loopw [12, 13, 28] (fun x y i wr => ∃ k : Nat, k ≤ m + 1 ∧ i = .int .i64 k ∧ x = .int .i64 ((f + sa * (k : Int)) % 65536) ∧ y = .int .i64 ((t + sb * (k : Int)) % 65536) ∧ Blk wr (g5 + 1 + 1) #[Value.int IntKind.i64 0, Value.int IntKind.i64 0] 29 ∧ Tr [] w wr) (fun _ _ i _ => m + 1 - (intOf i).toNat)
  case atStart => exact ⟨0, by omega, rfl, by simp, by simp, A9, T4⟩
  case round =>
    obtain ⟨k, hk, rfl, rfl, rfl, A, T⟩ := hrel
    by_cases hlt : k < m + 1
    · have d1 : decide ((k : Int) < (m : Int) + 1) = true := by simp; omega
      have hx := mv_step f sa k
      have hy := mv_step t sb k
      have HX := Lib.hid hx
      have HY := Lib.hid hy
      clear hx hy
      go_wp2_with fail
      refine (vram_Word_nil _ _).mono ?_; rintro e w' ⟨rfl, rfl⟩
      go_wp2_with fail
      refine (vram_Poke_nil _ _ _).mono ?_; rintro e w' ⟨rfl, rfl⟩
      have x0 : 0 ≤ (f + sa * (k : Int)) % 65536 ∧ (f + sa * (k : Int)) % 65536 < 65536 := by omega
      have y0 : 0 ≤ (t + sb * (k : Int)) % 65536 ∧ (t + sb * (k : Int)) % 65536 < 65536 := by omega
      generalize (f + sa * (k : Int)) % 65536 = x at *
      generalize (t + sb * (k : Int)) % 65536 = y at *
      go_wp2_with fail
      refine (bits_Word (x + sa) _).mono ?_; rintro e w' ⟨rfl, rfl⟩
      go_wp2_with fail
      refine (bits_Word (y + sb) _).mono ?_; rintro e w' ⟨rfl, rfl⟩
      rw [HX.out, HY.out]
      clear HX HY
      go_wp2
      go_roundw
      case rel => exact ⟨k + 1, by omega, rfl, rfl, rfl, A, T⟩
      case measure => simp [intOf]; omega
    · obtain rfl : k = m + 1 := by omega
      have d1 : decide (((m + 1 : Nat) : Int) < (m : Int) + 1) = false := by simp
      go_wp2_with (first
        | (refine wpList_store_row rfl 29 _ _ rfl (g5 + 1 + 1) (#[Value.int IntKind.i64 ((f + sa * ((m + 1 : Nat) : Int)) % 65536), Value.int IntKind.i64 ((t + sb * ((m + 1 : Nat) : Int)) % 65536)]) rfl rfl 29 _ A (by kernel_rfl) rfl (by simp [Value.oneCell']) ?_))
      refine ret_row rfl rfl (Blk.setRow A _) Try.underlying29 rfl rfl rfl ?_
      rw [HA.out, HB.out]
      exact ⟨rfl, T.setRow (by omega) _⟩

theorem pow_le62 (j : Nat) (hj : j ≤ 62) : (1 : Int) ≤ 2 ^ j ∧ (2 : Int) ^ j ≤ 4611686018427387904 := by
  have h1 : (2 : Nat) ^ j ≤ 2 ^ 62 := Nat.pow_le_pow_right (by omega) hj
  have h2 : 1 ≤ (2 : Nat) ^ j := Nat.one_le_two_pow
  have e : ((2 : Int) ^ j) = ((2 ^ j : Nat) : Int) := by simp
  rw [e]; omega
theorem ref01_Power (k : Nat) (hk : k ≤ 62) (w : World) : Calls Try.prog 89 #[.int .i64 (k : Int)] w fun e w' => e = .returned (.int .i64 (2 ^ k)) ∧ w = w' := by
  go_enter Try.func89, Try.ntmps89
  go_wp2_with fail
  go_loopw [3, 4] (fun x i wr => ∃ j : Nat, j ≤ k ∧ i = .int .i64 j ∧ x = .int .i64 (2 ^ j) ∧ w = wr) (fun _ i _ => k - (intOf i).toNat)
  case atStart => exact ⟨0, by omega, rfl, rfl, rfl⟩
  case round =>
    obtain ⟨j, hj, rfl, rfl, rfl⟩ := hrel
    by_cases hlt : j < k
    · have d1 : decide ((j : Int) < (k : Int)) = true := by simpa using hlt
      have hp := pow_le62 (j + 1) (by omega)
      rw [Int.pow_succ] at hp
      have hw : IntKind.i64.wrap (2 ^ j * 2) = 2 ^ (j + 1) := by rw [IntWalk.i64_in _ (by omega), Int.pow_succ]
      have hw2 : wrap64 (2 ^ j * 2) = 2 ^ (j + 1) := by rw [w64_in (by omega), Int.pow_succ]
      clear hp
      go_wp2
      go_roundw
      case rel => exact ⟨j + 1, by omega, rfl, rfl, trivial⟩
      case measure => simp [intOf]; omega
    · obtain rfl : j = k := by omega
      have d1 : decide ((j : Int) < (j : Int)) = false := by simp
      go_wp2
      go_ret
      exact ⟨rfl, rfl⟩

theorem bitI_mod (n : Int) (k : Nat) (hk : k ≤ 15) : n % 65536 / 2 ^ k % 2 = n / 2 ^ k % 2 := by
  rcases (show k = 0 ∨ k = 1 ∨ k = 2 ∨ k = 3 ∨ k = 4 ∨ k = 5 ∨ k = 6 ∨ k = 7 ∨ k = 8 ∨ k = 9 ∨ k = 10 ∨ k = 11 ∨ k = 12 ∨ k = 13 ∨ k = 14 ∨ k = 15 by omega) with rfl | rfl | rfl | rfl | rfl | rfl | rfl | rfl | rfl | rfl | rfl | rfl | rfl | rfl | rfl | rfl <;> simp <;> omega

theorem ref01_Bit (n k : Int) (hn : -9223372036854775808 ≤ n ∧ n ≤ 9223372036854775807) (w : World) : Calls Try.prog 69 #[.int .i64 n, .int .i64 k] w fun e w' => e = .returned (.int .i64 (bitI n k)) ∧ w = w' := by
  by_cases h0 : 0 ≤ k ∧ k ≤ 15
  · obtain ⟨j, rfl⟩ := Int.eq_ofNat_of_zero_le h0.1
    have hj : j ≤ 15 := by omega
    have e1 := bitI_mod n j hj
    have e2 : bitI n j = n / 2 ^ j % 2 := by unfold bitI; rw [if_pos h0, Int.toNat_natCast]
    rw [e2, ← e1]
    clear e1 e2
    have h1 : decide ((j : Int) < 0) = false := by simp
    have h2 : decide (15 < (j : Int)) = false := by simp; omega
    have hp := pow_le62 j (by omega)
    have hm : 0 ≤ n % 65536 ∧ n % 65536 < 65536 := by omega
    have hw1 : (n % 65536).tdiv (2 ^ j) = n % 65536 / 2 ^ j := Int.tdiv_eq_ediv_of_nonneg hm.1
    have hq0 : 0 ≤ n % 65536 / 2 ^ j := Int.ediv_nonneg hm.1 (by omega)
    have hq1 : n % 65536 / 2 ^ j ≤ n % 65536 := Int.ediv_le_self _ hm.1
    go_enter Try.func69, Try.ntmps69
    go_wp2_with fail
    refine (ref01_Word n hn _).mono ?_; rintro e w' ⟨rfl, rfl⟩
    go_wp2_with fail
    refine (ref01_Power j (by omega) _).mono ?_; rintro e w' ⟨rfl, rfl⟩
    go_wp2
    go_ret
    exact ⟨rfl, rfl⟩
  · have e : bitI n k = 0 := by unfold bitI; rw [if_neg h0]
    rw [e]
    rcases (show k < 0 ∨ 15 < k by omega) with h | h
    · go_enter Try.func69, Try.ntmps69
      go_wp2
      go_ret
      exact ⟨rfl, rfl⟩
    · go_enter Try.func69, Try.ntmps69
      go_wp2
      go_ret
      exact ⟨rfl, rfl⟩

theorem ref16_on (n c : Int) (k : Nat) (hk : k = 2 ∨ k = 3) (h0 : 0 ≤ n ∧ n < 65536) (hc : -9223372036854775808 ≤ c ∧ c ≤ 9223372036854775807) (w : World) : Calls Try.prog 65 #[.int .i64 n, .int .i64 c, .int .i64 (k : Int)] w fun e w' =>
    e = .returned (.int .i64 ((n + (1 - 2 * bitI c k)) % 65536)) ∧ w = w' := by
  have hb := bitI_range c k
  rcases (show bitI c k = 0 ∨ bitI c k = 1 by omega) with h | h
  · rw [h]
    go_enter Try.func65, Try.ntmps65
    go_wp2_with fail
    refine (ref01_Bit c k hc _).mono ?_; rintro e w' ⟨rfl, rfl⟩
    rw [h]
    go_wp2_with fail
    refine (ref01_Word (n + 1) (by omega) _).mono ?_; rintro e w' ⟨rfl, rfl⟩
    go_wp2
    go_ret
    exact ⟨ret_int (by omega), rfl⟩
  · rw [h]
    go_enter Try.func65, Try.ntmps65
    go_wp2_with fail
    refine (ref01_Bit c k hc _).mono ?_; rintro e w' ⟨rfl, rfl⟩
    rw [h]
    go_wp2_with fail
    refine (ref01_Word (n - 1) (by omega) _).mono ?_; rintro e w' ⟨rfl, rfl⟩
    go_wp2
    go_ret
    exact ⟨ret_int (by omega), rfl⟩

theorem ref16_Move {w : World} {p g : Nat} {V : VS} (h : VAt 66 w p g V) (f t n c : Int) (hf : -9223372036854775808 ≤ f ∧ f ≤ 9223372036854775807) (ht : -9223372036854775808 ≤ t ∧ t ≤ 9223372036854775807)
    (hn : -9223372036854775808 ≤ n ∧ n ≤ 9223372036854775807) (hc : -9223372036854775808 ≤ c ∧ c ≤ 9223372036854775807) (m : Nat) (hm : n % 65536 = (m : Int)) :
    Calls Try.prog 30 #[.pointer (some ⟨p, 0, none⟩), .int .i64 f, .int .i64 t, .int .i64 n, .int .i64 c] w fun e w' =>
    e = .returned (.tuple #[.int .i64 ((f + (1 - 2 * bitI c 2) * ((m + 1 : Nat) : Int)) % 65536), .int .i64 ((t + (1 - 2 * bitI c 3) * ((m + 1 : Nat) : Int)) % 65536)]) ∧
      VAt 66 w' p g (mv V (1 - 2 * bitI c 2) (1 - 2 * bitI c 3) f t (m + 1)) ∧ Tr [g] w w' := by
  have hb2 := bitI_range c 2
  have hb3 := bitI_range c 3
  go_enter Try.func30, Try.ntmps30
  go_wp2_with fail
  refine (ref01_Word f hf _).mono ?_; rintro e w' ⟨rfl, rfl⟩
  go_wp2_with fail
  refine (ref01_Word t ht _).mono ?_; rintro e w' ⟨rfl, rfl⟩
  go_wp2_with fail
  refine (ref01_Word n hn _).mono ?_; rintro e w' ⟨rfl, rfl⟩
  rw [hm]
  have hm6 : m < 65536 := by omega
  clear hm
  generalize hA : 1 - 2 * bitI c 2 = sa at *
  generalize hB : 1 - 2 * bitI c 3 = sb at *
  have HA := Lib.hid hA
  have HB := Lib.hid hB
  clear hA hB hb2 hb3
  go_wp2_with fail
  go_loopw [1, 2, 12] (fun x y i wr => ∃ k : Nat, k ≤ m + 1 ∧ i = .int .i64 k ∧ x = .int .i64 ((f + sa * (k : Int)) % 65536) ∧ y = .int .i64 ((t + sb * (k : Int)) % 65536) ∧ VAt 66 wr p g (mv V sa sb f t k) ∧ Tr [g] w wr) (fun _ _ i _ => m + 1 - (intOf i).toNat)
  case atStart => exact ⟨0, by omega, rfl, by simp, by simp, h, Tr.refl _ _⟩
  case round =>
    obtain ⟨k, hk, rfl, rfl, rfl, hv, T⟩ := hrel
    by_cases hlt : k < m + 1
    · have d1 : decide ((k : Int) < (m : Int) + 1) = true := by simp; omega
      have hx := mv_step f sa k
      have hy := mv_step t sb k
      have HX := Lib.hid hx
      have HY := Lib.hid hy
      clear hx hy
      have x0 : 0 ≤ (f + sa * (k : Int)) % 65536 ∧ (f + sa * (k : Int)) % 65536 < 65536 := by omega
      have y0 : 0 ≤ (t + sb * (k : Int)) % 65536 ∧ (t + sb * (k : Int)) % 65536 < 65536 := by omega
      have u0 := (mv_ok h.ok sa sb f t k).word ((f + sa * (k : Int)) % 65536)
      go_wp2_with fail
      refine (ref13_Word hv _ (by omega)).mono ?_; rintro e w' ⟨rfl, rfl⟩
      go_wp2_with fail
      refine (ref13_Poke hv _ _ (by omega) (by omega)).mono ?_; rintro e w' ⟨rfl, hv', T'⟩
      have T2 := T.trans T'
      have hv2 : VAt 66 w' p g (mv V sa sb f t (k + 1)) := by
        rw [mv_succ, ← VS.poke_mod, ← VS.word_mod]; exact hv'
      clear hv hv' T T' u0
      generalize (f + sa * (k : Int)) % 65536 = x at *
      generalize (t + sb * (k : Int)) % 65536 = y at *
      go_wp2_with fail
      refine (ref16_on x c 2 (.inl rfl) x0 hc _).mono ?_; rintro e w' ⟨rfl, rfl⟩
      go_wp2_with fail
      refine (ref16_on y c 3 (.inr rfl) y0 hc _).mono ?_; rintro e w' ⟨rfl, rfl⟩
      rw [show ((3 : Nat) : Int) = 3 from rfl, HA.out, HB.out, HX.out, HY.out]
      clear HX HY
      go_wp2
      go_roundw
      case rel => exact ⟨k + 1, by omega, rfl, rfl, rfl, hv2, T2⟩
      case measure => simp [intOf]; omega
    · obtain rfl : k = m + 1 := by omega
      have d1 : decide (((m + 1 : Nat) : Int) < (m : Int) + 1) = false := by simp
      go_wp2
      go_ret2
      rw [HA.out, HB.out]
      exact ⟨rfl, hv, T⟩

end Go.Proofs.Ytlhnfllfankjhaa
