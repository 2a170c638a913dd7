/- Contracts of the program's functions, and what they rest on, part 2: each function's call returns what its plain form says; no condition but those typed. -/
import Derived.Test.YtnllkgjmoipgbaaGreatDoorK1
import Derived.Deep.RegionWith
import Derived.Deep.CutBlock
import Derived.WalkMore
import Derived.ProofKit
import Derived.OpenShut
import Derived.SizedLaws
import Derived.Deep.Slices
import Derived.Lib.SmallJoins
-- DmaB
namespace Go.Proofs.YtnllkgjmoipgbaaGreatDoor
open Go Go.RowKit
set_option linter.unusedSimpArgs false
set_option linter.unusedVariables false
set_option maxRecDepth 100000

theorem dma_Move_nil {w : World} (f t n c : Int) (m : Nat) (hm : n % 65536 = (m : Int)) : Calls Tryz.prog 207 #[.pointer none, .agg #[.int .i64 f, .int .i64 t], .int .i64 n, .int .i64 c] w fun e w' =>
    e = .returned (.agg #[.int .i64 ((f + (1 - 2 * bitI c 2) * ((m + 1 : Nat) : Int)) % 65536), .int .i64 ((t + (1 - 2 * bitI c 3) * ((m + 1 : Nat) : Int)) % 65536)]) ∧ Tr [] w w' := by
  have hb2 := bitI_range c 2
  have hb3 := bitI_range c 3
  go_enter Tryz.func207, Tryz.ntmps207
  go_wp2_with fail
  have A5 : Blk (((w.alloc (Obj.cells #[Value.int IntKind.i64 f, Value.int IntKind.i64 t] 109)).alloc (Obj.cells #[Value.int IntKind.i64 c] 3)).alloc (Obj.cells #[Value.int IntKind.i64 0, Value.int IntKind.i64 0] 109)) w.heap.size _ _ := (Blk.alloc (Blk.alloc (Blk.new w #[Value.int IntKind.i64 f, Value.int IntKind.i64 t] 109) _) _)
  have A7 : Blk (((w.alloc (Obj.cells #[Value.int IntKind.i64 f, Value.int IntKind.i64 t] 109)).alloc (Obj.cells #[Value.int IntKind.i64 c] 3)).alloc (Obj.cells #[Value.int IntKind.i64 0, Value.int IntKind.i64 0] 109)) (w.heap.size + 1) _ _ := Blk.alloc (Blk.new' (w.alloc (Obj.cells #[Value.int IntKind.i64 f, Value.int IntKind.i64 t] 109)) #[Value.int IntKind.i64 c] 3 (by simp)) _
  have A8 : Blk (((w.alloc (Obj.cells #[Value.int IntKind.i64 f, Value.int IntKind.i64 t] 109)).alloc (Obj.cells #[Value.int IntKind.i64 c] 3)).alloc (Obj.cells #[Value.int IntKind.i64 0, Value.int IntKind.i64 0] 109)) (w.heap.size + 1 + 1) _ _ := Blk.new' ((w.alloc (Obj.cells #[Value.int IntKind.i64 f, Value.int IntKind.i64 t] 109)).alloc (Obj.cells #[Value.int IntKind.i64 c] 3)) #[Value.int IntKind.i64 0, Value.int IntKind.i64 0] 109 (by simp)
  have T3 : Tr [] w (((w.alloc (Obj.cells #[Value.int IntKind.i64 f, Value.int IntKind.i64 t] 109)).alloc (Obj.cells #[Value.int IntKind.i64 c] 3)).alloc (Obj.cells #[Value.int IntKind.i64 0, Value.int IntKind.i64 0] 109)) := (((Tr.refl _ _).alloc _).alloc _).alloc _
  generalize (((w.alloc (Obj.cells #[Value.int IntKind.i64 f, Value.int IntKind.i64 t] 109)).alloc (Obj.cells #[Value.int IntKind.i64 c] 3)).alloc (Obj.cells #[Value.int IntKind.i64 0, Value.int IntKind.i64 0] 109)) = w3 at *
  generalize hg5 : w.heap.size = g5 at *
  refine (dma_way 2 c _ _ (A7.cell 0)).mono ?_; rintro e w' ⟨rfl, rfl⟩
  go_wp2_with fail
  refine (dma_way 3 c _ _ (A7.cell 0)).mono ?_; rintro e w' ⟨rfl, rfl⟩
  generalize hA : 1 - 2 * bitI c 2 = sa at *
  generalize hB : 1 - 2 * bitI c 3 = sb at *
  have ha : -1 ≤ sa ∧ sa ≤ 1 := by omega
  have hb : -1 ≤ sb ∧ sb ≤ 1 := by omega
  have HA := Lib.hid hA
  have HB := Lib.hid hB
  clear hA hB hb2 hb3
  have a50 := A5.cell 0
  have a51 := A5.cell 1
  simp only [List.getElem?_toArray, List.getElem?_cons_zero, List.getElem?_cons_succ] at a50 a51
  go_wp2_with fail
  go_quiet ((go_at_call 69; exact quiet_same (bits_Word _ _)))
  have A9 := Blk.drewN A8 nq
  have T4 := T3.drewN nq
  generalize w3.drewN nq = w4 at *
  clear A5 A7 A8 T3 a50 a51
  go_wp2_with fail
  refine (bits_Word n _).mono ?_; rintro e w' ⟨rfl, rfl⟩
  rw [hm]
  have hm6 : m < 65536 := by omega
  clear hm
  go_wp2_with fail
  go_loopw [12, 13, 28] (fun x y i wr => ∃ k : Nat, k ≤ m + 1 ∧ i = .int .i64 k ∧ x = .int .i64 ((f + sa * (k : Int)) % 65536) ∧ y = .int .i64 ((t + sb * (k : Int)) % 65536) ∧ Blk wr (g5 + 1 + 1) #[Value.int IntKind.i64 0, Value.int IntKind.i64 0] 109 ∧ Tr [] w wr) (fun _ _ i _ => m + 1 - (intOf i).toNat)
  case atStart => exact ⟨0, by omega, rfl, by simp, by simp, A9, T4⟩
  case round =>
    obtain ⟨k, hk, rfl, rfl, rfl, A, T⟩ := hrel
    by_cases hlt : k < m + 1
    · have d1 : decide ((k : Int) < (m : Int) + 1) = true := by simp; omega
      have hx := mv_step f sa k
      have hy := mv_step t sb k
      have HX := Lib.hid hx
      have HY := Lib.hid hy
      clear hx hy
      go_wp2_with fail
      refine (vram_Word_nil _ _).mono ?_; rintro e w' ⟨rfl, rfl⟩
      go_wp2_with fail
      refine (vram_Poke_nil _ _ _).mono ?_; rintro e w' ⟨rfl, rfl⟩
      have x0 : 0 ≤ (f + sa * (k : Int)) % 65536 ∧ (f + sa * (k : Int)) % 65536 < 65536 := by omega
      have y0 : 0 ≤ (t + sb * (k : Int)) % 65536 ∧ (t + sb * (k : Int)) % 65536 < 65536 := by omega
      generalize (f + sa * (k : Int)) % 65536 = x at *
      generalize (t + sb * (k : Int)) % 65536 = y at *
      go_wp2_with fail
      refine (bits_Word (x + sa) _).mono ?_; rintro e w' ⟨rfl, rfl⟩
      go_wp2_with fail
      refine (bits_Word (y + sb) _).mono ?_; rintro e w' ⟨rfl, rfl⟩
      rw [HX.out, HY.out]
      clear HX HY
      go_wp2
      go_roundw
      case rel => exact ⟨k + 1, by omega, rfl, rfl, rfl, A, T⟩
      case measure => simp [intOf]; omega
    · obtain rfl : k = m + 1 := by omega
      have d1 : decide (((m + 1 : Nat) : Int) < (m : Int) + 1) = false := by simp
      go_wp2_with (first
        | (refine wpList_store_row rfl 109 _ _ rfl (g5 + 1 + 1) (#[Value.int IntKind.i64 ((f + sa * ((m + 1 : Nat) : Int)) % 65536), Value.int IntKind.i64 ((t + sb * ((m + 1 : Nat) : Int)) % 65536)]) rfl rfl 109 _ A (by kernel_rfl) rfl (by simp [Value.oneCell']) ?_))
      refine ret_row rfl rfl (Blk.setRow A _) Tryz.underlying109 rfl rfl rfl ?_
      rw [HA.out, HB.out]
      exact ⟨rfl, T.setRow (by omega) _⟩

theorem pow_le62 (j : Nat) (hj : j ≤ 62) : (1 : Int) ≤ 2 ^ j ∧ (2 : Int) ^ j ≤ 4611686018427387904 := by
  have h1 : (2 : Nat) ^ j ≤ 2 ^ 62 := Nat.pow_le_pow_right (by omega) hj
  have h2 : 1 ≤ (2 : Nat) ^ j := Nat.one_le_two_pow
  have e : ((2 : Int) ^ j) = ((2 ^ j : Nat) : Int) := by simp
  rw [e]; omega
theorem ref01_Power (k : Nat) (hk : k ≤ 62) (w : World) : Calls Tryz.prog 182 #[.int .i64 (k : Int)] w fun e w' => e = .returned (.int .i64 (2 ^ k)) ∧ w = w' := by
  go_enter Tryz.func182, Tryz.ntmps182
  go_wp2_with fail
  go_loopw [3, 4] (fun x i wr => ∃ j : Nat, j ≤ k ∧ i = .int .i64 j ∧ x = .int .i64 (2 ^ j) ∧ w = wr) (fun _ i _ => k - (intOf i).toNat)
  case atStart => exact ⟨0, by omega, rfl, rfl, rfl⟩
  case round =>
    obtain ⟨j, hj, rfl, rfl, rfl⟩ := hrel
    by_cases hlt : j < k
    · have d1 : decide ((j : Int) < (k : Int)) = true := by simpa using hlt
      have hp := pow_le62 (j + 1) (by omega)
      rw [Int.pow_succ] at hp
      have hw : IntKind.i64.wrap (2 ^ j * 2) = 2 ^ (j + 1) := by rw [IntWalk.i64_in _ (by omega), Int.pow_succ]
      have hw2 : wrap64 (2 ^ j * 2) = 2 ^ (j + 1) := by rw [w64_in (by omega), Int.pow_succ]
      clear hp
      go_wp2
      go_roundw
      case rel => exact ⟨j + 1, by omega, rfl, rfl, trivial⟩
      case measure => simp [intOf]; omega
    · obtain rfl : j = k := by omega
      have d1 : decide ((j : Int) < (j : Int)) = false := by simp
      go_wp2
      go_ret
      exact ⟨rfl, rfl⟩

theorem bitI_mod (n : Int) (k : Nat) (hk : k ≤ 15) : n % 65536 / 2 ^ k % 2 = n / 2 ^ k % 2 := by
  rcases (show k = 0 ∨ k = 1 ∨ k = 2 ∨ k = 3 ∨ k = 4 ∨ k = 5 ∨ k = 6 ∨ k = 7 ∨ k = 8 ∨ k = 9 ∨ k = 10 ∨ k = 11 ∨ k = 12 ∨ k = 13 ∨ k = 14 ∨ k = 15 by omega) with rfl | rfl | rfl | rfl | rfl | rfl | rfl | rfl | rfl | rfl | rfl | rfl | rfl | rfl | rfl | rfl <;> simp <;> omega

theorem ref01_Bit (n k : Int) (hn : -9223372036854775808 ≤ n ∧ n ≤ 9223372036854775807) (w : World) : Calls Tryz.prog 153 #[.int .i64 n, .int .i64 k] w fun e w' => e = .returned (.int .i64 (bitI n k)) ∧ w = w' := by
  by_cases h0 : 0 ≤ k ∧ k ≤ 15
  · obtain ⟨j, rfl⟩ := Int.eq_ofNat_of_zero_le h0.1
    have hj : j ≤ 15 := by omega
    have e1 := bitI_mod n j hj
    have e2 : bitI n j = n / 2 ^ j % 2 := by unfold bitI; rw [if_pos h0, Int.toNat_natCast]
    rw [e2, ← e1]
    clear e1 e2
    have h1 : decide ((j : Int) < 0) = false := by simp
    have h2 : decide (15 < (j : Int)) = false := by simp; omega
    have hp := pow_le62 j (by omega)
    have hm : 0 ≤ n % 65536 ∧ n % 65536 < 65536 := by omega
    have hw1 : (n % 65536).tdiv (2 ^ j) = n % 65536 / 2 ^ j := Int.tdiv_eq_ediv_of_nonneg hm.1
    have hq0 : 0 ≤ n % 65536 / 2 ^ j := Int.ediv_nonneg hm.1 (by omega)
    have hq1 : n % 65536 / 2 ^ j ≤ n % 65536 := Int.ediv_le_self _ hm.1
    go_enter Tryz.func153, Tryz.ntmps153
    go_wp2_with fail
    refine (ref01_Word n hn _).mono ?_; rintro e w' ⟨rfl, rfl⟩
    go_wp2_with fail
    refine (ref01_Power j (by omega) _).mono ?_; rintro e w' ⟨rfl, rfl⟩
    go_wp2
    go_ret
    exact ⟨rfl, rfl⟩
  · have e : bitI n k = 0 := by unfold bitI; rw [if_neg h0]
    rw [e]
    rcases (show k < 0 ∨ 15 < k by omega) with h | h
    · go_enter Tryz.func153, Tryz.ntmps153
      go_wp2
      go_ret
      exact ⟨rfl, rfl⟩
    · go_enter Tryz.func153, Tryz.ntmps153
      go_wp2
      go_ret
      exact ⟨rfl, rfl⟩

theorem ref16_on (n c : Int) (k : Nat) (hk : k = 2 ∨ k = 3) (h0 : 0 ≤ n ∧ n < 65536) (hc : -9223372036854775808 ≤ c ∧ c ≤ 9223372036854775807) (w : World) : Calls Tryz.prog 225 #[.int .i64 n, .int .i64 c, .int .i64 (k : Int)] w fun e w' =>
    e = .returned (.int .i64 ((n + (1 - 2 * bitI c k)) % 65536)) ∧ w = w' := by
  have hb := bitI_range c k
  rcases (show bitI c k = 0 ∨ bitI c k = 1 by omega) with h | h
  · rw [h]
    go_enter Tryz.func225, Tryz.ntmps225
    go_wp2_with fail
    refine (ref01_Bit c k hc _).mono ?_; rintro e w' ⟨rfl, rfl⟩
    rw [h]
    go_wp2_with fail
    refine (ref01_Word (n + 1) (by omega) _).mono ?_; rintro e w' ⟨rfl, rfl⟩
    go_wp2
    go_ret
    exact ⟨ret_int (by omega), rfl⟩
  · rw [h]
    go_enter Tryz.func225, Tryz.ntmps225
    go_wp2_with fail
    refine (ref01_Bit c k hc _).mono ?_; rintro e w' ⟨rfl, rfl⟩
    rw [h]
    go_wp2_with fail
    refine (ref01_Word (n - 1) (by omega) _).mono ?_; rintro e w' ⟨rfl, rfl⟩
    go_wp2
    go_ret
    exact ⟨ret_int (by omega), rfl⟩

theorem ref16_Move {w : World} {p g : Nat} {V : VS} (h : VAt 155 w p g V) (f t n c : Int) (hf : -9223372036854775808 ≤ f ∧ f ≤ 9223372036854775807) (ht : -9223372036854775808 ≤ t ∧ t ≤ 9223372036854775807)
    (hn : -9223372036854775808 ≤ n ∧ n ≤ 9223372036854775807) (hc : -9223372036854775808 ≤ c ∧ c ≤ 9223372036854775807) (m : Nat) (hm : n % 65536 = (m : Int)) :
    Calls Tryz.prog 151 #[.pointer (some ⟨p, 0, none⟩), .int .i64 f, .int .i64 t, .int .i64 n, .int .i64 c] w fun e w' =>
    e = .returned (.tuple #[.int .i64 ((f + (1 - 2 * bitI c 2) * ((m + 1 : Nat) : Int)) % 65536), .int .i64 ((t + (1 - 2 * bitI c 3) * ((m + 1 : Nat) : Int)) % 65536)]) ∧
      VAt 155 w' p g (mv V (1 - 2 * bitI c 2) (1 - 2 * bitI c 3) f t (m + 1)) ∧ Tr [g] w w' := by
  have hb2 := bitI_range c 2
  have hb3 := bitI_range c 3
  go_enter Tryz.func151, Tryz.ntmps151
  go_wp2_with fail
  refine (ref01_Word f hf _).mono ?_; rintro e w' ⟨rfl, rfl⟩
  go_wp2_with fail
  refine (ref01_Word t ht _).mono ?_; rintro e w' ⟨rfl, rfl⟩
  go_wp2_with fail
  refine (ref01_Word n hn _).mono ?_; rintro e w' ⟨rfl, rfl⟩
  rw [hm]
  have hm6 : m < 65536 := by omega
  clear hm
  generalize hA : 1 - 2 * bitI c 2 = sa at *
  generalize hB : 1 - 2 * bitI c 3 = sb at *
  have HA := Lib.hid hA
  have HB := Lib.hid hB
  clear hA hB hb2 hb3
  go_wp2_with fail
  go_loopw [1, 2, 12] (fun x y i wr => ∃ k : Nat, k ≤ m + 1 ∧ i = .int .i64 k ∧ x = .int .i64 ((f + sa * (k : Int)) % 65536) ∧ y = .int .i64 ((t + sb * (k : Int)) % 65536) ∧ VAt 155 wr p g (mv V sa sb f t k) ∧ Tr [g] w wr) (fun _ _ i _ => m + 1 - (intOf i).toNat)
  case atStart => exact ⟨0, by omega, rfl, by simp, by simp, h, Tr.refl _ _⟩
  case round =>
    obtain ⟨k, hk, rfl, rfl, rfl, hv, T⟩ := hrel
    by_cases hlt : k < m + 1
    · have d1 : decide ((k : Int) < (m : Int) + 1) = true := by simp; omega
      have hx := mv_step f sa k
      have hy := mv_step t sb k
      have HX := Lib.hid hx
      have HY := Lib.hid hy
      clear hx hy
      have x0 : 0 ≤ (f + sa * (k : Int)) % 65536 ∧ (f + sa * (k : Int)) % 65536 < 65536 := by omega
      have y0 : 0 ≤ (t + sb * (k : Int)) % 65536 ∧ (t + sb * (k : Int)) % 65536 < 65536 := by omega
      have u0 := (mv_ok h.ok sa sb f t k).word ((f + sa * (k : Int)) % 65536)
      go_wp2_with fail
      refine (ref13_Word hv _ (by omega)).mono ?_; rintro e w' ⟨rfl, rfl⟩
      go_wp2_with fail
      refine (ref13_Poke hv _ _ (by omega) (by omega)).mono ?_; rintro e w' ⟨rfl, hv', T'⟩
      have T2 := T.trans T'
      have hv2 : VAt 155 w' p g (mv V sa sb f t (k + 1)) := by
        rw [mv_succ, ← VS.poke_mod, ← VS.word_mod]; exact hv'
      clear hv hv' T T' u0
      generalize (f + sa * (k : Int)) % 65536 = x at *
      generalize (t + sb * (k : Int)) % 65536 = y at *
      go_wp2_with fail
      refine (ref16_on x c 2 (.inl rfl) x0 hc _).mono ?_; rintro e w' ⟨rfl, rfl⟩
      go_wp2_with fail
      refine (ref16_on y c 3 (.inr rfl) y0 hc _).mono ?_; rintro e w' ⟨rfl, rfl⟩
      rw [show ((3 : Nat) : Int) = 3 from rfl, HA.out, HB.out, HX.out, HY.out]
      clear HX HY
      go_wp2
      go_roundw
      case rel => exact ⟨k + 1, by omega, rfl, rfl, rfl, hv2, T2⟩
      case measure => simp [intOf]; omega
    · obtain rfl : k = m + 1 := by omega
      have d1 : decide (((m + 1 : Nat) : Int) < (m : Int) + 1) = false := by simp
      go_wp2
      go_ret2
      rw [HA.out, HB.out]
      exact ⟨rfl, hv, T⟩

end Go.Proofs.YtnllkgjmoipgbaaGreatDoor
-- SmC
namespace Go.Proofs.YtnllkgjmoipgbaaGreatDoor
open Go Go.RowKit
set_option linter.unusedSimpArgs false
set_option linter.unusedVariables false
set_option maxRecDepth 100000

theorem mpr_Fresh (w : World) : Calls Tryz.prog 47 #[] w fun e w' => e = .returned (.agg (intsC [0, 248, 0, 0, 0, 0, 0, 0]).toArray) ∧ Below w.heap.size w w' := by
  go_enter Tryz.func47, Tryz.ntmps47
  go_wp2
  exact ret_row rfl rfl (Blk.new' _ _ _ (by simp)) Tryz.underlying37 rfl (by kernel_rfl) rfl ⟨rfl, by repeat' first | exact Below.refl _ _ | refine bal ?_ | refine bdr ?_ | refine bdn ?_⟩
theorem bit0 (b : Int) : bitI b 0 = b % 2 := by unfold bitI; rw [if_pos (by decide)]; simp
theorem bit1 (b : Int) : bitI b 1 = b / 2 % 2 := by unfold bitI; rw [if_pos (by decide)]; rfl
set_option maxHeartbeats 2000000 in
theorem pad_Write (p : PortV) (hp : 0 ≤ p.index ∧ p.index ≤ 5) (b : Int) (w : World) : Calls Tryz.prog 57 #[.agg p.cells.toArray, .int .i64 b] w fun e w' => e = .returned (.agg (p.write b).cells.toArray) ∧ Below w.heap.size w w' := by
  have h0 := fun w => bits_Bit b 0 w
  have h1 := fun w => bits_Bit b 1 w
  rw [bit0] at h0
  rw [bit1] at h1
  have H0 := Lib.hid h0
  have H1 := Lib.hid h1
  clear h0 h1
  show Calls Tryz.prog 57 #[.agg #[.bool p.sel, .bool p.clr, .bool p.second, .int .i64 p.index], .int .i64 b] w _
  obtain ⟨s, c, d, i⟩ := p
  simp only at hp
  by_cases hc : b / 2 % 2 = 1
  · have e1 : PortV.write ⟨s, c, d, i⟩ b = ⟨b % 2 == 1, true, d != !c, 0⟩ := by unfold PortV.write; rw [if_pos hc]
    rw [e1]
    rw [hc] at H1
    go_enter Tryz.func57, Tryz.ntmps57
    go_wp2_with fail
    refine wp_region_made 11 12 #[.bool false, .bool false, .bool false, .int .i64 0] #[.bool (b % 2 == 1), .bool true, .bool d, .int .i64 i] 52 (by kernel_rfl) (by kernel_rfl) (by kernel_rfl) (by decide) ?_
    iterate 1
      (refine as_head rfl (by decide) (by decide) (fun K hK => ?_)
       apply Exists.intro
       refine ⟨fun wq hq => ?_, hK _ ?_⟩
       · rcases hq with ⟨n, rfl⟩ | ⟨n, rfl⟩
         all_goals
           go_simp
         all_goals first | exact rfl | exact ⟨rfl, rfl⟩
       clear hK K
       simp only [Act.put, List.setIfInBounds_toArray, List.set_cons_zero, List.set_cons_succ])
    iterate 1
      (refine as_head rfl (by decide) (by decide) (fun K hK => ?_)
       apply Exists.intro
       refine ⟨fun wq hq => ?_, hK _ ?_⟩
       · rcases hq with ⟨n, rfl⟩ | ⟨n, rfl⟩
         all_goals
           go_simp
         all_goals first | exact callD (H0.out _) | exact rfl | exact ⟨rfl, rfl⟩
       clear hK K
       simp only [Act.put, List.setIfInBounds_toArray, List.set_cons_zero, List.set_cons_succ])
    iterate 2
      (refine as_head rfl (by decide) (by decide) (fun K hK => ?_)
       apply Exists.intro
       refine ⟨fun wq hq => ?_, hK _ ?_⟩
       · rcases hq with ⟨n, rfl⟩ | ⟨n, rfl⟩
         all_goals
           go_simp
         all_goals first | exact rfl | exact ⟨rfl, rfl⟩
       clear hK K
       simp only [Act.put, List.setIfInBounds_toArray, List.set_cons_zero, List.set_cons_succ])
    iterate 1
      (refine as_head rfl (by decide) (by decide) (fun K hK => ?_)
       apply Exists.intro
       refine ⟨fun wq hq => ?_, hK _ ?_⟩
       · rcases hq with ⟨n, rfl⟩ | ⟨n, rfl⟩
         all_goals
           go_simp
         all_goals first | exact callD (H1.out _) | exact rfl | exact ⟨rfl, rfl⟩
       clear hK K
       simp only [Act.put, List.setIfInBounds_toArray, List.set_cons_zero, List.set_cons_succ])
    iterate 6
      (refine as_head rfl (by decide) (by decide) (fun K hK => ?_)
       apply Exists.intro
       refine ⟨fun wq hq => ?_, hK _ ?_⟩
       · rcases hq with ⟨n, rfl⟩ | ⟨n, rfl⟩
         all_goals
           go_simp
         all_goals first | exact rfl | exact ⟨rfl, rfl⟩
       clear hK K
       simp only [Act.put, List.setIfInBounds_toArray, List.set_cons_zero, List.set_cons_succ])
    refine as_alloc rfl (by decide) (fun K hK => ?_)
    refine ⟨fun n => ?_, hK _ ?_⟩
    · go_simp
      first | exact ⟨⟨n, rfl⟩, rfl⟩ | exact ⟨n, rfl⟩
    clear hK K
    simp only [Act.put, List.setIfInBounds_toArray, List.set_cons_zero, List.set_cons_succ]
    refine as_last 52 _ _ rfl rfl rfl (by kernel_rfl) rfl (by first | rfl | simp [Value.oneCell']) rfl (by decide) rfl (by kernel_rfl) (by kernel_rfl) ?_
    simp only [Act.put, List.setIfInBounds_toArray, List.set_cons_zero, List.set_cons_succ]
    intro n
    have hps := World.push_set
    have hpa := World.push_alloc
    go_wp2_with fail
    go_region
    all_goals go_wp2
    exact ret_row rfl rfl (Blk.drewN (Blk.alloc (Blk.new' _ _ _ (by simp)) _) _) Tryz.underlying52 rfl (by kernel_rfl) rfl ⟨rfl, by repeat' first | exact Below.refl _ _ | refine bal ?_ | refine bdr ?_ | refine bdn ?_⟩
  · have hc0 : b / 2 % 2 = 0 := by omega
    rw [hc0] at H1
    have hd : (b % 2 = 0) ∨ (b % 2 = 1 ∧ s = true) ∨ (b % 2 = 1 ∧ s = false ∧ i < 5) ∨ (b % 2 = 1 ∧ s = false ∧ i = 5) := by
      cases s <;> simp <;> omega
    rcases hd with h | ⟨h, rfl⟩ | ⟨h, rfl, hi⟩ | ⟨h, rfl, rfl⟩
    · have e1 : PortV.write ⟨s, c, d, i⟩ b = ⟨false, false, d, i⟩ := by unfold PortV.write; rw [if_neg hc]; simp [h]
      rw [e1]
      rw [h] at H0
      go_enter Tryz.func57, Tryz.ntmps57
      go_wp2_with fail
      refine wp_region_made 11 12 #[.bool false, .bool false, .bool false, .int .i64 0] #[.bool false, .bool false, .bool d, .int .i64 i] 52 (by kernel_rfl) (by kernel_rfl) (by kernel_rfl) (by decide) ?_
      iterate 1
        (refine as_head rfl (by decide) (by decide) (fun K hK => ?_)
         apply Exists.intro
         refine ⟨fun wq hq => ?_, hK _ ?_⟩
         · rcases hq with ⟨n, rfl⟩ | ⟨n, rfl⟩
           all_goals
             go_simp
           all_goals first | exact rfl | exact ⟨rfl, rfl⟩
         clear hK K
         simp only [Act.put, List.setIfInBounds_toArray, List.set_cons_zero, List.set_cons_succ])
      iterate 1
        (refine as_head rfl (by decide) (by decide) (fun K hK => ?_)
         apply Exists.intro
         refine ⟨fun wq hq => ?_, hK _ ?_⟩
         · rcases hq with ⟨n, rfl⟩ | ⟨n, rfl⟩
           all_goals
             go_simp
           all_goals first | exact callD (H0.out _) | exact rfl | exact ⟨rfl, rfl⟩
         clear hK K
         simp only [Act.put, List.setIfInBounds_toArray, List.set_cons_zero, List.set_cons_succ])
      iterate 2
        (refine as_head rfl (by decide) (by decide) (fun K hK => ?_)
         apply Exists.intro
         refine ⟨fun wq hq => ?_, hK _ ?_⟩
         · rcases hq with ⟨n, rfl⟩ | ⟨n, rfl⟩
           all_goals
             go_simp
           all_goals first | exact rfl | exact ⟨rfl, rfl⟩
         clear hK K
         simp only [Act.put, List.setIfInBounds_toArray, List.set_cons_zero, List.set_cons_succ])
      iterate 1
        (refine as_head rfl (by decide) (by decide) (fun K hK => ?_)
         apply Exists.intro
         refine ⟨fun wq hq => ?_, hK _ ?_⟩
         · rcases hq with ⟨n, rfl⟩ | ⟨n, rfl⟩
           all_goals
             go_simp
           all_goals first | exact callD (H1.out _) | exact rfl | exact ⟨rfl, rfl⟩
         clear hK K
         simp only [Act.put, List.setIfInBounds_toArray, List.set_cons_zero, List.set_cons_succ])
      iterate 6
        (refine as_head rfl (by decide) (by decide) (fun K hK => ?_)
         apply Exists.intro
         refine ⟨fun wq hq => ?_, hK _ ?_⟩
         · rcases hq with ⟨n, rfl⟩ | ⟨n, rfl⟩
           all_goals
             go_simp
           all_goals first | exact rfl | exact ⟨rfl, rfl⟩
         clear hK K
         simp only [Act.put, List.setIfInBounds_toArray, List.set_cons_zero, List.set_cons_succ])
      refine as_alloc rfl (by decide) (fun K hK => ?_)
      refine ⟨fun n => ?_, hK _ ?_⟩
      · go_simp
        first | exact ⟨⟨n, rfl⟩, rfl⟩ | exact ⟨n, rfl⟩
      clear hK K
      simp only [Act.put, List.setIfInBounds_toArray, List.set_cons_zero, List.set_cons_succ]
      refine as_last 52 _ _ rfl rfl rfl (by kernel_rfl) rfl (by first | rfl | simp [Value.oneCell']) rfl (by decide) rfl (by kernel_rfl) (by kernel_rfl) ?_
      simp only [Act.put, List.setIfInBounds_toArray, List.set_cons_zero, List.set_cons_succ]
      intro n
      have hps := World.push_set
      have hpa := World.push_alloc
      go_wp2
      exact ret_row rfl rfl (Blk.drewN (Blk.alloc (Blk.new' _ _ _ (by simp)) _) _) Tryz.underlying52 rfl (by kernel_rfl) rfl ⟨rfl, by repeat' first | exact Below.refl _ _ | refine bal ?_ | refine bdr ?_ | refine bdn ?_⟩
    · have e1 : PortV.write ⟨true, c, d, i⟩ b = ⟨true, false, d, i⟩ := by unfold PortV.write; rw [if_neg hc]; simp [h]
      rw [e1]
      rw [h] at H0
      go_enter Tryz.func57, Tryz.ntmps57
      go_wp2_with fail
      refine wp_region_made 11 12 #[.bool false, .bool false, .bool false, .int .i64 0] #[.bool true, .bool false, .bool d, .int .i64 i] 52 (by kernel_rfl) (by kernel_rfl) (by kernel_rfl) (by decide) ?_
      iterate 1
        (refine as_head rfl (by decide) (by decide) (fun K hK => ?_)
         apply Exists.intro
         refine ⟨fun wq hq => ?_, hK _ ?_⟩
         · rcases hq with ⟨n, rfl⟩ | ⟨n, rfl⟩
           all_goals
             go_simp
           all_goals first | exact rfl | exact ⟨rfl, rfl⟩
         clear hK K
         simp only [Act.put, List.setIfInBounds_toArray, List.set_cons_zero, List.set_cons_succ])
      iterate 1
        (refine as_head rfl (by decide) (by decide) (fun K hK => ?_)
         apply Exists.intro
         refine ⟨fun wq hq => ?_, hK _ ?_⟩
         · rcases hq with ⟨n, rfl⟩ | ⟨n, rfl⟩
           all_goals
             go_simp
           all_goals first | exact callD (H0.out _) | exact rfl | exact ⟨rfl, rfl⟩
         clear hK K
         simp only [Act.put, List.setIfInBounds_toArray, List.set_cons_zero, List.set_cons_succ])
      iterate 2
        (refine as_head rfl (by decide) (by decide) (fun K hK => ?_)
         apply Exists.intro
         refine ⟨fun wq hq => ?_, hK _ ?_⟩
         · rcases hq with ⟨n, rfl⟩ | ⟨n, rfl⟩
           all_goals
             go_simp
           all_goals first | exact rfl | exact ⟨rfl, rfl⟩
         clear hK K
         simp only [Act.put, List.setIfInBounds_toArray, List.set_cons_zero, List.set_cons_succ])
      iterate 1
        (refine as_head rfl (by decide) (by decide) (fun K hK => ?_)
         apply Exists.intro
         refine ⟨fun wq hq => ?_, hK _ ?_⟩
         · rcases hq with ⟨n, rfl⟩ | ⟨n, rfl⟩
           all_goals
             go_simp
           all_goals first | exact callD (H1.out _) | exact rfl | exact ⟨rfl, rfl⟩
         clear hK K
         simp only [Act.put, List.setIfInBounds_toArray, List.set_cons_zero, List.set_cons_succ])
      iterate 6
        (refine as_head rfl (by decide) (by decide) (fun K hK => ?_)
         apply Exists.intro
         refine ⟨fun wq hq => ?_, hK _ ?_⟩
         · rcases hq with ⟨n, rfl⟩ | ⟨n, rfl⟩
           all_goals
             go_simp
           all_goals first | exact rfl | exact ⟨rfl, rfl⟩
         clear hK K
         simp only [Act.put, List.setIfInBounds_toArray, List.set_cons_zero, List.set_cons_succ])
      refine as_alloc rfl (by decide) (fun K hK => ?_)
      refine ⟨fun n => ?_, hK _ ?_⟩
      · go_simp
        first | exact ⟨⟨n, rfl⟩, rfl⟩ | exact ⟨n, rfl⟩
      clear hK K
      simp only [Act.put, List.setIfInBounds_toArray, List.set_cons_zero, List.set_cons_succ]
      refine as_last 52 _ _ rfl rfl rfl (by kernel_rfl) rfl (by first | rfl | simp [Value.oneCell']) rfl (by decide) rfl (by kernel_rfl) (by kernel_rfl) ?_
      simp only [Act.put, List.setIfInBounds_toArray, List.set_cons_zero, List.set_cons_succ]
      intro n
      have hps := World.push_set
      have hpa := World.push_alloc
      go_wp2
      exact ret_row rfl rfl (Blk.drewN (Blk.alloc (Blk.new' _ _ _ (by simp)) _) _) Tryz.underlying52 rfl (by kernel_rfl) rfl ⟨rfl, by repeat' first | exact Below.refl _ _ | refine bal ?_ | refine bdr ?_ | refine bdn ?_⟩
    · have e1 : PortV.write ⟨false, c, d, i⟩ b = ⟨true, false, d, i + 1⟩ := by unfold PortV.write; rw [if_neg hc]; simp [h]; omega
      have hmn : min (i + 1) 5 = i + 1 := by omega
      rw [e1]
      rw [h] at H0
      go_enter Tryz.func57, Tryz.ntmps57
      go_wp2_with fail
      refine wp_region_made 11 12 #[.bool false, .bool false, .bool false, .int .i64 0] #[.bool true, .bool false, .bool d, .int .i64 i] 52 (by kernel_rfl) (by kernel_rfl) (by kernel_rfl) (by decide) ?_
      iterate 1
        (refine as_head rfl (by decide) (by decide) (fun K hK => ?_)
         apply Exists.intro
         refine ⟨fun wq hq => ?_, hK _ ?_⟩
         · rcases hq with ⟨n, rfl⟩ | ⟨n, rfl⟩
           all_goals
             go_simp
           all_goals first | exact rfl | exact ⟨rfl, rfl⟩
         clear hK K
         simp only [Act.put, List.setIfInBounds_toArray, List.set_cons_zero, List.set_cons_succ])
      iterate 1
        (refine as_head rfl (by decide) (by decide) (fun K hK => ?_)
         apply Exists.intro
         refine ⟨fun wq hq => ?_, hK _ ?_⟩
         · rcases hq with ⟨n, rfl⟩ | ⟨n, rfl⟩
           all_goals
             go_simp
           all_goals first | exact callD (H0.out _) | exact rfl | exact ⟨rfl, rfl⟩
         clear hK K
         simp only [Act.put, List.setIfInBounds_toArray, List.set_cons_zero, List.set_cons_succ])
      iterate 2
        (refine as_head rfl (by decide) (by decide) (fun K hK => ?_)
         apply Exists.intro
         refine ⟨fun wq hq => ?_, hK _ ?_⟩
         · rcases hq with ⟨n, rfl⟩ | ⟨n, rfl⟩
           all_goals
             go_simp
           all_goals first | exact rfl | exact ⟨rfl, rfl⟩
         clear hK K
         simp only [Act.put, List.setIfInBounds_toArray, List.set_cons_zero, List.set_cons_succ])
      iterate 1
        (refine as_head rfl (by decide) (by decide) (fun K hK => ?_)
         apply Exists.intro
         refine ⟨fun wq hq => ?_, hK _ ?_⟩
         · rcases hq with ⟨n, rfl⟩ | ⟨n, rfl⟩
           all_goals
             go_simp
           all_goals first | exact callD (H1.out _) | exact rfl | exact ⟨rfl, rfl⟩
         clear hK K
         simp only [Act.put, List.setIfInBounds_toArray, List.set_cons_zero, List.set_cons_succ])
      iterate 6
        (refine as_head rfl (by decide) (by decide) (fun K hK => ?_)
         apply Exists.intro
         refine ⟨fun wq hq => ?_, hK _ ?_⟩
         · rcases hq with ⟨n, rfl⟩ | ⟨n, rfl⟩
           all_goals
             go_simp
           all_goals first | exact rfl | exact ⟨rfl, rfl⟩
         clear hK K
         simp only [Act.put, List.setIfInBounds_toArray, List.set_cons_zero, List.set_cons_succ])
      refine as_alloc rfl (by decide) (fun K hK => ?_)
      refine ⟨fun n => ?_, hK _ ?_⟩
      · go_simp
        first | exact ⟨⟨n, rfl⟩, rfl⟩ | exact ⟨n, rfl⟩
      clear hK K
      simp only [Act.put, List.setIfInBounds_toArray, List.set_cons_zero, List.set_cons_succ]
      refine as_last 52 _ _ rfl rfl rfl (by kernel_rfl) rfl (by first | rfl | simp [Value.oneCell']) rfl (by decide) rfl (by kernel_rfl) (by kernel_rfl) ?_
      simp only [Act.put, List.setIfInBounds_toArray, List.set_cons_zero, List.set_cons_succ]
      intro n
      have hps := World.push_set
      have hpa := World.push_alloc
      go_wp2
      exact ret_row rfl rfl (Blk.drewN (Blk.alloc (Blk.new' _ _ _ (by simp)) _) _) Tryz.underlying52 rfl (by kernel_rfl) rfl ⟨rfl, by repeat' first | exact Below.refl _ _ | refine bal ?_ | refine bdr ?_ | refine bdn ?_⟩
    · have e1 : PortV.write ⟨false, c, d, 5⟩ b = ⟨true, false, d, 5⟩ := by unfold PortV.write; rw [if_neg hc]; simp [h]; decide
      rw [e1]
      rw [h] at H0
      go_enter Tryz.func57, Tryz.ntmps57
      go_wp2_with fail
      refine wp_region_made 11 12 #[.bool false, .bool false, .bool false, .int .i64 0] #[.bool true, .bool false, .bool d, .int .i64 5] 52 (by kernel_rfl) (by kernel_rfl) (by kernel_rfl) (by decide) ?_
      iterate 1
        (refine as_head rfl (by decide) (by decide) (fun K hK => ?_)
         apply Exists.intro
         refine ⟨fun wq hq => ?_, hK _ ?_⟩
         · rcases hq with ⟨n, rfl⟩ | ⟨n, rfl⟩
           all_goals
             go_simp
           all_goals first | exact rfl | exact ⟨rfl, rfl⟩
         clear hK K
         simp only [Act.put, List.setIfInBounds_toArray, List.set_cons_zero, List.set_cons_succ])
      iterate 1
        (refine as_head rfl (by decide) (by decide) (fun K hK => ?_)
         apply Exists.intro
         refine ⟨fun wq hq => ?_, hK _ ?_⟩
         · rcases hq with ⟨n, rfl⟩ | ⟨n, rfl⟩
           all_goals
             go_simp
           all_goals first | exact callD (H0.out _) | exact rfl | exact ⟨rfl, rfl⟩
         clear hK K
         simp only [Act.put, List.setIfInBounds_toArray, List.set_cons_zero, List.set_cons_succ])
      iterate 2
        (refine as_head rfl (by decide) (by decide) (fun K hK => ?_)
         apply Exists.intro
         refine ⟨fun wq hq => ?_, hK _ ?_⟩
         · rcases hq with ⟨n, rfl⟩ | ⟨n, rfl⟩
           all_goals
             go_simp
           all_goals first | exact rfl | exact ⟨rfl, rfl⟩
         clear hK K
         simp only [Act.put, List.setIfInBounds_toArray, List.set_cons_zero, List.set_cons_succ])
      iterate 1
        (refine as_head rfl (by decide) (by decide) (fun K hK => ?_)
         apply Exists.intro
         refine ⟨fun wq hq => ?_, hK _ ?_⟩
         · rcases hq with ⟨n, rfl⟩ | ⟨n, rfl⟩
           all_goals
             go_simp
           all_goals first | exact callD (H1.out _) | exact rfl | exact ⟨rfl, rfl⟩
         clear hK K
         simp only [Act.put, List.setIfInBounds_toArray, List.set_cons_zero, List.set_cons_succ])
      iterate 6
        (refine as_head rfl (by decide) (by decide) (fun K hK => ?_)
         apply Exists.intro
         refine ⟨fun wq hq => ?_, hK _ ?_⟩
         · rcases hq with ⟨n, rfl⟩ | ⟨n, rfl⟩
           all_goals
             go_simp
           all_goals first | exact rfl | exact ⟨rfl, rfl⟩
         clear hK K
         simp only [Act.put, List.setIfInBounds_toArray, List.set_cons_zero, List.set_cons_succ])
      refine as_alloc rfl (by decide) (fun K hK => ?_)
      refine ⟨fun n => ?_, hK _ ?_⟩
      · go_simp
        first | exact ⟨⟨n, rfl⟩, rfl⟩ | exact ⟨n, rfl⟩
      clear hK K
      simp only [Act.put, List.setIfInBounds_toArray, List.set_cons_zero, List.set_cons_succ]
      refine as_last 52 _ _ rfl rfl rfl (by kernel_rfl) rfl (by first | rfl | simp [Value.oneCell']) rfl (by decide) rfl (by kernel_rfl) (by kernel_rfl) ?_
      simp only [Act.put, List.setIfInBounds_toArray, List.set_cons_zero, List.set_cons_succ]
      intro n
      have hps := World.push_set
      have hpa := World.push_alloc
      go_wp2
      exact ret_row rfl rfl (Blk.drewN (Blk.alloc (Blk.new' _ _ _ (by simp)) _) _) Tryz.underlying52 rfl (by kernel_rfl) rfl ⟨rfl, by repeat' first | exact Below.refl _ _ | refine bal ?_ | refine bdr ?_ | refine bdn ?_⟩
end Go.Proofs.YtnllkgjmoipgbaaGreatDoor
-- SmD
namespace Go.Proofs.YtnllkgjmoipgbaaGreatDoor
open Go Go.RowKit
set_option linter.unusedSimpArgs false
set_option linter.unusedVariables false
set_option maxRecDepth 100000

theorem pad_pressed (p : PadV) (sel second : Bool) (w : World) : Calls Tryz.prog 214 #[.agg #[.int .i64 p.keys, .bool p.six], .bool sel, .bool second] w fun e w' => e = .returned (.int .i64 (p.four sel second)) ∧ w' = w.alloc (Obj.cells #[.int .i64 p.keys, .bool p.six] 54) := by
  obtain ⟨k, six⟩ := p
  have hW := fun w => bits_Word k w
  have HW := Lib.hid hW
  clear hW
  have k1 : k % 65536 % 16 = k % 16 := by omega
  have K1 := Lib.hid k1
  clear k1
  cases sel <;> cases second <;> cases six
  all_goals
    first
    | (go_enter Tryz.func214, Tryz.ntmps214
       go_wp2_with fail
       refine (HW.out _).mono ?_; rintro e w1 ⟨rfl, rfl⟩
       go_wp2
       go_ret
       exact ⟨by first | rfl | (rw [K1.out]; rfl), rfl⟩)
    | (go_enter Tryz.func214, Tryz.ntmps214
       go_wp2
       go_ret
       exact ⟨rfl, rfl⟩)
theorem not_four (f : Int) (h : 0 ≤ f ∧ f ≤ 15) : bits .andNot .i64 255 f = 255 - f := by
  have : ∀ l : Fin 16, bits .andNot .i64 255 (l.val : Int) = 255 - (l.val : Int) := by decide +kernel
  have := this ⟨f.toNat, by omega⟩
  simpa [Int.toNat_of_nonneg h.1] using this
theorem five_of {α : Type} {zs : List α} (h : zs.length = 5) : ∃ a b c d e, zs = [a, b, c, d, e] := by
  match zs, h with
  | [a, b, c, d, e], _ => exact ⟨a, b, c, d, e, rfl⟩
set_option maxHeartbeats 4000000 in
theorem pad_Read (p : PortV) (ps : List PadV) (hl : ps.length = 5) (w : World) : Calls Tryz.prog 136 #[.agg p.cells.toArray, .agg (padsC ps).toArray, .bool false] w fun e w' => e = .returned (.int .i64 (padRead p ps)) ∧ Below w.heap.size w w' := by
  obtain ⟨a, b, c, d, e, rfl⟩ := five_of hl
  obtain ⟨s, cl, sc, i⟩ := p
  show Calls Tryz.prog 136 #[.agg #[.bool s, .bool cl, .bool sc, .int .i64 i], .agg #[.int .i64 a.keys, .bool a.six, .int .i64 b.keys, .bool b.six, .int .i64 c.keys, .bool c.six, .int .i64 d.keys, .bool d.six, .int .i64 e.keys, .bool e.six], .bool false] w _
  rcases (show i < 0 ∨ (0 ≤ i ∧ 5 ≤ i) ∨ i = 0 ∨ i = 1 ∨ i = 2 ∨ i = 3 ∨ i = 4 by omega) with hi | hi | rfl | rfl | rfl | rfl | rfl
  · have e1 : padRead ⟨s, cl, sc, i⟩ [a, b, c, d, e] = 255 := by unfold padRead; rw [if_neg (by show ¬ (0 ≤ i ∧ i < 5); omega)]
    rw [e1]
    go_enter Tryz.func136, Tryz.ntmps136
    go_wp2
    go_ret
    exact ⟨rfl, bal (bal (Below.refl _ _))⟩
  · have e1 : padRead ⟨s, cl, sc, i⟩ [a, b, c, d, e] = 255 := by unfold padRead; rw [if_neg (by show ¬ (0 ≤ i ∧ i < 5); omega)]
    rw [e1]
    go_enter Tryz.func136, Tryz.ntmps136
    go_wp2
    go_ret
    exact ⟨rfl, bal (bal (Below.refl _ _))⟩
  · have e1 : padRead ⟨s, cl, sc, 0⟩ [a, b, c, d, e] = 255 - a.four s sc := by unfold padRead; rw [if_pos (by show (0 : Int) ≤ 0 ∧ (0 : Int) < 5; decide)]; show 240 + 15 - a.four s sc = _; omega
    rw [e1]
    have hf := not_four _ (PadV.four_in a s sc)
    have HP := Lib.hid (fun w => pad_pressed a s sc w)
    generalize a.four s sc = f at *
    have A0 : Blk ((w.alloc (Obj.cells #[.bool s, .bool cl, .bool sc, .int .i64 0] 52)).alloc (Obj.cells #[.int .i64 a.keys, .bool a.six, .int .i64 b.keys, .bool b.six, .int .i64 c.keys, .bool c.six, .int .i64 d.keys, .bool d.six, .int .i64 e.keys, .bool e.six] 55)) w.heap.size _ _ := Blk.alloc (Blk.new w #[.bool s, .bool cl, .bool sc, .int .i64 0] 52) _
    have A1 : Blk ((w.alloc (Obj.cells #[.bool s, .bool cl, .bool sc, .int .i64 0] 52)).alloc (Obj.cells #[.int .i64 a.keys, .bool a.six, .int .i64 b.keys, .bool b.six, .int .i64 c.keys, .bool c.six, .int .i64 d.keys, .bool d.six, .int .i64 e.keys, .bool e.six] 55)) (w.heap.size + 1) _ _ := Blk.new' (w.alloc _) #[.int .i64 a.keys, .bool a.six, .int .i64 b.keys, .bool b.six, .int .i64 c.keys, .bool c.six, .int .i64 d.keys, .bool d.six, .int .i64 e.keys, .bool e.six] 55 (by simp)
    have B1 : Below w.heap.size w _ := bal (o := Obj.cells #[.int .i64 a.keys, .bool a.six, .int .i64 b.keys, .bool b.six, .int .i64 c.keys, .bool c.six, .int .i64 d.keys, .bool d.six, .int .i64 e.keys, .bool e.six] 55) (bal (o := Obj.cells #[.bool s, .bool cl, .bool sc, .int .i64 0] 52) (Below.refl w.heap.size w))
    go_enter Tryz.func136, Tryz.ntmps136
    go_wp2_with fail
    generalize (w.alloc (Obj.cells #[Value.bool s, Value.bool cl, Value.bool sc, Value.int IntKind.i64 0] 52)).alloc (Obj.cells #[.int .i64 a.keys, .bool a.six, .int .i64 b.keys, .bool b.six, .int .i64 c.keys, .bool c.six, .int .i64 d.keys, .bool d.six, .int .i64 e.keys, .bool e.six] 55) = w1 at *
    have FA : ∀ wq, Below w1.heap.size w1 wq → wq.cell? ⟨w.heap.size, 0, none⟩ = some (.bool s) ∧ wq.cell? ⟨w.heap.size, 2, none⟩ = some (.bool sc) ∧ wq.cell? ⟨w.heap.size, 3, none⟩ = some (.int .i64 0) ∧ wq.cell? ⟨w.heap.size + 1, 0, none⟩ = some (.int .i64 a.keys) ∧ wq.cell? ⟨w.heap.size + 1, 1, none⟩ = some (.bool a.six) := fun wq hq => by
      have A0 := Blk.below A0 hq
      have A1 := Blk.below A1 hq
      exact ⟨Blk.cell A0 0, Blk.cell A0 2, Blk.cell A0 3, Blk.cell A1 0, Blk.cell A1 1⟩
    have HF := Lib.hid FA
    have H191 : bits .or .i64 191 64 = 255 := by decide
    clear FA A0 A1
    refine wp_region_under (by kernel_rfl) (by kernel_rfl) ?_
    iterate 9
      (refine wpQuiet_step (fun K hK => ?_)
       first
         | (refine hK _ ?_; clear hK K)
         | (apply Exists.intro
            refine ⟨fun wq hq => ?_, hK _ ?_⟩
            · obtain ⟨c0, c2, c3, d0, d1⟩ := HF.out wq hq
              go_simp
              first | exact ⟨rfl, rfl⟩ | exact rfl
            clear hK K)
       simp only [Act.put, List.setIfInBounds_toArray, List.set_cons_zero, List.set_cons_succ])
    iterate 1
      (refine wpQuiet_step (fun K hK => ?_)
       first
         | (refine hK _ ?_; clear hK K)
         | (apply Exists.intro
            refine ⟨fun wq hq => ?_, hK _ ?_⟩
            · go_simp
              first | exact calls_under hq ((HP.out wq).mono (fun _ _ ⟨he, hw⟩ => ⟨he, by rw [hw]; exact bal (Below.refl _ _)⟩))
            clear hK K)
       simp only [Act.put, List.setIfInBounds_toArray, List.set_cons_zero, List.set_cons_succ])
    iterate 2
      (refine wpQuiet_step (fun K hK => ?_)
       first
         | (refine hK _ ?_; clear hK K)
         | (apply Exists.intro
            refine ⟨fun wq hq => ?_, hK _ ?_⟩
            · go_simp
              first | exact ⟨rfl, rfl⟩ | exact rfl
            clear hK K)
       simp only [Act.put, List.setIfInBounds_toArray, List.set_cons_zero, List.set_cons_succ])
    refine wpQuiet_nil ?_
    intro w5 hq5
    go_wp2
    go_ret
    exact ⟨rfl, B1.trans (hq5.mono B1.size)⟩
  · have e1 : padRead ⟨s, cl, sc, 1⟩ [a, b, c, d, e] = 255 - b.four s sc := by unfold padRead; rw [if_pos (by show (0 : Int) ≤ 1 ∧ (1 : Int) < 5; decide)]; show 240 + 15 - b.four s sc = _; omega
    rw [e1]
    have hf := not_four _ (PadV.four_in b s sc)
    have HP := Lib.hid (fun w => pad_pressed b s sc w)
    generalize b.four s sc = f at *
    have A0 : Blk ((w.alloc (Obj.cells #[.bool s, .bool cl, .bool sc, .int .i64 1] 52)).alloc (Obj.cells #[.int .i64 a.keys, .bool a.six, .int .i64 b.keys, .bool b.six, .int .i64 c.keys, .bool c.six, .int .i64 d.keys, .bool d.six, .int .i64 e.keys, .bool e.six] 55)) w.heap.size _ _ := Blk.alloc (Blk.new w #[.bool s, .bool cl, .bool sc, .int .i64 1] 52) _
    have A1 : Blk ((w.alloc (Obj.cells #[.bool s, .bool cl, .bool sc, .int .i64 1] 52)).alloc (Obj.cells #[.int .i64 a.keys, .bool a.six, .int .i64 b.keys, .bool b.six, .int .i64 c.keys, .bool c.six, .int .i64 d.keys, .bool d.six, .int .i64 e.keys, .bool e.six] 55)) (w.heap.size + 1) _ _ := Blk.new' (w.alloc _) #[.int .i64 a.keys, .bool a.six, .int .i64 b.keys, .bool b.six, .int .i64 c.keys, .bool c.six, .int .i64 d.keys, .bool d.six, .int .i64 e.keys, .bool e.six] 55 (by simp)
    have B1 : Below w.heap.size w _ := bal (o := Obj.cells #[.int .i64 a.keys, .bool a.six, .int .i64 b.keys, .bool b.six, .int .i64 c.keys, .bool c.six, .int .i64 d.keys, .bool d.six, .int .i64 e.keys, .bool e.six] 55) (bal (o := Obj.cells #[.bool s, .bool cl, .bool sc, .int .i64 1] 52) (Below.refl w.heap.size w))
    go_enter Tryz.func136, Tryz.ntmps136
    go_wp2_with fail
    generalize (w.alloc (Obj.cells #[Value.bool s, Value.bool cl, Value.bool sc, Value.int IntKind.i64 1] 52)).alloc (Obj.cells #[.int .i64 a.keys, .bool a.six, .int .i64 b.keys, .bool b.six, .int .i64 c.keys, .bool c.six, .int .i64 d.keys, .bool d.six, .int .i64 e.keys, .bool e.six] 55) = w1 at *
    have FA : ∀ wq, Below w1.heap.size w1 wq → wq.cell? ⟨w.heap.size, 0, none⟩ = some (.bool s) ∧ wq.cell? ⟨w.heap.size, 2, none⟩ = some (.bool sc) ∧ wq.cell? ⟨w.heap.size, 3, none⟩ = some (.int .i64 1) ∧ wq.cell? ⟨w.heap.size + 1, 2, none⟩ = some (.int .i64 b.keys) ∧ wq.cell? ⟨w.heap.size + 1, 3, none⟩ = some (.bool b.six) := fun wq hq => by
      have A0 := Blk.below A0 hq
      have A1 := Blk.below A1 hq
      exact ⟨Blk.cell A0 0, Blk.cell A0 2, Blk.cell A0 3, Blk.cell A1 2, Blk.cell A1 3⟩
    have HF := Lib.hid FA
    have H191 : bits .or .i64 191 64 = 255 := by decide
    clear FA A0 A1
    refine wp_region_under (by kernel_rfl) (by kernel_rfl) ?_
    iterate 9
      (refine wpQuiet_step (fun K hK => ?_)
       first
         | (refine hK _ ?_; clear hK K)
         | (apply Exists.intro
            refine ⟨fun wq hq => ?_, hK _ ?_⟩
            · obtain ⟨c0, c2, c3, d0, d1⟩ := HF.out wq hq
              go_simp
              first | exact ⟨rfl, rfl⟩ | exact rfl
            clear hK K)
       simp only [Act.put, List.setIfInBounds_toArray, List.set_cons_zero, List.set_cons_succ])
    iterate 1
      (refine wpQuiet_step (fun K hK => ?_)
       first
         | (refine hK _ ?_; clear hK K)
         | (apply Exists.intro
            refine ⟨fun wq hq => ?_, hK _ ?_⟩
            · go_simp
              first | exact calls_under hq ((HP.out wq).mono (fun _ _ ⟨he, hw⟩ => ⟨he, by rw [hw]; exact bal (Below.refl _ _)⟩))
            clear hK K)
       simp only [Act.put, List.setIfInBounds_toArray, List.set_cons_zero, List.set_cons_succ])
    iterate 2
      (refine wpQuiet_step (fun K hK => ?_)
       first
         | (refine hK _ ?_; clear hK K)
         | (apply Exists.intro
            refine ⟨fun wq hq => ?_, hK _ ?_⟩
            · go_simp
              first | exact ⟨rfl, rfl⟩ | exact rfl
            clear hK K)
       simp only [Act.put, List.setIfInBounds_toArray, List.set_cons_zero, List.set_cons_succ])
    refine wpQuiet_nil ?_
    intro w5 hq5
    go_wp2
    go_ret
    exact ⟨rfl, B1.trans (hq5.mono B1.size)⟩
  · have e1 : padRead ⟨s, cl, sc, 2⟩ [a, b, c, d, e] = 255 - c.four s sc := by unfold padRead; rw [if_pos (by show (0 : Int) ≤ 2 ∧ (2 : Int) < 5; decide)]; show 240 + 15 - c.four s sc = _; omega
    rw [e1]
    have hf := not_four _ (PadV.four_in c s sc)
    have HP := Lib.hid (fun w => pad_pressed c s sc w)
    generalize c.four s sc = f at *
    have A0 : Blk ((w.alloc (Obj.cells #[.bool s, .bool cl, .bool sc, .int .i64 2] 52)).alloc (Obj.cells #[.int .i64 a.keys, .bool a.six, .int .i64 b.keys, .bool b.six, .int .i64 c.keys, .bool c.six, .int .i64 d.keys, .bool d.six, .int .i64 e.keys, .bool e.six] 55)) w.heap.size _ _ := Blk.alloc (Blk.new w #[.bool s, .bool cl, .bool sc, .int .i64 2] 52) _
    have A1 : Blk ((w.alloc (Obj.cells #[.bool s, .bool cl, .bool sc, .int .i64 2] 52)).alloc (Obj.cells #[.int .i64 a.keys, .bool a.six, .int .i64 b.keys, .bool b.six, .int .i64 c.keys, .bool c.six, .int .i64 d.keys, .bool d.six, .int .i64 e.keys, .bool e.six] 55)) (w.heap.size + 1) _ _ := Blk.new' (w.alloc _) #[.int .i64 a.keys, .bool a.six, .int .i64 b.keys, .bool b.six, .int .i64 c.keys, .bool c.six, .int .i64 d.keys, .bool d.six, .int .i64 e.keys, .bool e.six] 55 (by simp)
    have B1 : Below w.heap.size w _ := bal (o := Obj.cells #[.int .i64 a.keys, .bool a.six, .int .i64 b.keys, .bool b.six, .int .i64 c.keys, .bool c.six, .int .i64 d.keys, .bool d.six, .int .i64 e.keys, .bool e.six] 55) (bal (o := Obj.cells #[.bool s, .bool cl, .bool sc, .int .i64 2] 52) (Below.refl w.heap.size w))
    go_enter Tryz.func136, Tryz.ntmps136
    go_wp2_with fail
    generalize (w.alloc (Obj.cells #[Value.bool s, Value.bool cl, Value.bool sc, Value.int IntKind.i64 2] 52)).alloc (Obj.cells #[.int .i64 a.keys, .bool a.six, .int .i64 b.keys, .bool b.six, .int .i64 c.keys, .bool c.six, .int .i64 d.keys, .bool d.six, .int .i64 e.keys, .bool e.six] 55) = w1 at *
    have FA : ∀ wq, Below w1.heap.size w1 wq → wq.cell? ⟨w.heap.size, 0, none⟩ = some (.bool s) ∧ wq.cell? ⟨w.heap.size, 2, none⟩ = some (.bool sc) ∧ wq.cell? ⟨w.heap.size, 3, none⟩ = some (.int .i64 2) ∧ wq.cell? ⟨w.heap.size + 1, 4, none⟩ = some (.int .i64 c.keys) ∧ wq.cell? ⟨w.heap.size + 1, 5, none⟩ = some (.bool c.six) := fun wq hq => by
      have A0 := Blk.below A0 hq
      have A1 := Blk.below A1 hq
      exact ⟨Blk.cell A0 0, Blk.cell A0 2, Blk.cell A0 3, Blk.cell A1 4, Blk.cell A1 5⟩
    have HF := Lib.hid FA
    have H191 : bits .or .i64 191 64 = 255 := by decide
    clear FA A0 A1
    refine wp_region_under (by kernel_rfl) (by kernel_rfl) ?_
    iterate 9
      (refine wpQuiet_step (fun K hK => ?_)
       first
         | (refine hK _ ?_; clear hK K)
         | (apply Exists.intro
            refine ⟨fun wq hq => ?_, hK _ ?_⟩
            · obtain ⟨c0, c2, c3, d0, d1⟩ := HF.out wq hq
              go_simp
              first | exact ⟨rfl, rfl⟩ | exact rfl
            clear hK K)
       simp only [Act.put, List.setIfInBounds_toArray, List.set_cons_zero, List.set_cons_succ])
    iterate 1
      (refine wpQuiet_step (fun K hK => ?_)
       first
         | (refine hK _ ?_; clear hK K)
         | (apply Exists.intro
            refine ⟨fun wq hq => ?_, hK _ ?_⟩
            · go_simp
              first | exact calls_under hq ((HP.out wq).mono (fun _ _ ⟨he, hw⟩ => ⟨he, by rw [hw]; exact bal (Below.refl _ _)⟩))
            clear hK K)
       simp only [Act.put, List.setIfInBounds_toArray, List.set_cons_zero, List.set_cons_succ])
    iterate 2
      (refine wpQuiet_step (fun K hK => ?_)
       first
         | (refine hK _ ?_; clear hK K)
         | (apply Exists.intro
            refine ⟨fun wq hq => ?_, hK _ ?_⟩
            · go_simp
              first | exact ⟨rfl, rfl⟩ | exact rfl
            clear hK K)
       simp only [Act.put, List.setIfInBounds_toArray, List.set_cons_zero, List.set_cons_succ])
    refine wpQuiet_nil ?_
    intro w5 hq5
    go_wp2
    go_ret
    exact ⟨rfl, B1.trans (hq5.mono B1.size)⟩
  · have e1 : padRead ⟨s, cl, sc, 3⟩ [a, b, c, d, e] = 255 - d.four s sc := by unfold padRead; rw [if_pos (by show (0 : Int) ≤ 3 ∧ (3 : Int) < 5; decide)]; show 240 + 15 - d.four s sc = _; omega
    rw [e1]
    have hf := not_four _ (PadV.four_in d s sc)
    have HP := Lib.hid (fun w => pad_pressed d s sc w)
    generalize d.four s sc = f at *
    have A0 : Blk ((w.alloc (Obj.cells #[.bool s, .bool cl, .bool sc, .int .i64 3] 52)).alloc (Obj.cells #[.int .i64 a.keys, .bool a.six, .int .i64 b.keys, .bool b.six, .int .i64 c.keys, .bool c.six, .int .i64 d.keys, .bool d.six, .int .i64 e.keys, .bool e.six] 55)) w.heap.size _ _ := Blk.alloc (Blk.new w #[.bool s, .bool cl, .bool sc, .int .i64 3] 52) _
    have A1 : Blk ((w.alloc (Obj.cells #[.bool s, .bool cl, .bool sc, .int .i64 3] 52)).alloc (Obj.cells #[.int .i64 a.keys, .bool a.six, .int .i64 b.keys, .bool b.six, .int .i64 c.keys, .bool c.six, .int .i64 d.keys, .bool d.six, .int .i64 e.keys, .bool e.six] 55)) (w.heap.size + 1) _ _ := Blk.new' (w.alloc _) #[.int .i64 a.keys, .bool a.six, .int .i64 b.keys, .bool b.six, .int .i64 c.keys, .bool c.six, .int .i64 d.keys, .bool d.six, .int .i64 e.keys, .bool e.six] 55 (by simp)
    have B1 : Below w.heap.size w _ := bal (o := Obj.cells #[.int .i64 a.keys, .bool a.six, .int .i64 b.keys, .bool b.six, .int .i64 c.keys, .bool c.six, .int .i64 d.keys, .bool d.six, .int .i64 e.keys, .bool e.six] 55) (bal (o := Obj.cells #[.bool s, .bool cl, .bool sc, .int .i64 3] 52) (Below.refl w.heap.size w))
    go_enter Tryz.func136, Tryz.ntmps136
    go_wp2_with fail
    generalize (w.alloc (Obj.cells #[Value.bool s, Value.bool cl, Value.bool sc, Value.int IntKind.i64 3] 52)).alloc (Obj.cells #[.int .i64 a.keys, .bool a.six, .int .i64 b.keys, .bool b.six, .int .i64 c.keys, .bool c.six, .int .i64 d.keys, .bool d.six, .int .i64 e.keys, .bool e.six] 55) = w1 at *
    have FA : ∀ wq, Below w1.heap.size w1 wq → wq.cell? ⟨w.heap.size, 0, none⟩ = some (.bool s) ∧ wq.cell? ⟨w.heap.size, 2, none⟩ = some (.bool sc) ∧ wq.cell? ⟨w.heap.size, 3, none⟩ = some (.int .i64 3) ∧ wq.cell? ⟨w.heap.size + 1, 6, none⟩ = some (.int .i64 d.keys) ∧ wq.cell? ⟨w.heap.size + 1, 7, none⟩ = some (.bool d.six) := fun wq hq => by
      have A0 := Blk.below A0 hq
      have A1 := Blk.below A1 hq
      exact ⟨Blk.cell A0 0, Blk.cell A0 2, Blk.cell A0 3, Blk.cell A1 6, Blk.cell A1 7⟩
    have HF := Lib.hid FA
    have H191 : bits .or .i64 191 64 = 255 := by decide
    clear FA A0 A1
    refine wp_region_under (by kernel_rfl) (by kernel_rfl) ?_
    iterate 9
      (refine wpQuiet_step (fun K hK => ?_)
       first
         | (refine hK _ ?_; clear hK K)
         | (apply Exists.intro
            refine ⟨fun wq hq => ?_, hK _ ?_⟩
            · obtain ⟨c0, c2, c3, d0, d1⟩ := HF.out wq hq
              go_simp
              first | exact ⟨rfl, rfl⟩ | exact rfl
            clear hK K)
       simp only [Act.put, List.setIfInBounds_toArray, List.set_cons_zero, List.set_cons_succ])
    iterate 1
      (refine wpQuiet_step (fun K hK => ?_)
       first
         | (refine hK _ ?_; clear hK K)
         | (apply Exists.intro
            refine ⟨fun wq hq => ?_, hK _ ?_⟩
            · go_simp
              first | exact calls_under hq ((HP.out wq).mono (fun _ _ ⟨he, hw⟩ => ⟨he, by rw [hw]; exact bal (Below.refl _ _)⟩))
            clear hK K)
       simp only [Act.put, List.setIfInBounds_toArray, List.set_cons_zero, List.set_cons_succ])
    iterate 2
      (refine wpQuiet_step (fun K hK => ?_)
       first
         | (refine hK _ ?_; clear hK K)
         | (apply Exists.intro
            refine ⟨fun wq hq => ?_, hK _ ?_⟩
            · go_simp
              first | exact ⟨rfl, rfl⟩ | exact rfl
            clear hK K)
       simp only [Act.put, List.setIfInBounds_toArray, List.set_cons_zero, List.set_cons_succ])
    refine wpQuiet_nil ?_
    intro w5 hq5
    go_wp2
    go_ret
    exact ⟨rfl, B1.trans (hq5.mono B1.size)⟩
  · have e1 : padRead ⟨s, cl, sc, 4⟩ [a, b, c, d, e] = 255 - e.four s sc := by unfold padRead; rw [if_pos (by show (0 : Int) ≤ 4 ∧ (4 : Int) < 5; decide)]; show 240 + 15 - e.four s sc = _; omega
    rw [e1]
    have hf := not_four _ (PadV.four_in e s sc)
    have HP := Lib.hid (fun w => pad_pressed e s sc w)
    generalize e.four s sc = f at *
    have A0 : Blk ((w.alloc (Obj.cells #[.bool s, .bool cl, .bool sc, .int .i64 4] 52)).alloc (Obj.cells #[.int .i64 a.keys, .bool a.six, .int .i64 b.keys, .bool b.six, .int .i64 c.keys, .bool c.six, .int .i64 d.keys, .bool d.six, .int .i64 e.keys, .bool e.six] 55)) w.heap.size _ _ := Blk.alloc (Blk.new w #[.bool s, .bool cl, .bool sc, .int .i64 4] 52) _
    have A1 : Blk ((w.alloc (Obj.cells #[.bool s, .bool cl, .bool sc, .int .i64 4] 52)).alloc (Obj.cells #[.int .i64 a.keys, .bool a.six, .int .i64 b.keys, .bool b.six, .int .i64 c.keys, .bool c.six, .int .i64 d.keys, .bool d.six, .int .i64 e.keys, .bool e.six] 55)) (w.heap.size + 1) _ _ := Blk.new' (w.alloc _) #[.int .i64 a.keys, .bool a.six, .int .i64 b.keys, .bool b.six, .int .i64 c.keys, .bool c.six, .int .i64 d.keys, .bool d.six, .int .i64 e.keys, .bool e.six] 55 (by simp)
    have B1 : Below w.heap.size w _ := bal (o := Obj.cells #[.int .i64 a.keys, .bool a.six, .int .i64 b.keys, .bool b.six, .int .i64 c.keys, .bool c.six, .int .i64 d.keys, .bool d.six, .int .i64 e.keys, .bool e.six] 55) (bal (o := Obj.cells #[.bool s, .bool cl, .bool sc, .int .i64 4] 52) (Below.refl w.heap.size w))
    go_enter Tryz.func136, Tryz.ntmps136
    go_wp2_with fail
    generalize (w.alloc (Obj.cells #[Value.bool s, Value.bool cl, Value.bool sc, Value.int IntKind.i64 4] 52)).alloc (Obj.cells #[.int .i64 a.keys, .bool a.six, .int .i64 b.keys, .bool b.six, .int .i64 c.keys, .bool c.six, .int .i64 d.keys, .bool d.six, .int .i64 e.keys, .bool e.six] 55) = w1 at *
    have FA : ∀ wq, Below w1.heap.size w1 wq → wq.cell? ⟨w.heap.size, 0, none⟩ = some (.bool s) ∧ wq.cell? ⟨w.heap.size, 2, none⟩ = some (.bool sc) ∧ wq.cell? ⟨w.heap.size, 3, none⟩ = some (.int .i64 4) ∧ wq.cell? ⟨w.heap.size + 1, 8, none⟩ = some (.int .i64 e.keys) ∧ wq.cell? ⟨w.heap.size + 1, 9, none⟩ = some (.bool e.six) := fun wq hq => by
      have A0 := Blk.below A0 hq
      have A1 := Blk.below A1 hq
      exact ⟨Blk.cell A0 0, Blk.cell A0 2, Blk.cell A0 3, Blk.cell A1 8, Blk.cell A1 9⟩
    have HF := Lib.hid FA
    have H191 : bits .or .i64 191 64 = 255 := by decide
    clear FA A0 A1
    refine wp_region_under (by kernel_rfl) (by kernel_rfl) ?_
    iterate 9
      (refine wpQuiet_step (fun K hK => ?_)
       first
         | (refine hK _ ?_; clear hK K)
         | (apply Exists.intro
            refine ⟨fun wq hq => ?_, hK _ ?_⟩
            · obtain ⟨c0, c2, c3, d0, d1⟩ := HF.out wq hq
              go_simp
              first | exact ⟨rfl, rfl⟩ | exact rfl
            clear hK K)
       simp only [Act.put, List.setIfInBounds_toArray, List.set_cons_zero, List.set_cons_succ])
    iterate 1
      (refine wpQuiet_step (fun K hK => ?_)
       first
         | (refine hK _ ?_; clear hK K)
         | (apply Exists.intro
            refine ⟨fun wq hq => ?_, hK _ ?_⟩
            · go_simp
              first | exact calls_under hq ((HP.out wq).mono (fun _ _ ⟨he, hw⟩ => ⟨he, by rw [hw]; exact bal (Below.refl _ _)⟩))
            clear hK K)
       simp only [Act.put, List.setIfInBounds_toArray, List.set_cons_zero, List.set_cons_succ])
    iterate 2
      (refine wpQuiet_step (fun K hK => ?_)
       first
         | (refine hK _ ?_; clear hK K)
         | (apply Exists.intro
            refine ⟨fun wq hq => ?_, hK _ ?_⟩
            · go_simp
              first | exact ⟨rfl, rfl⟩ | exact rfl
            clear hK K)
       simp only [Act.put, List.setIfInBounds_toArray, List.set_cons_zero, List.set_cons_succ])
    refine wpQuiet_nil ?_
    intro w5 hq5
    go_wp2
    go_ret
    exact ⟨rfl, B1.trans (hq5.mono B1.size)⟩
end Go.Proofs.YtnllkgjmoipgbaaGreatDoor
-- SmE
namespace Go.Proofs.YtnllkgjmoipgbaaGreatDoor
open Go Go.RowKit
set_option linter.unusedSimpArgs false
set_option linter.unusedVariables false
set_option maxRecDepth 100000

def isPages (p : Nat) : Prop := p = 1 ∨ p = 2 ∨ p = 4 ∨ p = 8
def classesC : Array Value := #[.int .i64 1, .int .i64 0, .int .i64 2, .int .i64 0, .int .i64 4, .int .i64 0, .int .i64 8, .int .i64 0, .int .i64 16, .int .i64 0, .int .i64 32, .int .i64 0, .int .i64 64, .int .i64 0, .int .i64 128, .int .i64 0, .int .i64 48, .int .i64 1, .int .i64 96, .int .i64 1, .int .i64 320, .int .i64 2]
theorem card_classes (w : World) : Calls Tryz.prog 203 #[] w fun e w' => e = .returned (.agg classesC) ∧ Below w.heap.size w w' := by
  have hb : ∀ w, (Instr.build 250 #[(0, .agg #[.int .i64 1, .int .i64 0]), (1, .agg #[.int .i64 2, .int .i64 0]), (2, .agg #[.int .i64 4, .int .i64 0]), (3, .agg #[.int .i64 8, .int .i64 0]), (4, .agg #[.int .i64 16, .int .i64 0]), (5, .agg #[.int .i64 32, .int .i64 0]), (6, .agg #[.int .i64 64, .int .i64 0]), (7, .agg #[.int .i64 128, .int .i64 0]), (8, .agg #[.int .i64 48, .int .i64 1]), (9, .agg #[.int .i64 96, .int .i64 1]), (10, .agg #[.int .i64 320, .int .i64 2])]).run Tryz.prog w = .ok (.agg classesC) w := fun w => by kernel_rfl
  have hs : (Tryz.prog.info? 250).map (·.size) = some classesC.size := by kernel_rfl
  have ho : classesC.all (·.oneCell') = true := by kernel_rfl
  have hz : ∀ w, (zeroValue 250).run Tryz.prog w = .ok (.agg (cellsI (zeros 22))) w := fun w => by kernel_rfl
  have hl : (cellsI (zeros 22)).size = classesC.size := by kernel_rfl
  generalize classesC = cc at *
  generalize cellsI (zeros 22) = zc at *
  have HB := Lib.hid hb
  have HS := Lib.hid hs
  have HO := Lib.hid ho
  have HL := Lib.hid hl
  clear hb hs ho hl
  have Z := Blk.new w zc 250
  go_enter Tryz.func203, Tryz.ntmps203
  go_wp2_with (first
    | (refine wpList_built rfl 250 _ rfl (HB.out _) (by kernel_rfl) ?_)
    | (refine wpList_store_row rfl 250 _ _ rfl w.heap.size cc rfl rfl 250 zc Z HS.out HL.out HO.out ?_))
  exact ret_row rfl rfl (Blk.setRow Z cc) Tryz.underlying250 rfl HS.out rfl ⟨rfl, below_setRow (bal (Below.refl _ _)) (Nat.le_refl _) _⟩
theorem run_class0 (w : World) : (Instr.index 250 (.agg classesC) (.int .i64 0)).run Tryz.prog w = .ok (.agg #[.int .i64 1, .int .i64 0]) w := by kernel_rfl
theorem run_class1 (w : World) : (Instr.index 250 (.agg classesC) (.int .i64 1)).run Tryz.prog w = .ok (.agg #[.int .i64 2, .int .i64 0]) w := by kernel_rfl
theorem run_class2 (w : World) : (Instr.index 250 (.agg classesC) (.int .i64 2)).run Tryz.prog w = .ok (.agg #[.int .i64 4, .int .i64 0]) w := by kernel_rfl
theorem run_class3 (w : World) : (Instr.index 250 (.agg classesC) (.int .i64 3)).run Tryz.prog w = .ok (.agg #[.int .i64 8, .int .i64 0]) w := by kernel_rfl
set_option maxHeartbeats 4000000 in
theorem card_Class (p : Nat) (hp : isPages p) (w : World) : Calls Tryz.prog 117 #[.int .i64 p] w fun e w' => e = .returned (.tuple #[.int .i64 0, .bool true]) ∧ Below w.heap.size w w' := by
  obtain ⟨j, hj, hpj⟩ : ∃ j : Nat, j < 4 ∧ p = 2 ^ j := by
    rcases hp with rfl | rfl | rfl | rfl
    · exact ⟨0, by decide, rfl⟩
    · exact ⟨1, by decide, rfl⟩
    · exact ⟨2, by decide, rfl⟩
    · exact ⟨3, by decide, rfl⟩
  rcases (show j = 0 ∨ j = 1 ∨ j = 2 ∨ j = 3 by omega) with rfl | rfl | rfl | rfl
  · subst hpj
    go_enter Tryz.func117, Tryz.ntmps117
    go_wp2_with fail
    refine (card_classes _).mono ?_; rintro e w1 ⟨rfl, b1⟩
    go_wp2_with fail
    go_loopw [7] (fun i wr => ∃ k : Nat, k ≤ 0 ∧ i = .int .i64 k ∧ Below w.heap.size w wr) (fun i _ => 4 - (intOf i).toNat)
    case atStart => exact ⟨0, by omega, rfl, b1⟩
    case round =>
      obtain ⟨k, hk, rfl, b2⟩ := hrel
      have s2 := b2.size
      have x0 := run_class0
      have x1 := run_class1
      have x2 := run_class2
      have x3 := run_class3
      obtain rfl : k = 0 := by omega
      go_wp2
      go_ret2
      exact ⟨rfl, b2.alloc s2 _⟩
  · subst hpj
    go_enter Tryz.func117, Tryz.ntmps117
    go_wp2_with fail
    refine (card_classes _).mono ?_; rintro e w1 ⟨rfl, b1⟩
    go_wp2_with fail
    go_loopw [7] (fun i wr => ∃ k : Nat, k ≤ 1 ∧ i = .int .i64 k ∧ Below w.heap.size w wr) (fun i _ => 4 - (intOf i).toNat)
    case atStart => exact ⟨0, by omega, rfl, b1⟩
    case round =>
      obtain ⟨k, hk, rfl, b2⟩ := hrel
      have s2 := b2.size
      have x0 := run_class0
      have x1 := run_class1
      have x2 := run_class2
      have x3 := run_class3
      rcases (show k = 0 ∨ k = 1 by omega) with rfl | rfl
      · go_wp2
        go_roundw
        case rel => exact ⟨1, by omega, rfl, b2.alloc s2 _⟩
        case measure => simp [intOf]
      · go_wp2
        go_ret2
        exact ⟨rfl, b2.alloc s2 _⟩
  · subst hpj
    go_enter Tryz.func117, Tryz.ntmps117
    go_wp2_with fail
    refine (card_classes _).mono ?_; rintro e w1 ⟨rfl, b1⟩
    go_wp2_with fail
    go_loopw [7] (fun i wr => ∃ k : Nat, k ≤ 2 ∧ i = .int .i64 k ∧ Below w.heap.size w wr) (fun i _ => 4 - (intOf i).toNat)
    case atStart => exact ⟨0, by omega, rfl, b1⟩
    case round =>
      obtain ⟨k, hk, rfl, b2⟩ := hrel
      have s2 := b2.size
      have x0 := run_class0
      have x1 := run_class1
      have x2 := run_class2
      have x3 := run_class3
      rcases (show k = 0 ∨ k = 1 ∨ k = 2 by omega) with rfl | rfl | rfl
      · go_wp2
        go_roundw
        case rel => exact ⟨1, by omega, rfl, b2.alloc s2 _⟩
        case measure => simp [intOf]
      · go_wp2
        go_roundw
        case rel => exact ⟨2, by omega, rfl, b2.alloc s2 _⟩
        case measure => simp [intOf]
      · go_wp2
        go_ret2
        exact ⟨rfl, b2.alloc s2 _⟩
  · subst hpj
    go_enter Tryz.func117, Tryz.ntmps117
    go_wp2_with fail
    refine (card_classes _).mono ?_; rintro e w1 ⟨rfl, b1⟩
    go_wp2_with fail
    go_loopw [7] (fun i wr => ∃ k : Nat, k ≤ 3 ∧ i = .int .i64 k ∧ Below w.heap.size w wr) (fun i _ => 4 - (intOf i).toNat)
    case atStart => exact ⟨0, by omega, rfl, b1⟩
    case round =>
      obtain ⟨k, hk, rfl, b2⟩ := hrel
      have s2 := b2.size
      have x0 := run_class0
      have x1 := run_class1
      have x2 := run_class2
      have x3 := run_class3
      rcases (show k = 0 ∨ k = 1 ∨ k = 2 ∨ k = 3 by omega) with rfl | rfl | rfl | rfl
      · go_wp2
        go_roundw
        case rel => exact ⟨1, by omega, rfl, b2.alloc s2 _⟩
        case measure => simp [intOf]
      · go_wp2
        go_roundw
        case rel => exact ⟨2, by omega, rfl, b2.alloc s2 _⟩
        case measure => simp [intOf]
      · go_wp2
        go_roundw
        case rel => exact ⟨3, by omega, rfl, b2.alloc s2 _⟩
        case measure => simp [intOf]
      · go_wp2
        go_ret2
        exact ⟨rfl, b2.alloc s2 _⟩
theorem card_Pages {w : World} {l : BusL} {B : BusV} (h : BusAt w l B) : Calls Tryz.prog 44 #[.pointer (some ⟨l.cp, 0, none⟩)] w fun e w' => e = .returned (.int .i64 B.pages) ∧ w = w' := by
  have c0 := Blk.cell h.card 0
  simp only [List.getElem?_toArray, List.getElem?_cons_zero] at c0
  have hr := h.ok.romL
  have hq : ((B.rom.length : Nat) : Int) / 8192 = B.pages := by omega
  have h8 : B.pages ≤ 8 := by rcases h.ok.pages with h | h | h | h <;> omega
  have hw : wrap64 (B.pages : Int) = B.pages := w64_in (by omega)
  clear hr
  go_enter Tryz.func44, Tryz.ntmps44
  go_wp2
  go_ret
  exact ⟨rfl, rfl⟩
theorem card_Byte {w : World} {l : BusL} {B : BusV} (h : BusAt w l B) (p a : Int) (hp : 0 ≤ p ∧ p < B.pages) (ha : 0 ≤ a ∧ a < 8192) : Calls Tryz.prog 63 #[.pointer (some ⟨l.cp, 0, none⟩), .int .i64 p, .int .i64 a] w fun e w' => e = .returned (.int .i64 (nth 0 B.rom (p * 8192 + a).toNat)) ∧ w = w' := by
  have c0 := Blk.cell h.card 0
  simp only [List.getElem?_toArray, List.getElem?_cons_zero] at c0
  have hr := h.ok.romL
  have h8 : B.pages ≤ 8 := by rcases h.ok.pages with h | h | h | h <;> omega
  have hk : (p * 8192 + a).toNat < B.rom.length := by omega
  obtain ⟨ad, ea, ca⟩ := h.rom.atN _ hk
  obtain rfl := Option.some.inj ea
  rw [Addr.add_mid, Nat.zero_add] at ca
  have hb := h.ok.rom (p * 8192 + a).toNat
  have e1 : IntKind.i64.wrap (p * 8192) = p * 8192 := IntWalk.i64_in _ (by omega)
  have e2 : IntKind.i64.wrap (p * 8192 + a) = p * 8192 + a := IntWalk.i64_in _ (by omega)
  have hP := Lib.hid (fun (_ : Unit) => card_Pages h)
  have hw : wrap64 (B.pages : Int) = B.pages := w64_in (by omega)
  generalize hz : nth 0 B.rom (p * 8192 + a).toNat = z at *
  have i1 : p * 8192 + a < (B.rom.length : Int) := by omega
  have i0 : 0 ≤ p * 8192 + a := by omega
  have d1 : decide (p ≥ (B.pages : Int)) = false := by simp; omega
  have d2 : decide ((B.pages : Int) ≤ p) = false := by simp; omega
  clear hr hk
  go_enter Tryz.func63, Tryz.ntmps63
  go_wp2_with fail
  refine (hP.out ()).mono ?_; rintro e w' ⟨rfl, rfl⟩
  go_wp2
  go_ret
  exact ⟨rfl, rfl⟩
/-- A card's page, of its plain kind. -/
theorem banks_pieces (p : Nat) (l : Int) (w : World) : Calls Tryz.prog 133 #[.int .i64 p, .int .i64 0, .int .i64 l] w fun e w' => e = .returned (.slice (some ⟨w.heap.size, 0, none⟩) 1 1) ∧ w' = w.alloc (Obj.cells #[.int .i64 0, .int .i64 0, .int .i64 p] 203) := by
  go_enter Tryz.func133, Tryz.ntmps133
  go_wp2
  go_ret
  exact ⟨rfl, rfl⟩
set_option maxHeartbeats 4000000 in
theorem banks_Page (p : Nat) (hp : isPages p) (l g : Int) (hg : 0 ≤ g ∧ g < 128) (w : World) : Calls Tryz.prog 64 #[.int .i64 p, .int .i64 l, .int .i64 g] w fun e w' => e = .returned (.int .i64 (g % p)) ∧ Below w.heap.size w w' := by
  have hp0 : (0 : Int) < p := by rcases hp with rfl | rfl | rfl | rfl <;> decide
  have hp8 : (p : Int) ≤ 8 := by rcases hp with rfl | rfl | rfl | rfl <;> decide
  have hm : Int.tmod g p = g % p := Int.tmod_eq_emod_of_nonneg hg.1
  have h0 := Int.emod_nonneg g (show (p : Int) ≠ 0 by omega)
  have h1 := Int.emod_lt_of_pos g hp0
  have hne : (p : Int) ≠ 0 := by omega
  go_enter Tryz.func64, Tryz.ntmps64
  go_wp2_with fail
  go_step3
  go_wp2_with fail
  refine (card_Class p hp _).mono ?_; rintro e w1 ⟨rfl, b1⟩
  go_wp2_with fail
  go_step3
  go_wp2_with fail
  refine (banks_pieces p l _).mono ?_; rintro e w2 ⟨rfl, rfl⟩
  go_wp2_with fail
  have A := Blk.new w1 #[.int .i64 0, .int .i64 0, .int .i64 p] 203
  have B2 := b1.alloc b1.size (Obj.cells #[.int .i64 0, .int .i64 0, .int .i64 p] 203)
  generalize w1.alloc (Obj.cells #[.int .i64 0, .int .i64 0, .int .i64 p] 203) = w2 at *
  generalize w1.heap.size = n1 at *
  clear b1
  go_loopw [32] (fun i wr => i = .int .i64 0 ∧ Blk wr n1 #[.int .i64 0, .int .i64 0, .int .i64 p] 203 ∧ Below w.heap.size w wr) (fun i _ => 1)
  case atStart => exact ⟨rfl, A, B2⟩
  case round =>
    clear A B2
    obtain ⟨rfl, A, B2⟩ := hrel
    have s2 := B2.size
    have c0 := Blk.cell A 0
    have c1 := Blk.cell A 1
    have c2 := Blk.cell A 2
    simp only [List.getElem?_toArray, List.getElem?_cons_zero, List.getElem?_cons_succ] at c0 c1 c2
    have hm2 : wrap64 (Int.tmod g p) = g % p := by rw [hm]; exact w64_in (by omega)
    have hw0 : wrap64 (g % p) = g % p := w64_in (by omega)
    clear A
    go_wp2_with fail
    go_quiet (fail)
    go_wp2
    try rw [Exit.noGoto_ret]
    go_ret
    exact ⟨rfl, below_drewN (B2.alloc s2 _) _⟩
theorem banks_Latch (p : Nat) (hp : isPages p) (l a : Int) (w : World) : Calls Tryz.prog 52 #[.int .i64 p, .int .i64 l, .int .i64 a] w fun e w' => e = .returned (.int .i64 l) ∧ Below w.heap.size w w' := by
  go_enter Tryz.func52, Tryz.ntmps52
  go_wp2_with fail
  refine (card_Class p hp _).mono ?_; rintro e w1 ⟨rfl, b1⟩
  go_wp2
  go_ret
  exact ⟨rfl, b1⟩
end Go.Proofs.YtnllkgjmoipgbaaGreatDoor
-- R2
namespace Go.Proofs.YtnllkgjmoipgbaaGreatDoor
open Go Go.RowKit
set_option linter.unusedSimpArgs false
set_option linter.unusedVariables false

section
variable {P : Program} {ops : Array Oper} {md : Region.Mode} {k1 k2 i : Nat} {D0 D1 D2 : World → Prop} {o : Oper} {v : Value} {a : Act}

def P2 (md : Region.Mode) (ops : Array Oper) (k1 k2 : Nat) (D0 D1 D2 : World → Prop) (L : Array Bool) (w : World) : Prop :=
  L.size = ops.size ∧ ClosedL md ops L ∧ (L.getD k1 false = false → D0 w) ∧ (L.getD k1 false = true → L.getD k2 false = false → D1 w) ∧ (L.getD k2 false = true → D2 w)

theorem ready_false {L : Array Bool} (hr : i ∈ Region.ready md ops L) : L.getD i false = false := getD_false_of (ready_lt hr).2

theorem YL.other2 (hg : Region.wanted o (yielded ops a.tmps) = true) (h1 : i ≠ k1) (h2 : i ≠ k2) (h : ∀ w, (D0 w ∨ D1 w ∨ D2 w) → lUpon P (fun w' => w' = w) v ((execOp a.eval o).run P w)) : YL P md ops (P2 md ops k1 k2 D0 D1 D2) i o v a := by
  refine .inl ⟨hg, fun L w hr hC => ?_⟩
  obtain ⟨hz, hc, ha, hb, hd⟩ := hC
  have hD : D0 w ∨ D1 w ∨ D2 w := by
    cases e2 : L.getD k2 false with
    | true => exact .inr (.inr (hd e2))
    | false =>
      cases e1 : L.getD k1 false with
      | true => exact .inr (.inl (hb e1 e2))
      | false => exact .inl (ha e1)
  have e : P2 md ops k1 k2 D0 D1 D2 (L.setIfInBounds i true) w :=
    ⟨by simpa using hz, hc.set hr, by rw [getD_set_ne false h1]; exact ha, by rw [getD_set_ne false h1, getD_set_ne false h2]; exact hb, by rw [getD_set_ne false h2]; exact hd⟩
  have h3 := h w hD
  generalize (execOp a.eval o).run P w = r at *
  cases r with
  | ok n w' =>
    cases n <;> simp only [lUpon] at h3 ⊢
    case value u => obtain ⟨rfl, rfl⟩ := h3; exact ⟨e, rfl⟩
    case skip => obtain ⟨rfl, rfl⟩ := h3; exact ⟨e, rfl⟩
    case enter f args => exact h3.mono fun _ w'' ⟨he, hw⟩ => ⟨he, by rw [hw]; exact e⟩
  | halt x w' => simp only [lUpon] at h3

theorem YL.first2 (hg : Region.wanted o (yielded ops a.tmps) = true) (hne : k1 ≠ k2) (hw : Region.waitsFor md ops k2 k1 = true) (h : ∀ w, D0 w → lUpon P D1 v ((execOp a.eval o).run P w)) : YL P md ops (P2 md ops k1 k2 D0 D1 D2) k1 o v a := by
  refine .inl ⟨hg, fun L w hr hC => ?_⟩
  obtain ⟨hz, hc, ha, hb, hd⟩ := hC
  have hf := ready_false hr
  obtain ⟨o2, ho2, e2, he2, hb2, hon⟩ := Region.waitsFor_spec hw
  have hk2 : L.getD k2 false = false := by
    cases e : L.getD k2 false with
    | false => rfl
    | true => have := hc k2 o2 ho2 e e2 he2 hb2; rw [hon, hf] at this; cases this
  have e : ∀ w', D1 w' → P2 md ops k1 k2 D0 D1 D2 (L.setIfInBounds k1 true) w' := fun w' hw' =>
    ⟨by simpa using hz, hc.set hr, by rw [getD_set_self false (by have := (ready_lt hr).1; omega)]; (intro hh; cases hh), fun _ _ => hw', by rw [getD_set_ne false hne, hk2]; (intro hh; cases hh)⟩
  have h3 := h w (ha hf)
  generalize (execOp a.eval o).run P w = r at *
  cases r with
  | ok n w' =>
    cases n <;> simp only [lUpon] at h3 ⊢
    case value u => exact ⟨e _ h3.1, h3.2⟩
    case skip => exact ⟨e _ h3.1, h3.2⟩
    case enter f args => exact h3.mono fun _ w'' ⟨he, hw⟩ => ⟨he, e _ hw⟩
  | halt x w' => simp only [lUpon] at h3

theorem YL.second2 (hg : Region.wanted o (yielded ops a.tmps) = true) (hne : k1 ≠ k2) (hw : Region.waitsFor md ops k2 k1 = true) (h : ∀ w, D1 w → lUpon P D2 v ((execOp a.eval o).run P w)) : YL P md ops (P2 md ops k1 k2 D0 D1 D2) k2 o v a := by
  refine .inl ⟨hg, fun L w hr hC => ?_⟩
  obtain ⟨hz, hc, ha, hb, hd⟩ := hC
  have hf := ready_false hr
  obtain ⟨o2, ho2, e2, he2, hb2, hon⟩ := Region.waitsFor_spec hw
  have hk1 : L.getD k1 false = true := by
    obtain ⟨_, o', ho', hall⟩ := mem_ready.1 hr
    obtain rfl : o2 = o' := Option.some.inj (ho2.symm.trans ho')
    have := hall e2 he2 hb2
    rwa [hon] at this
  have e : ∀ w', D2 w' → P2 md ops k1 k2 D0 D1 D2 (L.setIfInBounds k2 true) w' := fun w' hw' =>
    ⟨by simpa using hz, hc.set hr, by rw [getD_set_ne false (Ne.symm hne), hk1]; (intro hh; cases hh), by rw [getD_set_self false (by have := (ready_lt hr).1; omega)]; (intro _ hh; cases hh), fun _ => hw'⟩
  have h3 := h w (hb hk1 hf)
  generalize (execOp a.eval o).run P w = r at *
  cases r with
  | ok n w' =>
    cases n <;> simp only [lUpon] at h3 ⊢
    case value u => exact ⟨e _ h3.1, h3.2⟩
    case skip => exact ⟨e _ h3.1, h3.2⟩
    case enter f args => exact h3.mono fun _ w'' ⟨he, hw⟩ => ⟨he, e _ hw⟩
  | halt x w' => simp only [lUpon] at h3

theorem wp2_other {Q : Act → Prop} {rest : List Oper} (hg : Region.wanted o (yielded ops a.tmps) = true) (h1 : i ≠ k1) (h2 : i ≠ k2)
    (h : ∀ K : Act → Prop, (∀ a, wpL P md ops (P2 md ops k1 k2 D0 D1 D2) Q rest (i + 1) a → K a) → ∃ v, (∀ w, (D0 w ∨ D1 w ∨ D2 w) → lUpon P (fun w' => w' = w) v ((execOp a.eval o).run P w)) ∧ K (a.put o.dst v)) : wpL P md ops (P2 md ops k1 k2 D0 D1 D2) Q (o :: rest) i a :=
  let ⟨v, h4, h3⟩ := h _ (fun _ h => h)
  ⟨v, YL.other2 hg h1 h2 h4, h3⟩
theorem wp2_first {Q : Act → Prop} {rest : List Oper} (hg : Region.wanted o (yielded ops a.tmps) = true) (hne : k1 ≠ k2) (hw : Region.waitsFor md ops k2 k1 = true)
    (h : ∃ v, (∀ w, D0 w → lUpon P D1 v ((execOp a.eval o).run P w)) ∧ wpL P md ops (P2 md ops k1 k2 D0 D1 D2) Q rest (k1 + 1) (a.put o.dst v)) : wpL P md ops (P2 md ops k1 k2 D0 D1 D2) Q (o :: rest) k1 a :=
  let ⟨v, h4, h3⟩ := h
  ⟨v, YL.first2 hg hne hw h4, h3⟩
theorem wp2_second {Q : Act → Prop} {rest : List Oper} (hg : Region.wanted o (yielded ops a.tmps) = true) (hne : k1 ≠ k2) (hw : Region.waitsFor md ops k2 k1 = true)
    (h : ∃ v, (∀ w, D1 w → lUpon P D2 v ((execOp a.eval o).run P w)) ∧ wpL P md ops (P2 md ops k1 k2 D0 D1 D2) Q rest (k2 + 1) (a.put o.dst v)) : wpL P md ops (P2 md ops k1 k2 D0 D1 D2) Q (o :: rest) k2 a :=
  let ⟨v, h4, h3⟩ := h
  ⟨v, YL.second2 hg hne hw h4, h3⟩

/-- The region. -/
theorem wp_region_two {id : Nat} {Q : Exit → Act → World → Prop} {W : World} {l : List Oper} (k1 k2 : Nat) (D0 D1 D2 : World → Prop) (hm : P.follows .mixedOrders = true) (hB : Region.lexB .any l.toArray = true) (hE : edgesB .any l.toArray = true)
    (hk : k2 < l.length) (hD : D0 W.drew)
    (h : wpL P .any l.toArray (P2 .any l.toArray k1 k2 D0 D1 D2) (fun a' => ∀ w', D2 w' → Q .normal a' w') l 0 a) : (Code.region id l.toArray true).wp P Q a W := by
  have hmono : ∀ (C : Array Bool → World → Prop) (K K' : Act → Prop), (∀ a, K a → K' a) → ∀ (l' : List Oper) (j : Nat) (a : Act), wpL P .any l.toArray C K l' j a → wpL P .any l.toArray C K' l' j a := by
    intro C K K' hK l'
    induction l' with
    | nil => intro j a h; exact hK _ h
    | cons o l' ih => intro j a ⟨v, h1, h2⟩; exact ⟨v, h1, ih _ _ h2⟩
  refine wp_region_L (P2 .any l.toArray k1 k2 D0 D1 D2) hm hB ?_ (hmono _ _ _ ?_ _ _ _ h)
  · refine ⟨by simp, ?_, fun _ => hD, ?_, ?_⟩
    · intro j oj _ hl; rw [getD_replicate_false] at hl; cases hl
    · intro h; rw [getD_replicate_false] at h; cases h
    · intro h; rw [getD_replicate_false] at h; cases h
  · intro a' hq L w' hr hC
    refine hq w' (hC.2.2.2.2 ?_)
    have h1 := none_left hE hr (k2 + 1) k2 (by omega) (by simpa using hk)
    have hs : k2 < L.size := by rw [hC.1]; simpa using hk
    simp [hs] at h1 ⊢; exact h1
end

end Go.Proofs.YtnllkgjmoipgbaaGreatDoor
-- Rn
namespace Go.Proofs.YtnllkgjmoipgbaaGreatDoor
open Go Go.RowKit
set_option linter.unusedSimpArgs false
set_option linter.unusedVariables false

section
variable {P : Program} {ops : Array Oper} {md : Region.Mode} {ks : List Nat} {i : Nat} {D : Nat → World → Prop} {o : Oper} {v : Value} {a : Act}

def Pn (md : Region.Mode) (ops : Array Oper) (ks : List Nat) (D : Nat → World → Prop) (L : Array Bool) (w : World) : Prop :=
  L.size = ops.size ∧ ClosedL md ops L ∧ ∃ m, m ≤ ks.length ∧ (∀ j, j < m → L.getD (ks.getD j 0) false = true) ∧ (∀ j, m ≤ j → j < ks.length → L.getD (ks.getD j 0) false = false) ∧ D m w

/-- Each waits for the one before; none stands twice. -/
def chainedB (md : Region.Mode) (ops : Array Oper) (ks : List Nat) : Bool :=
  (List.range ks.length).all fun j => (j == 0 || Region.waitsFor md ops (ks.getD j 0) (ks.getD (j - 1) 0)) && (List.range ks.length).all fun j' => j == j' || ks.getD j 0 != ks.getD j' 0
theorem chainedB_waits (h : chainedB md ops ks = true) {j : Nat} (hj : j < ks.length) (h0 : j ≠ 0) : Region.waitsFor md ops (ks.getD j 0) (ks.getD (j - 1) 0) = true := by
  have := List.all_eq_true.1 h j (List.mem_range.2 hj)
  simp only [Bool.and_eq_true, Bool.or_eq_true, beq_iff_eq] at this
  exact this.1.resolve_left h0
theorem chainedB_ne (h : chainedB md ops ks = true) {j j' : Nat} (hj : j < ks.length) (hj' : j' < ks.length) (hne : j ≠ j') : ks.getD j 0 ≠ ks.getD j' 0 := by
  have := List.all_eq_true.1 h j (List.mem_range.2 hj)
  simp only [Bool.and_eq_true] at this
  have h2 := List.all_eq_true.1 this.2 j' (List.mem_range.2 hj')
  simp only [Bool.or_eq_true, beq_iff_eq, bne_iff_ne] at h2
  exact h2.resolve_left hne

theorem YL.otherN (hg : Region.wanted o (yielded ops a.tmps) = true) (hi : ∀ j, j < ks.length → i ≠ ks.getD j 0) (h : ∀ m w, m ≤ ks.length → D m w → lUpon P (D m) v ((execOp a.eval o).run P w)) : YL P md ops (Pn md ops ks D) i o v a := by
  refine .inl ⟨hg, fun L w hr hC => ?_⟩
  obtain ⟨hz, hc, m, hm, ha, hb, hd⟩ := hC
  have e : ∀ w', D m w' → Pn md ops ks D (L.setIfInBounds i true) w' := fun w' hw' =>
    ⟨by simpa using hz, hc.set hr, m, hm, fun j hj => by rw [getD_set_ne false (hi j (by omega))]; exact ha j hj, fun j hj hl => by rw [getD_set_ne false (hi j hl)]; exact hb j hj hl, hw'⟩
  have h3 := h m w hm hd
  generalize (execOp a.eval o).run P w = r at *
  cases r with
  | ok n w' =>
    cases n <;> simp only [lUpon] at h3 ⊢
    case value u => exact ⟨e _ h3.1, h3.2⟩
    case skip => exact ⟨e _ h3.1, h3.2⟩
    case enter f args => exact h3.mono fun _ w'' ⟨he, hw⟩ => ⟨he, e _ hw⟩
  | halt x w' => simp only [lUpon] at h3
theorem YL.noN (hg : Region.wanted o (yielded ops a.tmps) = false) (hi : ∀ j, j < ks.length → i ≠ ks.getD j 0) : YL P md ops (Pn md ops ks D) i o undef a := by
  refine .inr ⟨hg, rfl, fun L w hr hC => ?_⟩
  obtain ⟨hz, hc, m, hm, ha, hb, hd⟩ := hC
  exact ⟨by simpa using hz, hc.set hr, m, hm, fun j hj => by rw [getD_set_ne false (hi j (by omega))]; exact ha j hj, fun j hj hl => by rw [getD_set_ne false (hi j hl)]; exact hb j hj hl, hd⟩

theorem YL.turnN {j : Nat} (hg : Region.wanted o (yielded ops a.tmps) = true) (hj : j < ks.length) (hi : i = ks.getD j 0) (hch : chainedB md ops ks = true) (h : ∀ w, D j w → lUpon P (D (j + 1)) v ((execOp a.eval o).run P w)) : YL P md ops (Pn md ops ks D) i o v a := by
  refine .inl ⟨hg, fun L w hr hC => ?_⟩
  obtain ⟨hz, hc, m, hm, ha, hb, hd⟩ := hC
  have hf := ready_false hr
  have hlt := (ready_lt hr).1
  obtain rfl : m = j := by
    rcases Nat.lt_trichotomy m j with h1 | h1 | h1
    · exfalso
      obtain ⟨o2, ho2, e2, he2, hb2, hon⟩ := Region.waitsFor_spec (chainedB_waits hch hj (by omega))
      obtain ⟨_, o', ho', hall⟩ := mem_ready.1 hr
      rw [hi] at ho'
      obtain rfl : o2 = o' := Option.some.inj (ho2.symm.trans ho')
      have := hall e2 he2 hb2
      rw [hon, hb (j - 1) (by omega) (by omega)] at this
      cases this
    · exact h1
    · exfalso
      have := ha j h1
      rw [← hi, hf] at this; cases this
  have e : ∀ w', D (m + 1) w' → Pn md ops ks D (L.setIfInBounds i true) w' := fun w' hw' => by
    refine ⟨by simpa using hz, hc.set hr, m + 1, by omega, fun j' hj' => ?_, fun j' hj' hl => ?_, hw'⟩
    · by_cases hjm : j' = m
      · subst hjm; rw [← hi]; exact getD_set_self false (by omega)
      · rw [getD_set_ne false (by rw [hi]; exact chainedB_ne hch hj (by omega) (Ne.symm hjm))]; exact ha j' (by omega)
    · rw [getD_set_ne false (by rw [hi]; exact chainedB_ne hch hj hl (by omega))]; exact hb j' (by omega) hl
  have h3 := h w hd
  generalize (execOp a.eval o).run P w = r at *
  cases r with
  | ok n w' =>
    cases n <;> simp only [lUpon] at h3 ⊢
    case value u => exact ⟨e _ h3.1, h3.2⟩
    case skip => exact ⟨e _ h3.1, h3.2⟩
    case enter f args => exact h3.mono fun _ w'' ⟨he, hw⟩ => ⟨he, e _ hw⟩
  | halt x w' => simp only [lUpon] at h3

theorem wpN_other {Q : Act → Prop} {rest : List Oper} (hg : Region.wanted o (yielded ops a.tmps) = true) (hi : ∀ j, j < ks.length → i ≠ ks.getD j 0)
    (h : ∀ K : Act → Prop, (∀ a, wpL P md ops (Pn md ops ks D) Q rest (i + 1) a → K a) → ∃ v, (∀ m w, m ≤ ks.length → D m w → lUpon P (D m) v ((execOp a.eval o).run P w)) ∧ K (a.put o.dst v)) : wpL P md ops (Pn md ops ks D) Q (o :: rest) i a :=
  let ⟨v, h4, h3⟩ := h _ (fun _ h => h)
  ⟨v, YL.otherN hg hi h4, h3⟩
theorem wpN_skip {Q : Act → Prop} {rest : List Oper} (hg : Region.wanted o (yielded ops a.tmps) = false) (hi : ∀ j, j < ks.length → i ≠ ks.getD j 0)
    (h : wpL P md ops (Pn md ops ks D) Q rest (i + 1) (a.put o.dst undef)) : wpL P md ops (Pn md ops ks D) Q (o :: rest) i a :=
  ⟨undef, YL.noN hg hi, h⟩
theorem wpN_turn {Q : Act → Prop} {rest : List Oper} (j : Nat) (hg : Region.wanted o (yielded ops a.tmps) = true) (hj : j < ks.length) (hi : i = ks.getD j 0) (hch : chainedB md ops ks = true)
    (h : ∃ v, (∀ w, D j w → lUpon P (D (j + 1)) v ((execOp a.eval o).run P w)) ∧ wpL P md ops (Pn md ops ks D) Q rest (i + 1) (a.put o.dst v)) : wpL P md ops (Pn md ops ks D) Q (o :: rest) i a :=
  let ⟨v, h4, h3⟩ := h
  ⟨v, YL.turnN hg hj hi hch h4, h3⟩

/-- The region. -/
theorem wp_region_n {id : Nat} {Q : Exit → Act → World → Prop} {W : World} {l : List Oper} (ks : List Nat) (D : Nat → World → Prop) (hm : P.follows .mixedOrders = true) (hB : Region.lexB .any l.toArray = true) (hE : edgesB .any l.toArray = true)
    (hk : ks.all (· < l.length) = true) (hD : D 0 W.drew)
    (h : wpL P .any l.toArray (Pn .any l.toArray ks D) (fun a' => ∀ w', D ks.length w' → Q .normal a' w') l 0 a) : (Code.region id l.toArray true).wp P Q a W := by
  have hmono : ∀ (C : Array Bool → World → Prop) (K K' : Act → Prop), (∀ a, K a → K' a) → ∀ (l' : List Oper) (j : Nat) (a : Act), wpL P .any l.toArray C K l' j a → wpL P .any l.toArray C K' l' j a := by
    intro C K K' hK l'
    induction l' with
    | nil => intro j a h; exact hK _ h
    | cons o l' ih => intro j a ⟨v, h1, h2⟩; exact ⟨v, h1, ih _ _ h2⟩
  refine wp_region_L (Pn .any l.toArray ks D) hm hB ?_ (hmono _ _ _ ?_ _ _ _ h)
  · refine ⟨by simp, ?_, 0, Nat.zero_le _, fun j hj => by omega, fun j _ _ => getD_replicate_false _ _, hD⟩
    intro j oj _ hl; rw [getD_replicate_false] at hl; cases hl
  · intro a' hq L w' hr hC
    refine hq w' ?_
    obtain ⟨hz, hc, m, hm', ha, hb, hd⟩ := hC
    rcases Nat.lt_or_ge m ks.length with h1 | h1
    · exfalso
      have hlt : ks.getD m 0 < l.length := by
        have := List.all_eq_true.1 hk (ks.getD m 0) (by rw [List.getD_eq_getElem?_getD, List.getElem?_eq_getElem h1]; exact List.getElem_mem h1)
        simpa using this
      have h2 := none_left hE hr (ks.getD m 0 + 1) (ks.getD m 0) (by omega) (by simpa using hlt)
      have h3 := hb m (Nat.le_refl _) h1
      have hs : ks.getD m 0 < L.size := by rw [hz]; simpa using hlt
      generalize ks.getD m 0 = x at *
      simp [hs] at h2 h3
      rw [h2] at h3; cases h3
    · obtain rfl : m = ks.length := by omega
      exact hd
end

end Go.Proofs.YtnllkgjmoipgbaaGreatDoor
-- SmF
namespace Go.Proofs.YtnllkgjmoipgbaaGreatDoor
open Go Go.RowKit
set_option linter.unusedSimpArgs false
set_option linter.unusedVariables false
set_option maxRecDepth 100000

theorem not511 (n : Int) (h : 0 ≤ n ∧ n ≤ 511) : bits .andNot .i64 n 255 = n / 256 * 256 := by
  have : ∀ l : Fin 512, bits .andNot .i64 (l.val : Int) 255 = (l.val : Int) / 256 * 256 := by decide +kernel
  have := this ⟨n.toNat, by omega⟩
  simpa [Int.toNat_of_nonneg h.1] using this
theorem or511 (n : Int) (h : 0 ≤ n ∧ n ≤ 511) : bits .or .i64 n 256 = n % 256 + 256 ∧ bits .andNot .i64 n 256 = n % 256 := by
  have : ∀ l : Fin 512, bits .or .i64 (l.val : Int) 256 = (l.val : Int) % 256 + 256 ∧ bits .andNot .i64 (l.val : Int) 256 = (l.val : Int) % 256 := by decide +kernel
  have := this ⟨n.toNat, by omega⟩
  simpa [Int.toNat_of_nonneg h.1] using this
theorem vce_low (n b : Int) (h : 0 ≤ n ∧ n ≤ 511) (hb : 0 ≤ b ∧ b ≤ 255) (w : World) : Calls Tryz.prog 125 #[.int .i64 n, .int .i64 b] w fun e w' => e = .returned (.int .i64 (n / 256 * 256 + b)) ∧ w = w' := by
  have e0 : n % 512 = n := by omega
  have e1 := not511 n h
  have e2 : bits .or .i64 (n / 256 * 256) b = n / 256 * 256 + b := or_join64 8 _ _ (by omega) (by omega) hb.1 (by simp; omega) (by omega) (by simp)
  go_enter Tryz.func125, Tryz.ntmps125
  go_wp2
  go_ret
  exact ⟨rfl, rfl⟩
theorem bits_Put8 (n : Int) (h : 0 ≤ n ∧ n ≤ 511) (on : Bool) (w : World) : Calls Tryz.prog 208 #[.int .i64 n, .int .i64 8, .bool on] w fun e w' => e = .returned (.int .i64 (n % 256 + (if on then 256 else 0))) ∧ w = w' := by
  obtain ⟨h1, h2⟩ := or511 n h
  have HW := Lib.hid (fun n w => bits_Word n w)
  have H0 := Lib.hid h
  cases on
  · go_enter Tryz.func208, Tryz.ntmps208
    go_wp2_with fail
    refine (HW.out (n % 256) _).mono ?_; rintro e w' ⟨rfl, rfl⟩
    go_wp2
    go_ret
    exact ⟨ret_int (by have := H0.out; omega), rfl⟩
  · go_enter Tryz.func208, Tryz.ntmps208
    go_wp2_with fail
    refine (HW.out (n % 256 + 256) _).mono ?_; rintro e w' ⟨rfl, rfl⟩
    go_wp2
    go_ret
    exact ⟨ret_int (by have := H0.out; omega), rfl⟩
theorem vce_high (n b : Int) (h : 0 ≤ n ∧ n ≤ 511) (w : World) : Calls Tryz.prog 126 #[.int .i64 n, .int .i64 b] w fun e w' => e = .returned (.int .i64 (n % 256 + b % 2 * 256)) ∧ w = w' := by
  have e0 : n % 512 = n := by omega
  have hB := fun w => bits_Bit b 0 w
  rw [bit0] at hB
  have HB := Lib.hid hB
  have HP := Lib.hid (fun on w => bits_Put8 n h on w)
  clear hB
  rcases (show b % 2 = 0 ∨ b % 2 = 1 by omega) with hb | hb
  all_goals
    rw [hb] at HB ⊢
    go_enter Tryz.func126, Tryz.ntmps126
    go_wp2_with fail
    refine (HB.out _).mono ?_; rintro e w' ⟨rfl, rfl⟩
    go_wp2_with fail
    refine (HP.out _ _).mono ?_; rintro e w' ⟨rfl, rfl⟩
    go_wp2
    go_ret
    exact ⟨by first | rfl | exact ret_int (by simp), rfl⟩
/-! ### Writes -/
theorem VceV.set_control (v : VceV) (x : Int) : v.cells.toArray.setIfInBounds 0 (.int .i64 x) = (VceV.cells { v with control := x }).toArray := rfl
theorem VceV.set_addr (v : VceV) (x : Int) : v.cells.toArray.setIfInBounds 1 (.int .i64 x) = (VceV.cells { v with addr := x }).toArray := rfl
theorem VceV.set_table (v : VceV) (i : Nat) (x : Int) : v.cells.toArray.setIfInBounds (2 + i) (.int .i64 x) = (VceV.cells { v with table := v.table.set i x }).toArray := by
  rw [List.setIfInBounds_toArray]
  congr 1
  unfold VceV.cells intsC
  rw [List.set_append_right _ _ (by simp), List.map_set]
  simp
theorem VceV.one {v : VceV} : v.cells.toArray.all (·.oneCell') = true := all_oneCell_toArray fun x hx => by
  simp only [VceV.cells, intsC, List.mem_append, List.mem_cons, List.mem_map, List.not_mem_nil, or_false] at hx
  rcases hx with (rfl | rfl) | ⟨_, _, rfl⟩ <;> rfl
theorem VceV.size {v : VceV} (h : v.Len) : v.cells.toArray.size = 514 := by simpa using VceV.length h
theorem zeroVceSize : (Tryz.zeroCells40).size = 514 := by kernel_rfl
set_option maxHeartbeats 4000000 in
theorem vce_Write (v : VceV) (hv : v.Ok) (a b : Int) (hb : 0 ≤ b ∧ b ≤ 255) (w : World) : Calls Tryz.prog 54 #[.agg v.cells.toArray, .int .i64 a, .int .i64 b] w fun e w' => e = .returned (.agg (v.write a b).cells.toArray) ∧ Below w.heap.size w w' := by
  have A := Blk.alloc (Blk.new w v.cells.toArray 40) (Obj.cells Tryz.zeroCells40 40)
  have R := Blk.new' (w.alloc (Obj.cells v.cells.toArray 40)) Tryz.zeroCells40 40 (n := w.heap.size + 1) (by simp)
  have B : Below w.heap.size w ((w.alloc (Obj.cells v.cells.toArray 40)).alloc (Obj.cells Tryz.zeroCells40 40)) := bal (bal (Below.refl _ _))
  have ha := hv.addr
  have HT := Lib.hid hv.table
  have hlen := hv.len
  have hok := Lib.hid (hv.write a b hb)
  have hb256 : b % 256 = b := by omega
  have hk : v.addr % 512 = v.addr := by omega
  have HS : ∀ u : VceV, u.Len → ((Tryz.prog.info? 40).map (·.size) = some u.cells.toArray.size) := fun u hu => by rw [VceV.size hu]; exact tVce
  have HZ : ∀ u : VceV, u.Len → ((Tryz.zeroCells40).size = u.cells.toArray.size) := fun u hu => by rw [VceV.size hu]; exact zeroVceSize
  have HI := Lib.hid HS
  have HZ' := Lib.hid HZ
  have fin : ∀ (u : VceV), u.Ok → True := fun _ _ => trivial
  clear HS HZ hv fin
  rcases (show a = 0 ∨ a = 2 ∨ a = 3 ∨ a = 4 ∨ a = 5 ∨ (a ≠ 0 ∧ a ≠ 2 ∧ a ≠ 3 ∧ a ≠ 4 ∧ a ≠ 5) by omega) with rfl | rfl | rfl | rfl | rfl | ⟨n0, n2, n3, n4, n5⟩
  · have e : v.write 0 b = { v with control := b } := rfl
    rw [e] at hok ⊢
    clear e
    obtain ⟨c0, c1, c2⟩ := VceV.reads (range_of_blk A) hlen
    have c3 := c2 v.addr.toNat (by omega)
    simp only [Nat.zero_add] at c1 c3
    have f0 := Blk.free A 0
    have f1 := Blk.free A 1
    have f3 := Blk.free A (2 + v.addr.toNat)
    have ht := HT.out v.addr.toNat
    clear c2
    generalize hvc : v.cells.toArray = vc at *
    go_enter Tryz.func54, Tryz.ntmps54
    go_upto_region 1 with (fail)
    generalize (w.alloc (Obj.cells vc 40)).alloc (Obj.cells Tryz.zeroCells40 40) = w2 at *
    have hl2 := Blk.lt R
    go_wp2_with fail
    refine (bits_Byte b _).mono ?_; rintro e w' ⟨rfl, rfl⟩
    rw [hb256]
    go_upto_region 14 with (fail)
    have A2 := Blk.set (i := 0) A (.int .i64 b)
    rw [← hvc, VceV.set_control] at A2
    replace R := Blk.other (b' := w.heap.size) (i := 0) R (.int .i64 b) (by omega)
    replace B := bst (i := 0) (v := .int .i64 b) B (Nat.le_refl _)
    clear c0 c1 c3 f0 f1 f3 A
    have A := A2
    clear A2
    generalize w2.setCell ⟨w.heap.size, 0, none⟩ (.int .i64 b) = w3 at *
    have hs := (HI.out ({ v with control := b } : VceV) hok.out.len)
    have hz := (HZ'.out ({ v with control := b } : VceV) hok.out.len)
    have HS1 := Lib.hid hs
    have HZ1 := Lib.hid hz
    clear hs hz HI HZ'
    generalize hu : ({ v with control := b } : VceV) = u at *
    have HU := Lib.hid hu
    clear hu
    generalize Tryz.zeroCells40 = zc at *
    go_wp2_with (first
      | (refine wpList_load_row rfl 40 _ rfl w.heap.size rfl 40 u.cells.toArray (0, 0) _ A Tryz.underlying40 rfl HS1.out ?_)
      | (refine wpList_store_row rfl 40 _ _ rfl (w.heap.size + 1) u.cells.toArray rfl rfl 40 zc R HS1.out HZ1.out VceV.one ?_))
    exact ret_row rfl rfl (Blk.setRow R _) Tryz.underlying40 rfl HS1.out rfl ⟨by first | (rw [← HU.out]; done) | (rw [hvc]; done) | (rw [← HU.out, hvc]), below_setRow B (by omega) _⟩
  · have e : v.write 2 b = { v with addr := v.addr / 256 * 256 + b } := rfl
    rw [e] at hok ⊢
    clear e
    obtain ⟨c0, c1, c2⟩ := VceV.reads (range_of_blk A) hlen
    have c3 := c2 v.addr.toNat (by omega)
    simp only [Nat.zero_add] at c1 c3
    have f0 := Blk.free A 0
    have f1 := Blk.free A 1
    have f3 := Blk.free A (2 + v.addr.toNat)
    have ht := HT.out v.addr.toNat
    clear c2
    generalize hvc : v.cells.toArray = vc at *
    go_enter Tryz.func54, Tryz.ntmps54
    go_upto_region 1 with (fail)
    generalize (w.alloc (Obj.cells vc 40)).alloc (Obj.cells Tryz.zeroCells40 40) = w2 at *
    have hl2 := Blk.lt R
    go_wp2_with fail
    refine (bits_Byte b _).mono ?_; rintro e w' ⟨rfl, rfl⟩
    rw [hb256]
    go_wp2_with fail
    refine (vce_low v.addr b (by omega) hb _).mono ?_; rintro e w' ⟨rfl, rfl⟩
    go_upto_region 14 with (fail)
    have A2 := Blk.set (i := 1) A (.int .i64 (v.addr / 256 * 256 + b))
    rw [← hvc, VceV.set_addr] at A2
    replace R := Blk.other (b' := w.heap.size) (i := 1) R (.int .i64 (v.addr / 256 * 256 + b)) (by omega)
    replace B := bst (i := 1) (v := .int .i64 (v.addr / 256 * 256 + b)) B (Nat.le_refl _)
    clear c0 c1 c3 f0 f1 f3 A
    have A := A2
    clear A2
    generalize w2.setCell ⟨w.heap.size, 1, none⟩ (.int .i64 (v.addr / 256 * 256 + b)) = w3 at *
    have hs := (HI.out ({ v with addr := v.addr / 256 * 256 + b } : VceV) hok.out.len)
    have hz := (HZ'.out ({ v with addr := v.addr / 256 * 256 + b } : VceV) hok.out.len)
    have HS1 := Lib.hid hs
    have HZ1 := Lib.hid hz
    clear hs hz HI HZ'
    generalize hu : ({ v with addr := v.addr / 256 * 256 + b } : VceV) = u at *
    have HU := Lib.hid hu
    clear hu
    generalize Tryz.zeroCells40 = zc at *
    go_wp2_with (first
      | (refine wpList_load_row rfl 40 _ rfl w.heap.size rfl 40 u.cells.toArray (0, 0) _ A Tryz.underlying40 rfl HS1.out ?_)
      | (refine wpList_store_row rfl 40 _ _ rfl (w.heap.size + 1) u.cells.toArray rfl rfl 40 zc R HS1.out HZ1.out VceV.one ?_))
    exact ret_row rfl rfl (Blk.setRow R _) Tryz.underlying40 rfl HS1.out rfl ⟨by first | (rw [← HU.out]; done) | (rw [hvc]; done) | (rw [← HU.out, hvc]), below_setRow B (by omega) _⟩
  · have e : v.write 3 b = { v with addr := v.addr % 256 + b % 2 * 256 } := rfl
    rw [e] at hok ⊢
    clear e
    obtain ⟨c0, c1, c2⟩ := VceV.reads (range_of_blk A) hlen
    have c3 := c2 v.addr.toNat (by omega)
    simp only [Nat.zero_add] at c1 c3
    have f0 := Blk.free A 0
    have f1 := Blk.free A 1
    have f3 := Blk.free A (2 + v.addr.toNat)
    have ht := HT.out v.addr.toNat
    clear c2
    generalize hvc : v.cells.toArray = vc at *
    go_enter Tryz.func54, Tryz.ntmps54
    go_upto_region 1 with (fail)
    generalize (w.alloc (Obj.cells vc 40)).alloc (Obj.cells Tryz.zeroCells40 40) = w2 at *
    have hl2 := Blk.lt R
    go_wp2_with fail
    refine (bits_Byte b _).mono ?_; rintro e w' ⟨rfl, rfl⟩
    rw [hb256]
    go_wp2_with fail
    refine (vce_high v.addr b (by omega) _).mono ?_; rintro e w' ⟨rfl, rfl⟩
    go_upto_region 14 with (fail)
    have A2 := Blk.set (i := 1) A (.int .i64 (v.addr % 256 + b % 2 * 256))
    rw [← hvc, VceV.set_addr] at A2
    replace R := Blk.other (b' := w.heap.size) (i := 1) R (.int .i64 (v.addr % 256 + b % 2 * 256)) (by omega)
    replace B := bst (i := 1) (v := .int .i64 (v.addr % 256 + b % 2 * 256)) B (Nat.le_refl _)
    clear c0 c1 c3 f0 f1 f3 A
    have A := A2
    clear A2
    generalize w2.setCell ⟨w.heap.size, 1, none⟩ (.int .i64 (v.addr % 256 + b % 2 * 256)) = w3 at *
    have hs := (HI.out ({ v with addr := v.addr % 256 + b % 2 * 256 } : VceV) hok.out.len)
    have hz := (HZ'.out ({ v with addr := v.addr % 256 + b % 2 * 256 } : VceV) hok.out.len)
    have HS1 := Lib.hid hs
    have HZ1 := Lib.hid hz
    clear hs hz HI HZ'
    generalize hu : ({ v with addr := v.addr % 256 + b % 2 * 256 } : VceV) = u at *
    have HU := Lib.hid hu
    clear hu
    generalize Tryz.zeroCells40 = zc at *
    go_wp2_with (first
      | (refine wpList_load_row rfl 40 _ rfl w.heap.size rfl 40 u.cells.toArray (0, 0) _ A Tryz.underlying40 rfl HS1.out ?_)
      | (refine wpList_store_row rfl 40 _ _ rfl (w.heap.size + 1) u.cells.toArray rfl rfl 40 zc R HS1.out HZ1.out VceV.one ?_))
    exact ret_row rfl rfl (Blk.setRow R _) Tryz.underlying40 rfl HS1.out rfl ⟨by first | (rw [← HU.out]; done) | (rw [hvc]; done) | (rw [← HU.out, hvc]), below_setRow B (by omega) _⟩
  · have e : v.write 4 b = { v with table := v.table.set v.addr.toNat (nth 0 v.table v.addr.toNat / 256 * 256 + b) } := rfl
    rw [e] at hok ⊢
    clear e
    obtain ⟨c0, c1, c2⟩ := VceV.reads (range_of_blk A) hlen
    have c3 := c2 v.addr.toNat (by omega)
    simp only [Nat.zero_add] at c1 c3
    have f0 := Blk.free A 0
    have f1 := Blk.free A 1
    have f3 := Blk.free A (2 + v.addr.toNat)
    have ht := HT.out v.addr.toNat
    clear c2
    generalize hvc : v.cells.toArray = vc at *
    go_enter Tryz.func54, Tryz.ntmps54
    go_upto_region 1 with (fail)
    generalize (w.alloc (Obj.cells vc 40)).alloc (Obj.cells Tryz.zeroCells40 40) = w2 at *
    have hl2 := Blk.lt R
    go_wp2_with fail
    refine (bits_Byte b _).mono ?_; rintro e w' ⟨rfl, rfl⟩
    rw [hb256]
    go_wp2_with fail
    refine (vce_low (nth 0 v.table v.addr.toNat) b ht hb _).mono ?_; rintro e w' ⟨rfl, rfl⟩
    go_upto_region 14 with (fail)
    have A1 := Blk.set (i := 1) A (.int .i64 v.addr)
    rw [← hvc, VceV.set_addr] at A1
    have A2 := Blk.set (i := 2 + v.addr.toNat) A1 (.int .i64 (nth 0 v.table v.addr.toNat / 256 * 256 + b))
    rw [VceV.set_table] at A2
    replace R := Blk.other (b' := w.heap.size) (i := 2 + v.addr.toNat) (Blk.other (b' := w.heap.size) (i := 1) R (.int .i64 v.addr) (by omega)) (.int .i64 (nth 0 v.table v.addr.toNat / 256 * 256 + b)) (by omega)
    replace B := bst (i := 2 + v.addr.toNat) (v := .int .i64 (nth 0 v.table v.addr.toNat / 256 * 256 + b)) (bst (i := 1) (v := .int .i64 v.addr) B (Nat.le_refl _)) (Nat.le_refl _)
    clear c0 c1 c3 f0 f1 f3 A A1
    have A : Blk _ w.heap.size (VceV.cells { v with table := v.table.set v.addr.toNat (nth 0 v.table v.addr.toNat / 256 * 256 + b) }).toArray _ := A2
    clear A2
    generalize (w2.setCell ⟨w.heap.size, 1, none⟩ (.int .i64 v.addr)).setCell ⟨w.heap.size, 2 + v.addr.toNat, none⟩ (.int .i64 (nth 0 v.table v.addr.toNat / 256 * 256 + b)) = w3 at *
    have hs := (HI.out ({ v with table := v.table.set v.addr.toNat (nth 0 v.table v.addr.toNat / 256 * 256 + b) } : VceV) hok.out.len)
    have hz := (HZ'.out ({ v with table := v.table.set v.addr.toNat (nth 0 v.table v.addr.toNat / 256 * 256 + b) } : VceV) hok.out.len)
    have HS1 := Lib.hid hs
    have HZ1 := Lib.hid hz
    clear hs hz HI HZ'
    generalize hu : ({ v with table := v.table.set v.addr.toNat (nth 0 v.table v.addr.toNat / 256 * 256 + b) } : VceV) = u at *
    have HU := Lib.hid hu
    clear hu
    generalize Tryz.zeroCells40 = zc at *
    go_wp2_with (first
      | (refine wpList_load_row rfl 40 _ rfl w.heap.size rfl 40 u.cells.toArray (0, 0) _ A Tryz.underlying40 rfl HS1.out ?_)
      | (refine wpList_store_row rfl 40 _ _ rfl (w.heap.size + 1) u.cells.toArray rfl rfl 40 zc R HS1.out HZ1.out VceV.one ?_))
    exact ret_row rfl rfl (Blk.setRow R _) Tryz.underlying40 rfl HS1.out rfl ⟨by first | (rw [← HU.out]; done) | (rw [hvc]; done) | (rw [← HU.out, hvc]), below_setRow B (by omega) _⟩
  · have e : v.write 5 b = { v with addr := (v.addr + 1) % 512, table := v.table.set v.addr.toNat (nth 0 v.table v.addr.toNat % 256 + b % 2 * 256) } := rfl
    rw [e] at hok ⊢
    clear e
    obtain ⟨c0, c1, c2⟩ := VceV.reads (range_of_blk A) hlen
    have c3 := c2 v.addr.toNat (by omega)
    simp only [Nat.zero_add] at c1 c3
    have f0 := Blk.free A 0
    have f1 := Blk.free A 1
    have f3 := Blk.free A (2 + v.addr.toNat)
    have ht := HT.out v.addr.toNat
    clear c2
    generalize hvc : v.cells.toArray = vc at *
    go_enter Tryz.func54, Tryz.ntmps54
    go_upto_region 1 with (fail)
    generalize (w.alloc (Obj.cells vc 40)).alloc (Obj.cells Tryz.zeroCells40 40) = w2 at *
    have hl2 := Blk.lt R
    go_wp2_with fail
    refine (bits_Byte b _).mono ?_; rintro e w' ⟨rfl, rfl⟩
    rw [hb256]
    go_wp2_with fail
    refine (vce_high (nth 0 v.table v.addr.toNat) b ht _).mono ?_; rintro e w' ⟨rfl, rfl⟩
    go_upto_region 14 with (fail)
    have A1 := Blk.set (i := 1) A (.int .i64 ((v.addr + 1) % 512))
    rw [← hvc, VceV.set_addr] at A1
    have A2 := Blk.set (i := 2 + v.addr.toNat) A1 (.int .i64 (nth 0 v.table v.addr.toNat % 256 + b % 2 * 256))
    rw [VceV.set_table] at A2
    replace R := Blk.other (b' := w.heap.size) (i := 2 + v.addr.toNat) (Blk.other (b' := w.heap.size) (i := 1) R (.int .i64 ((v.addr + 1) % 512)) (by omega)) (.int .i64 (nth 0 v.table v.addr.toNat % 256 + b % 2 * 256)) (by omega)
    replace B := bst (i := 2 + v.addr.toNat) (v := .int .i64 (nth 0 v.table v.addr.toNat % 256 + b % 2 * 256)) (bst (i := 1) (v := .int .i64 ((v.addr + 1) % 512)) B (Nat.le_refl _)) (Nat.le_refl _)
    clear c0 c1 c3 f0 f1 f3 A A1
    have A : Blk _ w.heap.size (VceV.cells { v with addr := (v.addr + 1) % 512, table := v.table.set v.addr.toNat (nth 0 v.table v.addr.toNat % 256 + b % 2 * 256) }).toArray _ := A2
    clear A2
    generalize (w2.setCell ⟨w.heap.size, 1, none⟩ (.int .i64 ((v.addr + 1) % 512))).setCell ⟨w.heap.size, 2 + v.addr.toNat, none⟩ (.int .i64 (nth 0 v.table v.addr.toNat % 256 + b % 2 * 256)) = w3 at *
    have hs := (HI.out ({ v with addr := (v.addr + 1) % 512, table := v.table.set v.addr.toNat (nth 0 v.table v.addr.toNat % 256 + b % 2 * 256) } : VceV) hok.out.len)
    have hz := (HZ'.out ({ v with addr := (v.addr + 1) % 512, table := v.table.set v.addr.toNat (nth 0 v.table v.addr.toNat % 256 + b % 2 * 256) } : VceV) hok.out.len)
    have HS1 := Lib.hid hs
    have HZ1 := Lib.hid hz
    clear hs hz HI HZ'
    generalize hu : ({ v with addr := (v.addr + 1) % 512, table := v.table.set v.addr.toNat (nth 0 v.table v.addr.toNat % 256 + b % 2 * 256) } : VceV) = u at *
    have HU := Lib.hid hu
    clear hu
    generalize Tryz.zeroCells40 = zc at *
    go_wp2_with (first
      | (refine wpList_load_row rfl 40 _ rfl w.heap.size rfl 40 u.cells.toArray (0, 0) _ A Tryz.underlying40 rfl HS1.out ?_)
      | (refine wpList_store_row rfl 40 _ _ rfl (w.heap.size + 1) u.cells.toArray rfl rfl 40 zc R HS1.out HZ1.out VceV.one ?_))
    exact ret_row rfl rfl (Blk.setRow R _) Tryz.underlying40 rfl HS1.out rfl ⟨by first | (rw [← HU.out]; done) | (rw [hvc]; done) | (rw [← HU.out, hvc]), below_setRow B (by omega) _⟩
  · have e : v.write a b = v := by unfold VceV.write; rw [if_neg n0, if_neg n2, if_neg n3, if_neg n4, if_neg n5]
    rw [e] at hok ⊢
    clear e
    obtain ⟨c0, c1, c2⟩ := VceV.reads (range_of_blk A) hlen
    have c3 := c2 v.addr.toNat (by omega)
    simp only [Nat.zero_add] at c1 c3
    have f0 := Blk.free A 0
    have f1 := Blk.free A 1
    have f3 := Blk.free A (2 + v.addr.toNat)
    have ht := HT.out v.addr.toNat
    clear c2
    generalize hvc : v.cells.toArray = vc at *
    go_enter Tryz.func54, Tryz.ntmps54
    go_upto_region 1 with (fail)
    generalize (w.alloc (Obj.cells vc 40)).alloc (Obj.cells Tryz.zeroCells40 40) = w2 at *
    have hl2 := Blk.lt R
    go_wp2_with fail
    refine (bits_Byte b _).mono ?_; rintro e w' ⟨rfl, rfl⟩
    rw [hb256]
    go_upto_region 14 with (fail)
    rw [← hvc] at A
    clear c0 c1 c3 f0 f1 f3
    have hs := (HI.out v hok.out.len)
    have hz := (HZ'.out v hok.out.len)
    have HS1 := Lib.hid hs
    have HZ1 := Lib.hid hz
    clear hs hz HI HZ'
    generalize hu : v = u at *
    have HU := Lib.hid hu
    clear hu
    generalize Tryz.zeroCells40 = zc at *
    go_wp2_with (first
      | (refine wpList_load_row rfl 40 _ rfl w.heap.size rfl 40 u.cells.toArray (0, 0) _ A Tryz.underlying40 rfl HS1.out ?_)
      | (refine wpList_store_row rfl 40 _ _ rfl (w.heap.size + 1) u.cells.toArray rfl rfl 40 zc R HS1.out HZ1.out VceV.one ?_))
    exact ret_row rfl rfl (Blk.setRow R _) Tryz.underlying40 rfl HS1.out rfl ⟨by first | (rw [← HU.out]; done) | (rw [hvc]; done) | (rw [← HU.out, hvc]), below_setRow B (by omega) _⟩
theorem ret_tmp_row {P : Program} {fn : Func} {R : Ending → World → Prop} {a : Act} {w : World} {p u : Tmp} {ty t : TypeId} {g : Nat} {cs : Array Value} {d : TypeDesc} {v : Value} (h : fn.results = #[.tmp u, .cell p ty])
    (hp : a.tmps.getD p undef = .pointer (some ⟨g, 0, none⟩)) (hg : Blk w g cs t) (hu : P.underlying ty = some d) (hd : (match d with | .struct _ | .array _ _ => true | _ => false) = true) (hi : (P.info? ty).map (·.size) = some cs.size)
    (hv : a.tmps.getD u undef = v) (hdf : a.defers = []) (hR : R (.returned (.tuple #[v, .agg cs])) w) : bodyPost P fn R .ret a w := by
  refine bodyPost_ret (v := .tuple #[v, .agg cs]) ?_ hdf hR
  have hp' : a.tmps[p]?.getD undef = .pointer (some ⟨g, 0, none⟩) := by simpa using hp
  have hv' : a.tmps[u]?.getD undef = v := by simpa using hv
  simp [results, h, hp', hv', asAddr, run_loadVar_row w g t ty cs (0, 0) d hg hu hd hi]
theorem byte_of_511 (z : Int) (h : 0 ≤ z ∧ z ≤ 511) : bits .or .i64 254 (z / 256) = 254 + z / 256 := by
  have : bits .or .i64 254 0 = 254 ∧ bits .or .i64 254 1 = 255 := by decide +kernel
  rcases (show z / 256 = 0 ∨ z / 256 = 1 by omega) with h | h
  · rw [h]; exact this.1
  · rw [h]; exact this.2
section
variable {vc zc : Array Value} {n0 : Nat} {w2 W : World}
/-- What a read leaves: the colours in their block, and the answer in its own, or not yet. -/
def RdD (vc zc : Array Value) (n0 : Nat) (W : World) (m : Nat) (w' : World) : Prop := Blk w' n0 vc 40 ∧ Blk w' (n0 + 1) (if m = 0 then zc else vc) 40 ∧ Below n0 W w'
theorem RdD.next {w : World} (h : RdD vc zc n0 W 0 w) : RdD vc zc n0 W 1 (w.setRow (n0 + 1) vc) := by
  obtain ⟨h1, h2, h3⟩ := h
  exact ⟨Blk.setRow_other h1 vc (by omega), Blk.setRow h2 vc, below_setRow h3 (by omega) vc⟩
end
set_option maxHeartbeats 4000000 in
theorem vce_Read (v : VceV) (hv : v.Ok) (a : Int) (w : World) : Calls Tryz.prog 134 #[.agg v.cells.toArray, .int .i64 a] w fun e w' => e = .returned (.tuple #[.int .i64 (v.read a), .agg (v.got a).cells.toArray]) ∧ Below w.heap.size w w' := by
  have A := Blk.alloc (Blk.new w v.cells.toArray 40) (Obj.cells Tryz.zeroCells40 40)
  have R := Blk.new' (w.alloc (Obj.cells v.cells.toArray 40)) Tryz.zeroCells40 40 (n := w.heap.size + 1) (by simp)
  have B : Below w.heap.size w ((w.alloc (Obj.cells v.cells.toArray 40)).alloc (Obj.cells Tryz.zeroCells40 40)) := bal (bal (Below.refl _ _))
  have ha := hv.addr
  have hlen := hv.len
  have ht := hv.table v.addr.toNat
  have hk : v.addr % 512 = v.addr := by omega
  obtain ⟨c0, c1, c2⟩ := VceV.reads (range_of_blk A) hlen
  have c3 := c2 v.addr.toNat (by omega)
  simp only [Nat.zero_add] at c1 c3
  have f1 := Blk.free A 1
  have htk : nth 0 v.table v.addr.toNat % 512 = nth 0 v.table v.addr.toNat := by omega
  have hs := VceV.size hlen
  clear c2
  rcases (show a = 4 ∨ a = 5 ∨ (a ≠ 4 ∧ a ≠ 5) by omega) with rfl | rfl | ⟨n4, n5⟩
  · have e1 : v.read 4 = nth 0 v.table v.addr.toNat % 256 := rfl
    have e2 : v.got 4 = { v with addr := v.addr } := rfl
    rw [e1, e2]
    clear e1 e2
    have A2 := Blk.set (i := 1) A (.int .i64 v.addr)
    rw [VceV.set_addr] at A2
    have R2 := Blk.other (b' := w.heap.size) (i := 1) R (.int .i64 v.addr) (by omega)
    have B2 := bst (i := 1) (v := .int .i64 v.addr) B (Nat.le_refl _)
    have hu2 : VceV.Len ({ v with addr := v.addr } : VceV) := hlen
    have hs2 := VceV.size hu2
    have hA2 : Blk _ w.heap.size (VceV.cells ({ v with addr := v.addr } : VceV)).toArray _ := A2
    have hS1 : (Tryz.prog.info? 40).map (·.size) = some (VceV.cells ({ v with addr := v.addr } : VceV)).toArray.size := by rw [hs2]; exact tVce
    have hZ1 : (Tryz.zeroCells40).size = (VceV.cells ({ v with addr := v.addr } : VceV)).toArray.size := by rw [hs2]; exact zeroVceSize
    have HO := Lib.hid (VceV.one (v := ({ v with addr := v.addr } : VceV)))
    have HA := Lib.hid hA2
    have HS1 := Lib.hid hS1
    have HZ1 := Lib.hid hZ1
    have HR := Lib.hid R2
    have HZV := Lib.hid (byte_of_511 (nth 0 v.table v.addr.toNat) ht)
    clear A2 hA2 hS1 hZ1 hs R2 hs2 hu2
    generalize huc : (VceV.cells ({ v with addr := v.addr } : VceV)).toArray = uc at *
    have hucH := Lib.hid huc
    clear huc
    generalize v.cells.toArray = vc at *
    generalize nth 0 v.table v.addr.toNat = z at *
    go_enter Tryz.func134, Tryz.ntmps134
    go_upto_region 1 with (fail)
    generalize hzc : Tryz.zeroCells40 = zc at *
    generalize hw2 : (w.alloc (Obj.cells _ 40)).alloc (Obj.cells zc 40) = w2 at *
    clear hzc hw2
    have hzv := HZV.out
    go_wp2_with fail
    have E0 : RdD uc zc w.heap.size w 0 ((w2.setCell ⟨w.heap.size, 1, none⟩ (.int .i64 v.addr))).drew := ⟨HA.out, HR.out, below_drewN B2 1⟩
    refine wp_region_n [4] (RdD uc zc w.heap.size w) (by kernel_rfl) (by kernel_rfl) (by kernel_rfl) (by kernel_rfl) E0 ?_
    clear E0 c0 c1 c3 f1
    iterate 1
      (refine wpN_other rfl (by decide) (fun K hK => ?_)
       apply Exists.intro
       refine ⟨fun m wq hm hq => ?_, hK _ ?_⟩
       · go_simp
         first | exact rfl | exact ⟨hq, rfl⟩ | exact ⟨rfl, rfl⟩
       clear hK K
       simp only [Act.put, List.setIfInBounds_toArray, List.set_cons_zero, List.set_cons_succ])
    refine wpN_other rfl (by decide) (fun K hK => ?_)
    refine ⟨.int .i64 (z % 256), fun m wq hm hq => ?_, hK _ ?_⟩
    · go_simp
      exact (bits_Byte z _).mono (fun _ _ ⟨he, hw⟩ => ⟨he, hw ▸ hq⟩)
    clear hK K
    simp only [Act.put, List.setIfInBounds_toArray, List.set_cons_zero, List.set_cons_succ]
    refine wpN_other rfl (by decide) (fun K hK => ?_)
    refine ⟨.agg uc, fun m wq hm hq => load_row_upon 40 _ rfl w.heap.size rfl 40 uc _ hq.1 Tryz.underlying40 rfl HS1.out hq, hK _ ?_⟩
    clear hK K
    simp only [Act.put, List.setIfInBounds_toArray, List.set_cons_zero, List.set_cons_succ]
    iterate 1
      (refine wpN_other rfl (by decide) (fun K hK => ?_)
       apply Exists.intro
       refine ⟨fun m wq hm hq => ?_, hK _ ?_⟩
       · go_simp
         first | exact rfl | exact ⟨hq, rfl⟩ | exact ⟨rfl, rfl⟩
       clear hK K
       simp only [Act.put, List.setIfInBounds_toArray, List.set_cons_zero, List.set_cons_succ])
    refine wpN_turn 0 rfl (by decide) rfl (by kernel_rfl) ⟨undef, fun wq hq => store_row_upon 40 _ _ rfl (w.heap.size + 1) uc rfl rfl 40 zc hq.2.1 HS1.out HZ1.out HO.out hq.next, ?_⟩
    simp only [Act.put, List.setIfInBounds_toArray, List.set_cons_zero, List.set_cons_succ]
    rintro w5 ⟨h1, h2, h3⟩
    go_wp2
    exact ret_tmp_row rfl rfl h2 Tryz.underlying40 rfl HS1.out rfl rfl ⟨by first | rfl | (rw [hucH.out]), h3⟩
  · have e1 : v.read 5 = 254 + nth 0 v.table v.addr.toNat / 256 := rfl
    have e2 : v.got 5 = { v with addr := (v.addr + 1) % 512 } := rfl
    rw [e1, e2]
    clear e1 e2
    have A2 := Blk.set (i := 1) A (.int .i64 ((v.addr + 1) % 512))
    rw [VceV.set_addr] at A2
    have R2 := Blk.other (b' := w.heap.size) (i := 1) R (.int .i64 ((v.addr + 1) % 512)) (by omega)
    have B2 := bst (i := 1) (v := .int .i64 ((v.addr + 1) % 512)) B (Nat.le_refl _)
    have hu2 : VceV.Len ({ v with addr := (v.addr + 1) % 512 } : VceV) := hlen
    have hs2 := VceV.size hu2
    have hA2 : Blk _ w.heap.size (VceV.cells ({ v with addr := (v.addr + 1) % 512 } : VceV)).toArray _ := A2
    have hS1 : (Tryz.prog.info? 40).map (·.size) = some (VceV.cells ({ v with addr := (v.addr + 1) % 512 } : VceV)).toArray.size := by rw [hs2]; exact tVce
    have hZ1 : (Tryz.zeroCells40).size = (VceV.cells ({ v with addr := (v.addr + 1) % 512 } : VceV)).toArray.size := by rw [hs2]; exact zeroVceSize
    have HO := Lib.hid (VceV.one (v := ({ v with addr := (v.addr + 1) % 512 } : VceV)))
    have HA := Lib.hid hA2
    have HS1 := Lib.hid hS1
    have HZ1 := Lib.hid hZ1
    have HR := Lib.hid R2
    have HZV := Lib.hid (byte_of_511 (nth 0 v.table v.addr.toNat) ht)
    clear A2 hA2 hS1 hZ1 hs R2 hs2 hu2
    generalize huc : (VceV.cells ({ v with addr := (v.addr + 1) % 512 } : VceV)).toArray = uc at *
    have hucH := Lib.hid huc
    clear huc
    generalize v.cells.toArray = vc at *
    generalize nth 0 v.table v.addr.toNat = z at *
    go_enter Tryz.func134, Tryz.ntmps134
    go_upto_region 1 with (fail)
    generalize hzc : Tryz.zeroCells40 = zc at *
    generalize hw2 : (w.alloc (Obj.cells _ 40)).alloc (Obj.cells zc 40) = w2 at *
    clear hzc hw2
    have hzv := HZV.out
    go_wp2_with fail
    have E0 : RdD uc zc w.heap.size w 0 ((w2.setCell ⟨w.heap.size, 1, none⟩ (.int .i64 ((v.addr + 1) % 512)))).drew := ⟨HA.out, HR.out, below_drewN B2 1⟩
    refine wp_region_n [5] (RdD uc zc w.heap.size w) (by kernel_rfl) (by kernel_rfl) (by kernel_rfl) (by kernel_rfl) E0 ?_
    clear E0 c0 c1 c3 f1
    iterate 3
      (refine wpN_other rfl (by decide) (fun K hK => ?_)
       apply Exists.intro
       refine ⟨fun m wq hm hq => ?_, hK _ ?_⟩
       · go_simp
         first | exact rfl | exact ⟨hq, rfl⟩ | exact ⟨rfl, rfl⟩
       clear hK K
       simp only [Act.put, List.setIfInBounds_toArray, List.set_cons_zero, List.set_cons_succ])
    refine wpN_other rfl (by decide) (fun K hK => ?_)
    refine ⟨.agg uc, fun m wq hm hq => load_row_upon 40 _ rfl w.heap.size rfl 40 uc _ hq.1 Tryz.underlying40 rfl HS1.out hq, hK _ ?_⟩
    clear hK K
    simp only [Act.put, List.setIfInBounds_toArray, List.set_cons_zero, List.set_cons_succ]
    iterate 1
      (refine wpN_other rfl (by decide) (fun K hK => ?_)
       apply Exists.intro
       refine ⟨fun m wq hm hq => ?_, hK _ ?_⟩
       · go_simp
         first | exact rfl | exact ⟨hq, rfl⟩ | exact ⟨rfl, rfl⟩
       clear hK K
       simp only [Act.put, List.setIfInBounds_toArray, List.set_cons_zero, List.set_cons_succ])
    refine wpN_turn 0 rfl (by decide) rfl (by kernel_rfl) ⟨undef, fun wq hq => store_row_upon 40 _ _ rfl (w.heap.size + 1) uc rfl rfl 40 zc hq.2.1 HS1.out HZ1.out HO.out hq.next, ?_⟩
    simp only [Act.put, List.setIfInBounds_toArray, List.set_cons_zero, List.set_cons_succ]
    rintro w5 ⟨h1, h2, h3⟩
    go_wp2
    exact ret_tmp_row rfl rfl h2 Tryz.underlying40 rfl HS1.out rfl rfl ⟨by first | rfl | (rw [hucH.out]), h3⟩
  · have e1 : v.read a = 255 := by unfold VceV.read; rw [if_neg n4, if_neg n5]
    have e2 : v.got a = { v with addr := v.addr } := by unfold VceV.got; rw [if_neg n5]
    rw [e1, e2]
    clear e1 e2
    have A2 := A
    have R2 := R
    have B2 := B
    have hu2 : VceV.Len ({ v with addr := v.addr } : VceV) := hlen
    have hs2 := VceV.size hu2
    have hA2 : Blk _ w.heap.size (VceV.cells ({ v with addr := v.addr } : VceV)).toArray _ := A2
    have hS1 : (Tryz.prog.info? 40).map (·.size) = some (VceV.cells ({ v with addr := v.addr } : VceV)).toArray.size := by rw [hs2]; exact tVce
    have hZ1 : (Tryz.zeroCells40).size = (VceV.cells ({ v with addr := v.addr } : VceV)).toArray.size := by rw [hs2]; exact zeroVceSize
    have HO := Lib.hid (VceV.one (v := ({ v with addr := v.addr } : VceV)))
    have HA := Lib.hid hA2
    have HS1 := Lib.hid hS1
    have HZ1 := Lib.hid hZ1
    have HR := Lib.hid R2
    have HZV := Lib.hid (byte_of_511 (nth 0 v.table v.addr.toNat) ht)
    clear A2 hA2 hS1 hZ1 hs R2 hs2 hu2
    generalize huc : (VceV.cells ({ v with addr := v.addr } : VceV)).toArray = uc at *
    have hucH := Lib.hid huc
    clear huc
    generalize v.cells.toArray = vc at *
    generalize nth 0 v.table v.addr.toNat = z at *
    go_enter Tryz.func134, Tryz.ntmps134
    go_upto_region 1 with (fail)
    generalize hzc : Tryz.zeroCells40 = zc at *
    generalize hw2 : (w.alloc (Obj.cells _ 40)).alloc (Obj.cells zc 40) = w2 at *
    clear hzc hw2
    have hzv := HZV.out
    go_wp2_with fail
    have E0 : RdD uc zc w.heap.size w 0 (w2).drew := ⟨HA.out, HR.out, below_drewN B2 1⟩
    refine wp_region_n [2] (RdD uc zc w.heap.size w) (by kernel_rfl) (by kernel_rfl) (by kernel_rfl) (by kernel_rfl) E0 ?_
    clear E0 c0 c1 c3 f1
    refine wpN_other rfl (by decide) (fun K hK => ?_)
    refine ⟨.agg uc, fun m wq hm hq => load_row_upon 40 _ rfl w.heap.size rfl 40 uc _ hq.1 Tryz.underlying40 rfl HS1.out hq, hK _ ?_⟩
    clear hK K
    simp only [Act.put, List.setIfInBounds_toArray, List.set_cons_zero, List.set_cons_succ]
    iterate 1
      (refine wpN_other rfl (by decide) (fun K hK => ?_)
       apply Exists.intro
       refine ⟨fun m wq hm hq => ?_, hK _ ?_⟩
       · go_simp
         first | exact rfl | exact ⟨hq, rfl⟩ | exact ⟨rfl, rfl⟩
       clear hK K
       simp only [Act.put, List.setIfInBounds_toArray, List.set_cons_zero, List.set_cons_succ])
    refine wpN_turn 0 rfl (by decide) rfl (by kernel_rfl) ⟨undef, fun wq hq => store_row_upon 40 _ _ rfl (w.heap.size + 1) uc rfl rfl 40 zc hq.2.1 HS1.out HZ1.out HO.out hq.next, ?_⟩
    simp only [Act.put, List.setIfInBounds_toArray, List.set_cons_zero, List.set_cons_succ]
    rintro w5 ⟨h1, h2, h3⟩
    go_wp2
    exact ret_tmp_row rfl rfl h2 Tryz.underlying40 rfl HS1.out rfl rfl ⟨by first | rfl | (rw [hucH.out]), h3⟩
end Go.Proofs.YtnllkgjmoipgbaaGreatDoor
-- SmG
namespace Go.Proofs.YtnllkgjmoipgbaaGreatDoor
open Go Go.RowKit
set_option linter.unusedSimpArgs false
set_option linter.unusedVariables false
set_option maxRecDepth 100000

def masksC : Array Value := #[.int .i64 65535, .int .i64 65535, .int .i64 65535, .int .i64 0, .int .i64 0, .int .i64 8191, .int .i64 1023, .int .i64 1023, .int .i64 511, .int .i64 255, .int .i64 32543, .int .i64 32639, .int .i64 65311, .int .i64 511, .int .i64 255, .int .i64 31, .int .i64 65535, .int .i64 65535, .int .i64 65535, .int .i64 65535]
theorem regs_masks (w : World) : Calls Tryz.prog 204 #[] w fun e w' => e = .returned (.agg masksC) ∧ Below w.heap.size w w' := by
  have hb : ∀ w, (Instr.build 28 #[(0, .int .i64 65535), (1, .int .i64 65535), (2, .int .i64 65535), (3, .int .i64 0), (4, .int .i64 0), (5, .int .i64 8191), (6, .int .i64 1023), (7, .int .i64 1023), (8, .int .i64 511), (9, .int .i64 255), (10, .int .i64 32543), (11, .int .i64 32639), (12, .int .i64 65311), (13, .int .i64 511), (14, .int .i64 255), (15, .int .i64 31), (16, .int .i64 65535), (17, .int .i64 65535), (18, .int .i64 65535), (19, .int .i64 65535)]).run Tryz.prog w = .ok (.agg masksC) w := fun w => by kernel_rfl
  have hs : (Tryz.prog.info? 28).map (·.size) = some masksC.size := by kernel_rfl
  have ho : masksC.all (·.oneCell') = true := by kernel_rfl
  have hz : ∀ w, (zeroValue 28).run Tryz.prog w = .ok (.agg (cellsI (zeros 20))) w := fun w => by kernel_rfl
  have hl : (cellsI (zeros 20)).size = masksC.size := by kernel_rfl
  generalize masksC = cc at *
  generalize cellsI (zeros 20) = zc at *
  have HB := Lib.hid hb
  have HS := Lib.hid hs
  have HO := Lib.hid ho
  have HL := Lib.hid hl
  clear hb hs ho hl
  have Z := Blk.new w zc 28
  go_enter Tryz.func204, Tryz.ntmps204
  go_wp2_with (first
    | (refine wpList_built rfl 28 _ rfl (HB.out _) (by kernel_rfl) ?_)
    | (refine wpList_store_row rfl 28 _ _ rfl w.heap.size cc rfl rfl 28 zc Z HS.out HL.out HO.out ?_))
  exact ret_row rfl rfl (Blk.setRow Z cc) Tryz.underlying28 rfl HS.out rfl ⟨rfl, below_setRow (bal (Below.refl _ _)) (Nat.le_refl _) _⟩
theorem run_mask (k : Nat) (hk : k < 20) (w : World) : (Instr.index 28 (.agg masksC) (.int .i64 k)).run Tryz.prog w = .ok (.int .i64 (maskOf k)) w := by
  rcases (show k = 0 ∨ k = 1 ∨ k = 2 ∨ k = 3 ∨ k = 4 ∨ k = 5 ∨ k = 6 ∨ k = 7 ∨ k = 8 ∨ k = 9 ∨ k = 10 ∨ k = 11 ∨ k = 12 ∨ k = 13 ∨ k = 14 ∨ k = 15 ∨ k = 16 ∨ k = 17 ∨ k = 18 ∨ k = 19 by omega) with rfl | rfl | rfl | rfl | rfl | rfl | rfl | rfl | rfl | rfl | rfl | rfl | rfl | rfl | rfl | rfl | rfl | rfl | rfl | rfl <;> kernel_rfl
theorem regs_effect (s : Int) (hs : 0 ≤ s) (hi : Bool) (w : World) : Calls Tryz.prog 205 #[.int .i64 s, .bool hi] w fun e w' => e = .returned (.int .i64 (regEffect s hi)) ∧ w = w' := by
  rcases (show s = 0 ∨ s = 2 ∨ s = 1 ∨ s = 5 ∨ s = 18 ∨ s = 19 ∨ (s ≠ 0 ∧ s ≠ 2 ∧ s ≠ 1 ∧ s ≠ 5 ∧ s ≠ 18 ∧ s ≠ 19) by omega) with rfl | rfl | rfl | rfl | rfl | rfl | ⟨h0, h2, h1, h5, h18, h19⟩
  all_goals
    cases hi
    all_goals
      try (have e1 : regEffect s true = 0 := by unfold regEffect; rw [if_neg h0, if_neg h2, if_pos rfl, if_neg h1, if_neg h5, if_neg h18, if_neg h19])
      try (have e2 : regEffect s false = 0 := by unfold regEffect; rw [if_neg h0, if_neg h2, if_neg (by decide)])
      try rw [e1]
      try rw [e2]
      try clear e1
      try clear e2
      go_enter Tryz.func205, Tryz.ntmps205
      go_wp2
      go_ret
      exact ⟨rfl, rfl⟩
theorem and_andI (x m : Int) (hx : 0 ≤ x ∧ x ≤ 65535) (hm : 0 ≤ m ∧ m ≤ 65535) : bits .and .i64 x m = andI x m := (bits_nat x m hx.1 (by omega) hm.1 (by omega)).1
/-! ### A write -/
theorem RegsV.one {v : RegsV} : v.cells.toArray.all (·.oneCell') = true := all_oneCell_toArray fun x hx => by
  simp only [RegsV.cells, intsC, List.mem_append, List.mem_cons, List.mem_map, List.not_mem_nil, or_false] at hx
  rcases hx with rfl | ⟨_, _, rfl⟩ <;> rfl
theorem RegsV.set_sel (v : RegsV) (x : Int) : v.cells.toArray.setIfInBounds 0 (.int .i64 x) = (RegsV.cells { v with sel := x }).toArray := rfl
theorem RegsV.set_reg (v : RegsV) (i : Nat) (x : Int) : v.cells.toArray.setIfInBounds (1 + i) (.int .i64 x) = (RegsV.cells { v with R := v.R.set i x }).toArray := by
  rw [List.setIfInBounds_toArray]
  congr 1
  unfold RegsV.cells intsC
  rw [List.set_append_right _ _ (by simp), List.map_set]
  simp
theorem RegsV.size {v : RegsV} (h : v.Len) : v.cells.toArray.size = 21 := by simpa using RegsV.length h
theorem regs_Far (r : RegsV) (hr : r.Ok) (w : World) : Calls Tryz.prog 123 #[.agg r.cells.toArray] w fun e w' => e = .returned (.int .i64 r.far) ∧ Below w.heap.size w w' := by
  have c5 := (RegsV.reads (range_of_blk (Blk.new w r.cells.toArray 30)) hr.len).2 5 (by decide)
  have h5 := hr.reg 5
  have B := bal (o := Obj.cells r.cells.toArray 30) (Below.refl w.heap.size w)
  have hf : r.far = if r.reg 5 / 2048 % 4 = 0 then 1 else if r.reg 5 / 2048 % 4 = 1 then 32 else if r.reg 5 / 2048 % 4 = 2 then 64 else 128 := rfl
  rw [hf]
  clear hf
  generalize r.cells.toArray = rc at *
  generalize r.reg 5 = z at *
  rcases (show z / 2048 % 4 = 0 ∨ z / 2048 % 4 = 1 ∨ z / 2048 % 4 = 2 ∨ z / 2048 % 4 = 3 by omega) with h | h | h | h
  all_goals
    rw [h]
    go_enter Tryz.func123, Tryz.ntmps123
    go_wp2
    go_ret
    exact ⟨by first | rfl | decide, B⟩
def RgD (rc rc' zc : Array Value) (n0 : Nat) (W : World) (m : Nat) (w' : World) : Prop := Blk w' n0 (if m = 0 then rc else rc') 30 ∧ Blk w' (n0 + 1) zc 30 ∧ Below n0 W w'
theorem RgD.below {rc rc' zc : Array Value} {n0 m : Nat} {W w w' : World} (h : RgD rc rc' zc n0 W m w) (hb : Below w.heap.size w w') : RgD rc rc' zc n0 W m w' := by
  obtain ⟨h1, h2, h3⟩ := h
  have := Blk.lt h2
  exact ⟨Blk.below h1 hb, Blk.below h2 hb, h3.trans (hb.mono (by omega))⟩
def ReD (rc zc : Array Value) (n0 : Nat) (W : World) (m : Nat) (w' : World) : Prop := Blk w' n0 rc 30 ∧ Blk w' (n0 + 1) (if m = 0 then zc else rc) 30 ∧ Below n0 W w'
theorem ReD.next {rc zc : Array Value} {n0 : Nat} {W w : World} (h : ReD rc zc n0 W 0 w) : ReD rc zc n0 W 1 (w.setRow (n0 + 1) rc) := by
  obtain ⟨h1, h2, h3⟩ := h
  exact ⟨Blk.setRow_other h1 rc (by omega), Blk.setRow h2 rc, below_setRow h3 (by omega) rc⟩
set_option maxHeartbeats 4000000 in
theorem regs_Write (r : RegsV) (hr : r.Ok) (a b : Int) (hb : 0 ≤ b ∧ b ≤ 255) (w : World) : Calls Tryz.prog 118 #[.agg r.cells.toArray, .int .i64 a, .int .i64 b] w fun e w' => e = .returned (.tuple #[.agg (r.write a b).cells.toArray, .int .i64 (r.effect a)]) ∧ Below w.heap.size w w' := by
  have hsel := hr.sel
  have hlen := hr.len
  have hok := hr.write a b hb
  have HS : ∀ u : RegsV, u.Len → (Tryz.prog.info? 30).map (·.size) = some u.cells.toArray.size := fun u hu => by rw [RegsV.size hu]; exact tRegs
  obtain ⟨zc, hzc⟩ : ∃ zc : Array Value, zc = (intsC (zeros 21)).toArray := ⟨_, rfl⟩
  have hzr : ∀ w, (zeroValue 30).run Tryz.prog w = .ok (.agg zc) w := fun w => by rw [hzc]; kernel_rfl
  have hzs : ∀ u : RegsV, u.Len → zc.size = u.cells.toArray.size := fun u hu => by rw [RegsV.size hu, hzc]; rfl
  clear hzc
  have A := Blk.alloc (Blk.new w r.cells.toArray 30) (Obj.cells zc 30)
  have R := Blk.new' (w.alloc (Obj.cells r.cells.toArray 30)) zc 30 (n := w.heap.size + 1) (by simp)
  have B : Below w.heap.size w ((w.alloc (Obj.cells r.cells.toArray 30)).alloc (Obj.cells zc 30)) := bal (bal (Below.refl _ _))
  obtain ⟨c0, c1⟩ := RegsV.reads (range_of_blk A) hlen
  have f0 := Blk.free A 0
  rcases (show a = 0 ∨ (a ≠ 0 ∧ ¬ ((a = 2 ∨ a = 3) ∧ r.sel < 20)) ∨ (a ≠ 0 ∧ (a = 2 ∨ a = 3) ∧ r.sel < 20) by omega) with rfl | ⟨n0, hn⟩ | ⟨n0, ha, hs20⟩
  · have e1 : r.write 0 b = { r with sel := b % 32 } := rfl
    have e2 : r.effect 0 = 0 := rfl
    rw [e1] at hok
    rw [e1, e2]
    clear e1 e2 c1
    have A2 := Blk.set (i := 0) A (.int .i64 (b % 32))
    rw [RegsV.set_sel] at A2
    have R2 := Blk.other (b' := w.heap.size) (i := 0) R (.int .i64 (b % 32)) (by omega)
    have B2 := bst (i := 0) (v := .int .i64 (b % 32)) B (Nat.le_refl _)
    have HS1 := Lib.hid (HS _ hok.len)
    have HZ1 := Lib.hid (hzs _ hok.len)
    have HO := Lib.hid (RegsV.one (v := ({ r with sel := b % 32 } : RegsV)))
    have HA := Lib.hid A2
    have HR := Lib.hid R2
    clear A2 R2 A hok HS hzs
    generalize hu : (RegsV.cells { r with sel := b % 32 }).toArray = uc at *
    generalize hrc : r.cells.toArray = rc at *
    have HU := Lib.hid hu
    have HRC := Lib.hid hrc
    clear hu hrc
    go_enter Tryz.func118, Tryz.ntmps118
    go_upto_region 1 with (fail)
    generalize (w.alloc (Obj.cells _ 30)).alloc (Obj.cells zc 30) = w2 at *
    have hl2 := Blk.lt R
    clear hzr R
    go_upto_region 3 with (fail)
    have A3 := HA.out
    have R3 := HR.out
    clear c0 f0
    generalize w2.setCell ⟨w.heap.size, 0, none⟩ (.int .i64 (b % 32)) = w3 at *
    go_wp2_with (first
      | (refine wpList_load_row rfl 30 _ rfl w.heap.size rfl 30 uc (0, 0) _ A3 Tryz.underlying30 rfl HS1.out ?_)
      | (refine wpList_store_row rfl 30 _ _ rfl (w.heap.size + 1) uc rfl rfl 30 zc R3 HS1.out HZ1.out HO.out ?_))
    exact ret_row_tmp rfl rfl (Blk.setRow R3 _) Tryz.underlying30 rfl HS1.out rfl rfl ⟨by first | rfl | (rw [HU.out]), below_setRow B2 (by omega) _⟩
  · have e1 : r.write a b = r := by unfold RegsV.write; rw [if_neg n0, if_neg hn]
    have e2 : r.effect a = 0 := by unfold RegsV.effect; rw [if_neg hn]
    rw [e1, e2]
    clear e1 e2 c1 hok
    have HS1 := Lib.hid (HS _ hlen)
    have HZ1 := Lib.hid (hzs _ hlen)
    have HO := Lib.hid (RegsV.one (v := r))
    clear HS hzs
    generalize hrc : r.cells.toArray = rc at *
    have HRC := Lib.hid hrc
    clear hrc
    have hcase : (a ≠ 2 ∧ a ≠ 3) ∨ (a = 2 ∧ 20 ≤ r.sel) ∨ (a = 3 ∧ 20 ≤ r.sel) := by omega
    generalize r.sel = sl at *
    rcases hcase with ⟨n2, n3⟩ | ⟨rfl, h20⟩ | ⟨rfl, h20⟩
    all_goals
      go_enter Tryz.func118, Tryz.ntmps118
      go_upto_region 1 with (fail)
      generalize (w.alloc (Obj.cells _ 30)).alloc (Obj.cells zc 30) = w2 at *
      have hl2 := Blk.lt R
      clear hzr
      go_wp2_with (first
        | (refine wpList_load_row rfl 30 _ rfl w.heap.size rfl 30 rc (0, 0) _ A Tryz.underlying30 rfl HS1.out ?_)
        | (refine wpList_store_row rfl 30 _ _ rfl (w.heap.size + 1) rc rfl rfl 30 zc R HS1.out HZ1.out HO.out ?_))
      exact ret_row_tmp rfl rfl (Blk.setRow R _) Tryz.underlying30 rfl HS1.out rfl rfl ⟨rfl, below_setRow B (by omega) _⟩
  · obtain ⟨k, hkk⟩ : ∃ k : Nat, r.sel = k := ⟨r.sel.toNat, by omega⟩
    obtain ⟨x, hx⟩ : ∃ x, r.reg k = x := ⟨_, rfl⟩
    have hxr := hr.reg k
    rw [hx] at hxr
    have hk20 : (k : Int) < 20 := by omega
    have hk0 : (0 : Int) ≤ k := by omega
    rcases ha with rfl | rfl
    · have e1 : r.write 2 b = { r with R := r.R.set k (andI (x / 256 * 256 + b) (maskOf k)) } := by
        unfold RegsV.write RegsV.word
        rw [if_neg (by decide), if_pos ⟨by decide, hs20⟩, hkk, Int.toNat_natCast, hx]; rfl
      have e2 : r.effect 2 = regEffect k false := by unfold RegsV.effect; rw [if_pos ⟨by decide, hs20⟩, hkk]; rfl
      have hval : b % 256 + 256 * (x / 256 % 256) = x / 256 * 256 + b := by omega
      have hand := and_andI (x / 256 * 256 + b) (maskOf k) (by omega) (maskOf_in k)
      rw [e1] at hok
      rw [e1, e2]
      clear e1 e2
      generalize hq : andI (x / 256 * 256 + b) (maskOf k) = q at *
      have HQ := Lib.hid hq
      clear hq
      have hset := RegsV.set_reg r k q
      have HS0 := HS _ hlen
      have HS1 := Lib.hid (HS _ hok.len)
      have HZ1 := Lib.hid (hzs _ hok.len)
      have HO := Lib.hid (RegsV.one (v := ({ r with R := r.R.set k q } : RegsV)))
      have hc0' : ∀ wq, Blk wq w.heap.size (RegsV.cells { r with R := r.R.set k q }).toArray 30 → wq.cell? ⟨w.heap.size, 0, none⟩ = some (.int .i64 k) := fun wq h => by
        have := (RegsV.reads (range_of_blk h) hok.len).1
        rw [this]; show some (Value.int .i64 r.sel) = _; rw [hkk]
      have hc0 : ∀ wq, Blk wq w.heap.size r.cells.toArray 30 → wq.cell? ⟨w.heap.size, 0, none⟩ = some (.int .i64 k) := fun wq h => by
        have := (RegsV.reads (range_of_blk h) hlen).1
        rw [this, hkk]
      have hck : ∀ wq, Blk wq w.heap.size r.cells.toArray 30 → wq.cell? ⟨w.heap.size, 1 + k, none⟩ = some (.int .i64 x) := fun wq h => by
        have := (RegsV.reads (range_of_blk h) hlen).2 k (by omega)
        rw [Nat.zero_add] at this
        rw [this, ← hx]
      generalize hu : (RegsV.cells { r with R := r.R.set k q }).toArray = uc at *
      generalize hrc : r.cells.toArray = rc at *
      have HU := Lib.hid hu
      have HRC := Lib.hid hrc
      have hFA : ∀ m wq, RgD rc uc zc w.heap.size w m wq → wq.cell? ⟨w.heap.size, 0, none⟩ = some (.int .i64 k) := fun m wq h => by
        obtain ⟨h1, _, _⟩ := h
        by_cases hm : m = 0
        · rw [if_pos hm] at h1; exact hc0 wq h1
        · rw [if_neg hm] at h1; exact hc0' wq h1
      have FA := Lib.hid hFA
      have HCK := Lib.hid hck
      have hC0' := Lib.hid hc0'
      have hnx : ∀ wq, RgD rc uc zc w.heap.size w 0 wq → RgD rc uc zc w.heap.size w 1 (wq.setCell ⟨w.heap.size, 1 + k, none⟩ (.int .i64 q)) := fun wq h => by
        obtain ⟨h1, h2, h3⟩ := h
        have g1 := Blk.set (i := 1 + k) h1 (.int .i64 q)
        rw [if_pos rfl, hset] at g1
        exact ⟨g1, Blk.other h2 _ (by omega), bst h3 (Nat.le_refl _)⟩
      have NX := Lib.hid hnx
      have hc0A := hc0 _ A
      have hckA := hck _ A
      clear hu hrc hck hFA hc0 hc0' hnx c0 c1 HS hzs hset hok
      have hVAL := Lib.hid hval
      have hAND := Lib.hid hand
      have hm := run_mask k (by omega)
      have hMK := Lib.hid hm
      clear hval hand hm hkk
      go_enter Tryz.func118, Tryz.ntmps118
      go_upto_region 1 with (fail)
      generalize (w.alloc (Obj.cells _ 30)).alloc (Obj.cells zc 30) = w2 at *
      have hl2 := Blk.lt R
      clear hzr
      go_wp2_with fail
      refine (bits_Split x _).mono ?_; rintro e w' ⟨rfl, rfl⟩
      go_wp2_with fail
      clear hc0A hckA f0
      have E0 : RgD rc uc zc w.heap.size w 0 w2.drew := ⟨A, R, below_drewN B 1⟩
      refine wp_region_n [12] (RgD rc uc zc w.heap.size w) (by kernel_rfl) (by kernel_rfl) (by kernel_rfl) (by kernel_rfl) E0 ?_
      clear E0
      iterate 4
        (refine wpN_other rfl (by decide) (fun K hK => ?_)
         apply Exists.intro
         refine ⟨fun m wq hm hq => ?_, hK _ ?_⟩
         · have c0 := FA.out m wq hq
           go_simp
           first | exact rfl | exact ⟨hq, rfl⟩ | exact ⟨rfl, rfl⟩
         clear hK K
         simp only [Act.put, List.setIfInBounds_toArray, List.set_cons_zero, List.set_cons_succ])
      refine wpN_other rfl (by decide) (fun K hK => ?_)
      refine ⟨.int .i64 (b % 256 + 256 * (x / 256 % 256)), fun m wq hm hq => ?_, hK _ ?_⟩
      · go_simp
        exact (bits_Join _ _ wq).mono (fun _ _ ⟨he, hb⟩ => ⟨by rw [he]; exact ret_int (by omega), RgD.below hq hb⟩)
      clear hK K
      simp only [Act.put, List.setIfInBounds_toArray, List.set_cons_zero, List.set_cons_succ]
      rw [hVAL.out]
      refine wpN_other rfl (by decide) (fun K hK => ?_)
      refine ⟨.agg masksC, fun m wq hm hq => ?_, hK _ ?_⟩
      · go_simp
        exact (regs_masks wq).mono (fun _ _ ⟨he, hb⟩ => ⟨he, RgD.below hq hb⟩)
      clear hK K
      simp only [Act.put, List.setIfInBounds_toArray, List.set_cons_zero, List.set_cons_succ]
      iterate 2
        (refine wpN_other rfl (by decide) (fun K hK => ?_)
         apply Exists.intro
         refine ⟨fun m wq hm hq => ?_, hK _ ?_⟩
         · have c0 := FA.out m wq hq
           go_simp
           first | exact rfl | exact ⟨hq, rfl⟩ | exact ⟨rfl, rfl⟩
         clear hK K
         simp only [Act.put, List.setIfInBounds_toArray, List.set_cons_zero, List.set_cons_succ])
      refine wpN_other rfl (by decide) (fun K hK => ?_)
      refine ⟨.int .i64 (maskOf k), fun m wq hm hq => ?_, hK _ ?_⟩
      · have hm := hMK.out wq
        go_simp
        all_goals exact hq
      clear hK K
      simp only [Act.put, List.setIfInBounds_toArray, List.set_cons_zero, List.set_cons_succ]
      refine wpN_other rfl (by decide) (fun K hK => ?_)
      refine ⟨.int .i64 q, fun m wq hm hq => ?_, hK _ ?_⟩
      · have hand := hAND.out
        go_simp
        all_goals first | exact hq | exact ⟨hq, rfl⟩
      clear hK K
      simp only [Act.put, List.setIfInBounds_toArray, List.set_cons_zero, List.set_cons_succ]
      iterate 2
        (refine wpN_other rfl (by decide) (fun K hK => ?_)
         apply Exists.intro
         refine ⟨fun m wq hm hq => ?_, hK _ ?_⟩
         · go_simp
           first | exact rfl | exact ⟨hq, rfl⟩ | exact ⟨rfl, rfl⟩
         clear hK K
         simp only [Act.put, List.setIfInBounds_toArray, List.set_cons_zero, List.set_cons_succ])
      refine wpN_turn 0 rfl (by decide) rfl (by kernel_rfl) ⟨undef, fun wq hq => ?_, ?_⟩
      · have cA := HCK.out wq hq.1
        have fA := Blk.free hq.1 (1 + k)
        go_simp
        exact NX.out wq hq
      simp only [Act.put, List.setIfInBounds_toArray, List.set_cons_zero, List.set_cons_succ]
      rintro w5 ⟨h1, h2, h3⟩
      rw [if_neg (by decide)] at h1
      have c0 := hC0'.out w5 h1
      have HC0' := Lib.hid hC0'.out
      clear FA HCK NX hMK hAND hVAL hC0' A R B
      go_wp2_with fail
      have E1 : ReD uc zc w.heap.size w 0 w5.drew := ⟨h1, h2, below_drewN h3 1⟩
      have HE := Lib.hid (fun wq => regs_effect k hk0 false wq)
      refine wp_region_n [6] (ReD uc zc w.heap.size w) (by kernel_rfl) (by kernel_rfl) (by kernel_rfl) (by kernel_rfl) E1 ?_
      clear E1 h1 h2 h3 c0
      refine wpN_other rfl (by decide) (fun K hK => ?_)
      refine ⟨.agg uc, fun m wq hm hq => load_row_upon 30 _ rfl w.heap.size rfl 30 uc _ hq.1 Tryz.underlying30 rfl HS1.out hq, hK _ ?_⟩
      clear hK K
      simp only [Act.put, List.setIfInBounds_toArray, List.set_cons_zero, List.set_cons_succ]
      iterate 4
        (refine wpN_other rfl (by decide) (fun K hK => ?_)
         apply Exists.intro
         refine ⟨fun m wq hm hq => ?_, hK _ ?_⟩
         · have c0 := HC0'.out wq hq.1
           go_simp
           first | exact rfl | exact ⟨hq, rfl⟩ | exact ⟨rfl, rfl⟩
         clear hK K
         simp only [Act.put, List.setIfInBounds_toArray, List.set_cons_zero, List.set_cons_succ])
      refine wpN_other rfl (by decide) (fun K hK => ?_)
      refine ⟨.int .i64 (regEffect k false), fun m wq hm hq => ?_, hK _ ?_⟩
      · go_simp
        exact (HE.out wq).mono (fun _ _ ⟨he, hw⟩ => ⟨he, hw ▸ hq⟩)
      clear hK K
      simp only [Act.put, List.setIfInBounds_toArray, List.set_cons_zero, List.set_cons_succ]
      refine wpN_turn 0 rfl (by decide) rfl (by kernel_rfl) ⟨undef, fun wq hq => store_row_upon 30 _ _ rfl (w.heap.size + 1) uc rfl rfl 30 zc hq.2.1 HS1.out HZ1.out HO.out hq.next, ?_⟩
      simp only [Act.put, List.setIfInBounds_toArray, List.set_cons_zero, List.set_cons_succ]
      iterate 1
        (refine wpN_other rfl (by decide) (fun K hK => ?_)
         apply Exists.intro
         refine ⟨fun m wq hm hq => ?_, hK _ ?_⟩
         · go_simp
           first | exact rfl | exact ⟨hq, rfl⟩ | exact ⟨rfl, rfl⟩
         clear hK K
         simp only [Act.put, List.setIfInBounds_toArray, List.set_cons_zero, List.set_cons_succ])
      rintro w6 ⟨h1, h2, h3⟩
      go_wp2
      exact ret_row_tmp rfl rfl h2 Tryz.underlying30 rfl HS1.out rfl rfl ⟨by first | rfl | (rw [HU.out]), h3⟩
    · have e1 : r.write 3 b = { r with R := r.R.set k (andI (x % 256 + 256 * b) (maskOf k)) } := by
        unfold RegsV.write RegsV.word
        rw [if_neg (by decide), if_pos ⟨by decide, hs20⟩, hkk, Int.toNat_natCast, hx]; rfl
      have e2 : r.effect 3 = regEffect k true := by unfold RegsV.effect; rw [if_pos ⟨by decide, hs20⟩, hkk]; rfl
      have hval : x % 256 + 256 * (b % 256) = x % 256 + 256 * b := by omega
      have hand := and_andI (x % 256 + 256 * b) (maskOf k) (by omega) (maskOf_in k)
      rw [e1] at hok
      rw [e1, e2]
      clear e1 e2
      generalize hq : andI (x % 256 + 256 * b) (maskOf k) = q at *
      have HQ := Lib.hid hq
      clear hq
      have hset := RegsV.set_reg r k q
      have HS0 := HS _ hlen
      have HS1 := Lib.hid (HS _ hok.len)
      have HZ1 := Lib.hid (hzs _ hok.len)
      have HO := Lib.hid (RegsV.one (v := ({ r with R := r.R.set k q } : RegsV)))
      have hc0' : ∀ wq, Blk wq w.heap.size (RegsV.cells { r with R := r.R.set k q }).toArray 30 → wq.cell? ⟨w.heap.size, 0, none⟩ = some (.int .i64 k) := fun wq h => by
        have := (RegsV.reads (range_of_blk h) hok.len).1
        rw [this]; show some (Value.int .i64 r.sel) = _; rw [hkk]
      have hc0 : ∀ wq, Blk wq w.heap.size r.cells.toArray 30 → wq.cell? ⟨w.heap.size, 0, none⟩ = some (.int .i64 k) := fun wq h => by
        have := (RegsV.reads (range_of_blk h) hlen).1
        rw [this, hkk]
      have hck : ∀ wq, Blk wq w.heap.size r.cells.toArray 30 → wq.cell? ⟨w.heap.size, 1 + k, none⟩ = some (.int .i64 x) := fun wq h => by
        have := (RegsV.reads (range_of_blk h) hlen).2 k (by omega)
        rw [Nat.zero_add] at this
        rw [this, ← hx]
      generalize hu : (RegsV.cells { r with R := r.R.set k q }).toArray = uc at *
      generalize hrc : r.cells.toArray = rc at *
      have HU := Lib.hid hu
      have HRC := Lib.hid hrc
      have hFA : ∀ m wq, RgD rc uc zc w.heap.size w m wq → wq.cell? ⟨w.heap.size, 0, none⟩ = some (.int .i64 k) := fun m wq h => by
        obtain ⟨h1, _, _⟩ := h
        by_cases hm : m = 0
        · rw [if_pos hm] at h1; exact hc0 wq h1
        · rw [if_neg hm] at h1; exact hc0' wq h1
      have FA := Lib.hid hFA
      have HCK := Lib.hid hck
      have hC0' := Lib.hid hc0'
      have hnx : ∀ wq, RgD rc uc zc w.heap.size w 0 wq → RgD rc uc zc w.heap.size w 1 (wq.setCell ⟨w.heap.size, 1 + k, none⟩ (.int .i64 q)) := fun wq h => by
        obtain ⟨h1, h2, h3⟩ := h
        have g1 := Blk.set (i := 1 + k) h1 (.int .i64 q)
        rw [if_pos rfl, hset] at g1
        exact ⟨g1, Blk.other h2 _ (by omega), bst h3 (Nat.le_refl _)⟩
      have NX := Lib.hid hnx
      have hc0A := hc0 _ A
      have hckA := hck _ A
      clear hu hrc hck hFA hc0 hc0' hnx c0 c1 HS hzs hset hok
      have hVAL := Lib.hid hval
      have hAND := Lib.hid hand
      have hm := run_mask k (by omega)
      have hMK := Lib.hid hm
      clear hval hand hm hkk
      go_enter Tryz.func118, Tryz.ntmps118
      go_upto_region 1 with (fail)
      generalize (w.alloc (Obj.cells _ 30)).alloc (Obj.cells zc 30) = w2 at *
      have hl2 := Blk.lt R
      clear hzr
      go_wp2_with fail
      refine (bits_Split x _).mono ?_; rintro e w' ⟨rfl, rfl⟩
      go_wp2_with fail
      clear hc0A hckA f0
      have E0 : RgD rc uc zc w.heap.size w 0 w2.drew := ⟨A, R, below_drewN B 1⟩
      refine wp_region_n [12] (RgD rc uc zc w.heap.size w) (by kernel_rfl) (by kernel_rfl) (by kernel_rfl) (by kernel_rfl) E0 ?_
      clear E0
      iterate 4
        (refine wpN_other rfl (by decide) (fun K hK => ?_)
         apply Exists.intro
         refine ⟨fun m wq hm hq => ?_, hK _ ?_⟩
         · have c0 := FA.out m wq hq
           go_simp
           first | exact rfl | exact ⟨hq, rfl⟩ | exact ⟨rfl, rfl⟩
         clear hK K
         simp only [Act.put, List.setIfInBounds_toArray, List.set_cons_zero, List.set_cons_succ])
      refine wpN_other rfl (by decide) (fun K hK => ?_)
      refine ⟨.int .i64 (x % 256 + 256 * (b % 256)), fun m wq hm hq => ?_, hK _ ?_⟩
      · go_simp
        exact (bits_Join _ _ wq).mono (fun _ _ ⟨he, hb⟩ => ⟨by rw [he]; exact ret_int (by omega), RgD.below hq hb⟩)
      clear hK K
      simp only [Act.put, List.setIfInBounds_toArray, List.set_cons_zero, List.set_cons_succ]
      rw [hVAL.out]
      refine wpN_other rfl (by decide) (fun K hK => ?_)
      refine ⟨.agg masksC, fun m wq hm hq => ?_, hK _ ?_⟩
      · go_simp
        exact (regs_masks wq).mono (fun _ _ ⟨he, hb⟩ => ⟨he, RgD.below hq hb⟩)
      clear hK K
      simp only [Act.put, List.setIfInBounds_toArray, List.set_cons_zero, List.set_cons_succ]
      iterate 2
        (refine wpN_other rfl (by decide) (fun K hK => ?_)
         apply Exists.intro
         refine ⟨fun m wq hm hq => ?_, hK _ ?_⟩
         · have c0 := FA.out m wq hq
           go_simp
           first | exact rfl | exact ⟨hq, rfl⟩ | exact ⟨rfl, rfl⟩
         clear hK K
         simp only [Act.put, List.setIfInBounds_toArray, List.set_cons_zero, List.set_cons_succ])
      refine wpN_other rfl (by decide) (fun K hK => ?_)
      refine ⟨.int .i64 (maskOf k), fun m wq hm hq => ?_, hK _ ?_⟩
      · have hm := hMK.out wq
        go_simp
        all_goals exact hq
      clear hK K
      simp only [Act.put, List.setIfInBounds_toArray, List.set_cons_zero, List.set_cons_succ]
      refine wpN_other rfl (by decide) (fun K hK => ?_)
      refine ⟨.int .i64 q, fun m wq hm hq => ?_, hK _ ?_⟩
      · have hand := hAND.out
        go_simp
        all_goals first | exact hq | exact ⟨hq, rfl⟩
      clear hK K
      simp only [Act.put, List.setIfInBounds_toArray, List.set_cons_zero, List.set_cons_succ]
      iterate 2
        (refine wpN_other rfl (by decide) (fun K hK => ?_)
         apply Exists.intro
         refine ⟨fun m wq hm hq => ?_, hK _ ?_⟩
         · go_simp
           first | exact rfl | exact ⟨hq, rfl⟩ | exact ⟨rfl, rfl⟩
         clear hK K
         simp only [Act.put, List.setIfInBounds_toArray, List.set_cons_zero, List.set_cons_succ])
      refine wpN_turn 0 rfl (by decide) rfl (by kernel_rfl) ⟨undef, fun wq hq => ?_, ?_⟩
      · have cA := HCK.out wq hq.1
        have fA := Blk.free hq.1 (1 + k)
        go_simp
        exact NX.out wq hq
      simp only [Act.put, List.setIfInBounds_toArray, List.set_cons_zero, List.set_cons_succ]
      rintro w5 ⟨h1, h2, h3⟩
      rw [if_neg (by decide)] at h1
      have c0 := hC0'.out w5 h1
      have HC0' := Lib.hid hC0'.out
      clear FA HCK NX hMK hAND hVAL hC0' A R B
      go_wp2_with fail
      have E1 : ReD uc zc w.heap.size w 0 w5.drew := ⟨h1, h2, below_drewN h3 1⟩
      have HE := Lib.hid (fun wq => regs_effect k hk0 true wq)
      refine wp_region_n [6] (ReD uc zc w.heap.size w) (by kernel_rfl) (by kernel_rfl) (by kernel_rfl) (by kernel_rfl) E1 ?_
      clear E1 h1 h2 h3 c0
      refine wpN_other rfl (by decide) (fun K hK => ?_)
      refine ⟨.agg uc, fun m wq hm hq => load_row_upon 30 _ rfl w.heap.size rfl 30 uc _ hq.1 Tryz.underlying30 rfl HS1.out hq, hK _ ?_⟩
      clear hK K
      simp only [Act.put, List.setIfInBounds_toArray, List.set_cons_zero, List.set_cons_succ]
      iterate 4
        (refine wpN_other rfl (by decide) (fun K hK => ?_)
         apply Exists.intro
         refine ⟨fun m wq hm hq => ?_, hK _ ?_⟩
         · have c0 := HC0'.out wq hq.1
           go_simp
           first | exact rfl | exact ⟨hq, rfl⟩ | exact ⟨rfl, rfl⟩
         clear hK K
         simp only [Act.put, List.setIfInBounds_toArray, List.set_cons_zero, List.set_cons_succ])
      refine wpN_other rfl (by decide) (fun K hK => ?_)
      refine ⟨.int .i64 (regEffect k true), fun m wq hm hq => ?_, hK _ ?_⟩
      · go_simp
        exact (HE.out wq).mono (fun _ _ ⟨he, hw⟩ => ⟨he, hw ▸ hq⟩)
      clear hK K
      simp only [Act.put, List.setIfInBounds_toArray, List.set_cons_zero, List.set_cons_succ]
      refine wpN_turn 0 rfl (by decide) rfl (by kernel_rfl) ⟨undef, fun wq hq => store_row_upon 30 _ _ rfl (w.heap.size + 1) uc rfl rfl 30 zc hq.2.1 HS1.out HZ1.out HO.out hq.next, ?_⟩
      simp only [Act.put, List.setIfInBounds_toArray, List.set_cons_zero, List.set_cons_succ]
      iterate 1
        (refine wpN_other rfl (by decide) (fun K hK => ?_)
         apply Exists.intro
         refine ⟨fun m wq hm hq => ?_, hK _ ?_⟩
         · go_simp
           first | exact rfl | exact ⟨hq, rfl⟩ | exact ⟨rfl, rfl⟩
         clear hK K
         simp only [Act.put, List.setIfInBounds_toArray, List.set_cons_zero, List.set_cons_succ])
      rintro w6 ⟨h1, h2, h3⟩
      go_wp2
      exact ret_row_tmp rfl rfl h2 Tryz.underlying30 rfl HS1.out rfl rfl ⟨by first | rfl | (rw [HU.out]), h3⟩
end Go.Proofs.YtnllkgjmoipgbaaGreatDoor
-- SmH
namespace Go.Proofs.YtnllkgjmoipgbaaGreatDoor
open Go Go.RowKit
set_option linter.unusedSimpArgs false
set_option linter.unusedVariables false
set_option maxRecDepth 100000

def inRB (m z : Int) : Bool := decide (0 ≤ z ∧ z ≤ m)
theorem psg_within (m : Int) (a : Option Addr) (c : Nat) (xs : List Int) (w : World) (S : SlAt (Value.int .i64) 0 w a xs) (hx : ∀ z ∈ xs, 0 ≤ z ∧ z ≤ m) (hl : xs.length ≤ 1000) : Calls Tryz.prog 209 #[.int .i64 m, .slice a xs.length c] w fun e w' => e = .returned (.bool true) ∧ w = w' := by
  go_enter Tryz.func209, Tryz.ntmps209
  go_wp2_with fail
  go_loopw [9] (fun i wr => ∃ k : Nat, k ≤ xs.length ∧ i = .int .i64 k ∧ w = wr) (fun i _ => xs.length - (intOf i).toNat)
  case atStart => exact ⟨0, by omega, rfl, rfl⟩
  case round =>
    obtain ⟨k, hk, rfl, rfl⟩ := hrel
    by_cases hlt : k < xs.length
    · have d1 : decide ((k : Int) < (xs.length : Int)) = true := by simpa using hlt
      have i1 : (k : Int) < (xs.length : Int) := by omega
      obtain ⟨ad, rfl, c1⟩ := S.atN k hlt
      have hz := hx _ (nth_mem (d := (0 : Int)) hlt)
      have d2 : decide (nth 0 xs k < 0) = false := by simp; omega
      have d3 : decide (nth 0 xs k > m) = false := by simp; omega
      have d4 : decide (m < nth 0 xs k) = false := by simp; omega
      have HS := Lib.hid S
      clear S
      generalize nth 0 xs k = z at *
      go_wp2
      go_roundw
      case rel => exact ⟨k + 1, by omega, by go_num, trivial⟩
      case measure => simp [intOf]; omega
    · obtain rfl : k = xs.length := by omega
      have d1 : decide ((xs.length : Int) < (xs.length : Int)) = false := by simp
      clear S hx
      go_wp2
      go_ret
      exact ⟨rfl, rfl⟩
theorem within_list {w w' : World} {g : Nat} {t : TypeId} (xs : List Int) (h : Blk w g (xs.map (Value.int .i64)).toArray t) : SlAt (Value.int .i64) 0 w (some ⟨g, 0, none⟩) xs := SlAt.of_blkL h
/-- A part of a block, as a slice. -/
theorem SlAt.of_range {w : World} {g o : Nat} {xs : List Int} (h : w.rangeAt g o (intsC xs)) : SlAt (Value.int .i64) 0 w (some ⟨g, o, none⟩) xs := by
  intro i hi
  refine ⟨_, rfl, ?_⟩
  rw [Addr.add_mid]
  exact range_ints h hi
set_option maxHeartbeats 4000000 in
theorem psg_chan (c : ChanV) (h : c.Ok) (w : World) : Calls Tryz.prog 211 #[.agg c.cells.toArray] w fun e w' => e = .returned (.bool true) ∧ Below w.heap.size w w' := by
  obtain ⟨h1, h2, h3, h4, h5, h6, h7, h8, h9, h10⟩ := h
  have A : Blk (w.alloc (Obj.cells c.cells.toArray 43)) w.heap.size c.fields.flatten.toArray 43 := Blk.new w c.cells.toArray 43
  have B := bal (o := Obj.cells c.cells.toArray 43) (Below.refl w.heap.size w)
  have hlens := ChanV.lens h1
  have FA : ∀ wq, Blk wq w.heap.size c.fields.flatten.toArray 43 → wq.cell? ⟨w.heap.size, 0, none⟩ = some (.int .i64 c.freq) ∧ wq.cell? ⟨w.heap.size, 1, none⟩ = some (.int .i64 c.control) ∧ wq.cell? ⟨w.heap.size, 2, none⟩ = some (.int .i64 c.balance) ∧ wq.cell? ⟨w.heap.size, 3, none⟩ = some (.int .i64 c.noise) ∧ wq.rangeAt w.heap.size 4 (intsC c.wave) ∧ wq.cell? ⟨w.heap.size, 36, none⟩ = some (.int .i64 c.index) ∧ wq.cell? ⟨w.heap.size, 37, none⟩ = some (.int .i64 c.acc) ∧ wq.cell? ⟨w.heap.size, 38, none⟩ = some (.int .i64 c.rand) ∧ wq.cell? ⟨w.heap.size, 39, none⟩ = some (.int .i64 c.dda) := fun wq h =>
    ⟨fld_cell h hlens 0 rfl (by decide), fld_cell h hlens 1 rfl (by decide), fld_cell h hlens 2 rfl (by decide), fld_cell h hlens 3 rfl (by decide), fld_range h hlens 4 rfl (by decide), fld_cell h hlens 5 rfl (by decide), fld_cell h hlens 6 rfl (by decide), fld_cell h hlens 7 rfl (by decide), fld_cell h hlens 8 rfl (by decide)⟩
  have HFA := Lib.hid FA
  clear FA hlens
  obtain ⟨c0, c1, c2, c3, r4, c5, c6, c7, c8⟩ := HFA.out _ A
  have HW : ∀ wq, Blk wq w.heap.size c.fields.flatten.toArray 43 → SlAt (Value.int .i64) 0 wq (some ⟨w.heap.size, 4, none⟩) c.wave := fun wq h => SlAt.of_range (HFA.out wq h).2.2.2.2.1
  have hw32 : c.wave.length = 32 := h1
  have hcc : c.cells = c.fields.flatten := rfl
  rw [hcc] at A B c0 c1 c2 c3 c5 c6 c7 c8 ⊢
  clear r4 hcc
  have HWV := Lib.hid (fun z hz => by
    obtain ⟨i, hi, rfl⟩ := List.getElem_of_mem (show z ∈ c.wave from hz)
    have := h8 i
    rwa [nth_lt hi] at this : ∀ z, z ∈ c.wave → 0 ≤ z ∧ z ≤ 31)
  have hne : (c.rand == 0) = false := by simp; omega
  have hned : decide (c.rand = 0) = false := by simp; omega
  have hne2 : c.rand ≠ 0 := by omega
  have hnb : (c.rand != 0) = true := by simp; omega
  clear h8
  generalize c.fields.flatten.toArray = cc at *
  go_enter Tryz.func211, Tryz.ntmps211
  go_upto_region 1 with (fail)
  generalize w.alloc (Obj.cells cc 43) = w1 at *
  have r1 : ∀ z ∈ [c.freq], 0 ≤ z ∧ z ≤ 4095 := by simp; omega
  have r2 : ∀ z ∈ [c.control, c.balance, c.noise], 0 ≤ z ∧ z ≤ 255 := by simp; omega
  have r3 : ∀ z ∈ [c.index, c.dda], 0 ≤ z ∧ z ≤ 31 := by simp; omega
  have r5 : ∀ z ∈ [c.acc], 0 ≤ z ∧ z ≤ 16777215 := by simp; omega
  have r6 : ∀ z ∈ [c.rand], 0 ≤ z ∧ z ≤ 262143 := by simp; omega
  have R1 := Lib.hid r1
  have R2 := Lib.hid r2
  have R3 := Lib.hid r3
  have R5 := Lib.hid r5
  have R6 := Lib.hid r6
  have lA := Blk.lt A
  clear r1 r2 r3 r5 r6 h2 h3 h4 h5 h6 h7 h9 h10
  go_wp2_with fail
  clear c0 c1 c2 c3 c5 c6 c7 c8
  have Z1 := Blk.new w1 ([c.freq].map (Value.int .i64)).toArray 3
  refine (psg_within 4095 (some ⟨w1.heap.size, 0, none⟩) 1 [c.freq] _ (SlAt.of_blkL Z1) R1.out (by simp)).mono ?_; rintro e w' ⟨rfl, rfl⟩
  clear Z1
  replace A := Blk.alloc A (Obj.cells ([c.freq].map (Value.int .i64)).toArray 3)
  replace B := bal (o := Obj.cells ([c.freq].map (Value.int .i64)).toArray 3) B
  generalize w1.alloc (Obj.cells ([c.freq].map (Value.int .i64)).toArray 3) = w2 at *
  obtain ⟨c0, c1, c2, c3, r4, c5, c6, c7, c8⟩ := HFA.out _ A
  clear r4
  go_wp2_with fail
  clear c0 c1 c2 c3 c5 c6 c7 c8
  have Z1 := Blk.new w2 ([c.control, c.balance, c.noise].map (Value.int .i64)).toArray 3
  refine (psg_within 255 (some ⟨w2.heap.size, 0, none⟩) 3 [c.control, c.balance, c.noise] _ (SlAt.of_blkL Z1) R2.out (by simp)).mono ?_; rintro e w' ⟨rfl, rfl⟩
  clear Z1
  replace A := Blk.alloc A (Obj.cells ([c.control, c.balance, c.noise].map (Value.int .i64)).toArray 3)
  replace B := bal (o := Obj.cells ([c.control, c.balance, c.noise].map (Value.int .i64)).toArray 3) B
  generalize w2.alloc (Obj.cells ([c.control, c.balance, c.noise].map (Value.int .i64)).toArray 3) = w3 at *
  obtain ⟨c0, c1, c2, c3, r4, c5, c6, c7, c8⟩ := HFA.out _ A
  clear r4
  go_wp2_with fail
  clear c0 c1 c2 c3 c5 c6 c7 c8
  have Z1 := Blk.new w3 ([c.index, c.dda].map (Value.int .i64)).toArray 3
  refine (psg_within 31 (some ⟨w3.heap.size, 0, none⟩) 2 [c.index, c.dda] _ (SlAt.of_blkL Z1) R3.out (by simp)).mono ?_; rintro e w' ⟨rfl, rfl⟩
  clear Z1
  replace A := Blk.alloc A (Obj.cells ([c.index, c.dda].map (Value.int .i64)).toArray 3)
  replace B := bal (o := Obj.cells ([c.index, c.dda].map (Value.int .i64)).toArray 3) B
  generalize w3.alloc (Obj.cells ([c.index, c.dda].map (Value.int .i64)).toArray 3) = w4 at *
  obtain ⟨c0, c1, c2, c3, r4, c5, c6, c7, c8⟩ := HFA.out _ A
  clear r4
  go_wp2_with fail
  clear c0 c1 c2 c3 c5 c6 c7 c8
  have hsw := psg_within 31 (some ⟨w.heap.size, 4, none⟩) 32 c.wave w4 (HW _ A) HWV.out (by omega)
  rw [hw32] at hsw
  refine hsw.mono ?_; rintro e w' ⟨rfl, rfl⟩
  clear hsw
  obtain ⟨c0, c1, c2, c3, r4, c5, c6, c7, c8⟩ := HFA.out _ A
  clear r4
  go_wp2_with fail
  clear c0 c1 c2 c3 c5 c6 c7 c8
  have Z1 := Blk.new w4 ([c.acc].map (Value.int .i64)).toArray 3
  refine (psg_within 16777215 (some ⟨w4.heap.size, 0, none⟩) 1 [c.acc] _ (SlAt.of_blkL Z1) R5.out (by simp)).mono ?_; rintro e w' ⟨rfl, rfl⟩
  clear Z1
  replace A := Blk.alloc A (Obj.cells ([c.acc].map (Value.int .i64)).toArray 3)
  replace B := bal (o := Obj.cells ([c.acc].map (Value.int .i64)).toArray 3) B
  generalize w4.alloc (Obj.cells ([c.acc].map (Value.int .i64)).toArray 3) = w5 at *
  obtain ⟨c0, c1, c2, c3, r4, c5, c6, c7, c8⟩ := HFA.out _ A
  clear r4
  go_wp2_with fail
  clear c0 c1 c2 c3 c5 c6 c7 c8
  have Z1 := Blk.new w5 ([c.rand].map (Value.int .i64)).toArray 3
  refine (psg_within 262143 (some ⟨w5.heap.size, 0, none⟩) 1 [c.rand] _ (SlAt.of_blkL Z1) R6.out (by simp)).mono ?_; rintro e w' ⟨rfl, rfl⟩
  clear Z1
  replace A := Blk.alloc A (Obj.cells ([c.rand].map (Value.int .i64)).toArray 3)
  replace B := bal (o := Obj.cells ([c.rand].map (Value.int .i64)).toArray 3) B
  generalize w5.alloc (Obj.cells ([c.rand].map (Value.int .i64)).toArray 3) = w6 at *
  obtain ⟨c0, c1, c2, c3, r4, c5, c6, c7, c8⟩ := HFA.out _ A
  clear r4
  go_wp2
  go_ret
  exact ⟨rfl, B⟩
theorem ChanV.size {c : ChanV} (h : c.Len) : c.cells.toArray.size = 40 := by simpa using ChanV.length h
theorem tChan : (Tryz.prog.info? 43).map (·.size) = some 40 := by kernel_rfl
theorem tPsg : (Tryz.prog.info? 46).map (·.size) = some 244 := by kernel_rfl
theorem ChanV.one {c : ChanV} : c.cells.toArray.all (·.oneCell') = true := all_oneCell_toArray fun x hx => by
  unfold ChanV.cells ChanV.fields intsC at hx
  simp only [List.flatten_cons, List.flatten_nil, List.mem_append, List.mem_cons, List.mem_map, List.not_mem_nil, or_false] at hx
  rcases hx with rfl | rfl | rfl | rfl | ⟨_, _, rfl⟩ | rfl | rfl | rfl | rfl <;> rfl
theorem PsgV.chanAt {p : PsgV} (hl : p.Len) {w : World} {b : Nat} {t : TypeId} (h : Blk w b p.fields.flatten.toArray t) (k : Nat) (hk : k < 6) : w.rangeAt b (4 + k * 40) (nth ChanV.zero p.c k).cells := by
  refine fld_range h (PsgV.lens hl) (4 + k) ?_ ?_
  · show ([.int .i64 p.sel] :: [.int .i64 p.main] :: [.int .i64 p.lfoFreq] :: [.int .i64 p.lfoControl] :: p.c.map ChanV.cells)[4 + k]? = _
    rw [show 4 + k = k + 4 by omega]
    simp only [List.getElem?_cons_succ, List.getElem?_map]
    rw [List.getElem?_eq_getElem (by rw [hl.six]; exact hk), nth_lt (by rw [hl.six]; exact hk)]
    rfl
  · rcases (show k = 0 ∨ k = 1 ∨ k = 2 ∨ k = 3 ∨ k = 4 ∨ k = 5 by omega) with rfl | rfl | rfl | rfl | rfl | rfl <;> decide
set_option maxHeartbeats 4000000 in
theorem psg_all (cs : List ChanV) (hc : cs.length = 6) (hok : ∀ x ∈ cs, x.Ok) (g : Nat) (pc : Array Value) (w : World) (A : Blk w g pc 46)
    (hr : ∀ wq, Blk wq g pc 46 → ∀ k, k < 6 → wq.rangeAt g (4 + k * 40) (nth ChanV.zero cs k).cells) :
    Calls Tryz.prog 210 #[.slice (some ⟨g, 4, none⟩) 6 6, .func (.func 211) #[] #[]] w fun e w' => e = .returned (.bool true) ∧ Below w.heap.size w w' := by
  obtain ⟨zc, hzc⟩ : ∃ zc : Array Value, zc = ChanV.zero.cells.toArray := ⟨_, rfl⟩
  have hzr : ∀ w, (zeroValue 43).run Tryz.prog w = .ok (.agg zc) w := fun w => by rw [hzc]; kernel_rfl
  have hzs : zc.size = 40 := by rw [hzc]; exact ChanV.size (zeros_length 32)
  have HR := Lib.hid hr
  have HOK := Lib.hid hok
  clear hzc hr hok
  go_enter Tryz.func210, Tryz.ntmps210
  go_wp2_with fail
  go_loopw [9] (fun i wr => ∃ k : Nat, k ≤ 6 ∧ i = .int .i64 k ∧ Blk wr g pc 46 ∧ Below w.heap.size w wr) (fun i _ => 6 - (intOf i).toNat)
  case atStart => exact ⟨0, by omega, rfl, A, Below.refl _ _⟩
  case round =>
    clear A
    obtain ⟨k, hk, rfl, A, B⟩ := hrel
    by_cases hlt : k < 6
    · have d1 : decide ((k : Int) < 6) = true := by simp; omega
      have i1 : (k : Int) < 6 := by omega
      have hx := HOK.out _ (nth_mem (d := ChanV.zero) (show k < cs.length by omega))
      have hrg := HR.out wr A k hlt
      have HV := Lib.hid (fun w => psg_chan _ hx w)
      have h40 := ChanV.size hx.len
      have hone := ChanV.one (c := nth ChanV.zero cs k)
      have hs1 : (Tryz.prog.info? 43).map (·.size) = some (nth ChanV.zero cs k).cells.toArray.size := by rw [h40]; exact tChan
      have hs2 : (Tryz.prog.info? 43).map (·.size) = some (nth ChanV.zero cs k).cells.length := by rw [ChanV.length hx.len]; exact tChan
      have hs3 : zc.size = (nth ChanV.zero cs k).cells.toArray.size := by rw [h40, hzs]
      have HS1 := Lib.hid hs1
      have HS2 := Lib.hid hs2
      have HS3 := Lib.hid hs3
      have HO := Lib.hid hone
      have Z := Blk.new wr zc 43
      have Z2 := Blk.setRow Z (nth ChanV.zero cs k).cells.toArray
      have s1 := B.size
      have A2 : Blk ((wr.alloc (Obj.cells zc 43)).setRow wr.heap.size (nth ChanV.zero cs k).cells.toArray) g pc 46 := Blk.setRow_other (Blk.alloc A _) _ (by have := Blk.lt A; omega)
      have B2 : Below w.heap.size w ((wr.alloc (Obj.cells zc 43)).setRow wr.heap.size (nth ChanV.zero cs k).cells.toArray) := below_setRow (B.alloc s1 _) s1 _
      clear hs1 hs2 hs3 hone h40 hx
      generalize hcl : (nth ChanV.zero cs k).cells = cl at *
      clear hcl
      have ZH := Lib.hid Z2
      have AH := Lib.hid A2
      clear Z2 A2
      go_wp2_with (first
        | (refine wpList_load_mid rfl 43 _ rfl g (4 + k * 40) (by first | rfl | kernel_rfl) cl _ hrg Tryz.underlying43 rfl HS2.out ?_)
        | (refine wpList_store_row rfl 43 _ _ rfl wr.heap.size cl.toArray rfl rfl 43 zc Z HS1.out HS3.out HO.out ?_)
        | (refine wpList_load_row rfl 43 _ rfl wr.heap.size rfl 43 cl.toArray (0, 0) _ ZH.out Tryz.underlying43 rfl HS1.out ?_))
      refine (HV.out _).mono ?_; rintro e w2 ⟨rfl, b2⟩
      have A3 := Blk.below AH.out b2
      have B3 := B2.trans (b2.mono B2.size)
      clear AH ZH B2 B Z A hrg b2 HV
      go_wp2
      go_roundw
      case rel => exact ⟨k + 1, by omega, by go_num, A3, B3⟩
      case measure => simp [intOf]; omega
    · obtain rfl : k = 6 := by omega
      have d1 : decide (((6 : Nat) : Int) < 6) = false := by decide
      clear A
      go_wp2
      go_ret
      exact ⟨rfl, B⟩
set_option maxHeartbeats 4000000 in
theorem psg_Valid (p : PsgV) (h : p.Ok) (w : World) : Calls Tryz.prog 127 #[.agg p.cells.toArray] w fun e w' => e = .returned (.bool true) ∧ Below w.heap.size w w' := by
  have A : Blk (w.alloc (Obj.cells p.cells.toArray 46)) w.heap.size p.fields.flatten.toArray 46 := Blk.new w p.cells.toArray 46
  have B := bal (o := Obj.cells p.cells.toArray 46) (Below.refl w.heap.size w)
  have hlens := PsgV.lens h.len
  have FA : ∀ wq, Blk wq w.heap.size p.fields.flatten.toArray 46 → wq.cell? ⟨w.heap.size, 0, none⟩ = some (.int .i64 p.sel) ∧ wq.cell? ⟨w.heap.size, 1, none⟩ = some (.int .i64 p.main) ∧ wq.cell? ⟨w.heap.size, 2, none⟩ = some (.int .i64 p.lfoFreq) ∧ wq.cell? ⟨w.heap.size, 3, none⟩ = some (.int .i64 p.lfoControl) := fun wq h =>
    ⟨fld_cell h hlens 0 rfl (by decide), fld_cell h hlens 1 rfl (by decide), fld_cell h hlens 2 rfl (by decide), fld_cell h hlens 3 rfl (by decide)⟩
  have HFA := Lib.hid FA
  clear FA hlens
  obtain ⟨c0, c1, c2, c3⟩ := HFA.out _ A
  have hcc : p.cells = p.fields.flatten := rfl
  rw [hcc] at A B c0 c1 c2 c3 ⊢
  clear hcc
  have r1 : ∀ z ∈ [p.sel], 0 ≤ z ∧ z ≤ 7 := by have := h.sel; simp; omega
  have r2 : ∀ z ∈ [p.main, p.lfoFreq, p.lfoControl], 0 ≤ z ∧ z ≤ 255 := by have := h.main; have := h.lfoFreq; have := h.lfoControl; simp; omega
  have R1 := Lib.hid r1
  have R2 := Lib.hid r2
  clear r1 r2
  generalize hpc : p.fields.flatten.toArray = pc at *
  go_enter Tryz.func127, Tryz.ntmps127
  go_upto_region 1 with (fail)
  generalize w.alloc (Obj.cells pc 46) = w1 at *
  go_wp2_with fail
  have Z1 := Blk.new w1 ([p.sel].map (Value.int .i64)).toArray 3
  refine (psg_within 7 (some ⟨w1.heap.size, 0, none⟩) 1 [p.sel] _ (SlAt.of_blkL Z1) R1.out (by simp)).mono ?_; rintro e w' ⟨rfl, rfl⟩
  clear Z1 c0 c1 c2 c3
  replace A := Blk.alloc A (Obj.cells ([p.sel].map (Value.int .i64)).toArray 3)
  replace B := bal (o := Obj.cells ([p.sel].map (Value.int .i64)).toArray 3) B
  generalize w1.alloc (Obj.cells ([p.sel].map (Value.int .i64)).toArray 3) = w2 at *
  obtain ⟨c0, c1, c2, c3⟩ := HFA.out _ A
  go_wp2_with fail
  have Z1 := Blk.new w2 ([p.main, p.lfoFreq, p.lfoControl].map (Value.int .i64)).toArray 3
  refine (psg_within 255 (some ⟨w2.heap.size, 0, none⟩) 3 [p.main, p.lfoFreq, p.lfoControl] _ (SlAt.of_blkL Z1) R2.out (by simp)).mono ?_; rintro e w' ⟨rfl, rfl⟩
  clear Z1 c0 c1 c2 c3
  replace A := Blk.alloc A (Obj.cells ([p.main, p.lfoFreq, p.lfoControl].map (Value.int .i64)).toArray 3)
  replace B := bal (o := Obj.cells ([p.main, p.lfoFreq, p.lfoControl].map (Value.int .i64)).toArray 3) B
  generalize w2.alloc (Obj.cells ([p.main, p.lfoFreq, p.lfoControl].map (Value.int .i64)).toArray 3) = w3 at *
  obtain ⟨c0, c1, c2, c3⟩ := HFA.out _ A
  go_wp2_with fail
  have hrr : ∀ wq, Blk wq w.heap.size pc 46 → ∀ k, k < 6 → wq.rangeAt w.heap.size (4 + k * 40) (nth ChanV.zero p.c k).cells := fun wq hq k hk => by
    rw [← hpc] at hq
    exact PsgV.chanAt h.len hq k hk
  refine (psg_all p.c h.six h.each w.heap.size pc w3 A hrr).mono ?_; rintro e w4 ⟨rfl, b4⟩
  have B4 := B.trans (b4.mono B.size)
  clear c0 c1 c2 c3 A B b4 hrr
  go_wp2
  go_ret
  exact ⟨rfl, B4⟩
end Go.Proofs.YtnllkgjmoipgbaaGreatDoor
-- SmI
namespace Go.Proofs.YtnllkgjmoipgbaaGreatDoor
open Go Go.RowKit
set_option linter.unusedSimpArgs false
set_option linter.unusedVariables false
set_option maxRecDepth 100000

theorem range_fld {w : World} {b o : Nat} {L : List (List Value)} {ns : List Nat} {x : List Value} (h : w.rangeAt b o L.flatten) (hn : L.map List.length = ns) (i : Nat) (hi : L[i]? = some x) {d : Nat} (hd : offL ns i = d) : w.rangeAt b (o + d) x := by
  rw [flat_at hi] at h
  have h1 := (range_split h (flat_len L hn i)).2
  rw [hd] at h1
  exact (range_split h1 rfl).1
theorem ChanV.reads {w : World} {b o : Nat} {c : ChanV} (h : w.rangeAt b o c.cells) (hl : c.Len) : w.cell? ⟨b, o, none⟩ = some (.int .i64 c.freq) ∧ w.cell? ⟨b, o + 1, none⟩ = some (.int .i64 c.control) ∧ w.cell? ⟨b, o + 2, none⟩ = some (.int .i64 c.balance) ∧ w.cell? ⟨b, o + 3, none⟩ = some (.int .i64 c.noise) ∧
    (∀ j, j < 32 → w.cell? ⟨b, o + 4 + j, none⟩ = some (.int .i64 (nth 0 c.wave j))) ∧ w.cell? ⟨b, o + 36, none⟩ = some (.int .i64 c.index) ∧ w.cell? ⟨b, o + 37, none⟩ = some (.int .i64 c.acc) ∧ w.cell? ⟨b, o + 38, none⟩ = some (.int .i64 c.rand) ∧ w.cell? ⟨b, o + 39, none⟩ = some (.int .i64 c.dda) := by
  have hn := ChanV.lens hl
  have h0 : w.rangeAt b o c.fields.flatten := h
  have hw : c.wave.length = 32 := hl
  exact ⟨by simpa using range_one (range_fld h0 hn 0 rfl (d := 0) (by decide)), range_one (range_fld h0 hn 1 rfl (by decide)), range_one (range_fld h0 hn 2 rfl (by decide)), range_one (range_fld h0 hn 3 rfl (by decide)), fun j hj => range_ints (range_fld h0 hn 4 rfl (by decide)) (by omega),
    range_one (range_fld h0 hn 5 rfl (by decide)), range_one (range_fld h0 hn 6 rfl (by decide)), range_one (range_fld h0 hn 7 rfl (by decide)), range_one (range_fld h0 hn 8 rfl (by decide))⟩
theorem ChanV.cells_eq (c : ChanV) : c.cells = .int .i64 c.freq :: .int .i64 c.control :: .int .i64 c.balance :: .int .i64 c.noise :: (intsC c.wave ++ [.int .i64 c.index, .int .i64 c.acc, .int .i64 c.rand, .int .i64 c.dda]) := by
  unfold ChanV.cells ChanV.fields; simp
theorem ChanV.set_wave (c : ChanV) (i : Nat) (hi : i < c.wave.length) (x : Int) : c.cells.set (4 + i) (.int .i64 x) = ChanV.cells { c with wave := c.wave.set i x } := by
  rw [ChanV.cells_eq, ChanV.cells_eq, show 4 + i = i + 4 by omega]
  simp only [List.set_cons_succ]
  rw [List.set_append_left _ _ (by rw [intsC_length]; exact hi)]
  unfold intsC
  rw [List.map_set]
theorem ChanV.set_index (c : ChanV) (hl : c.Len) (x : Int) : c.cells.set 36 (.int .i64 x) = ChanV.cells { c with index := x } := by
  have hw : c.wave.length = 32 := hl
  rw [ChanV.cells_eq, ChanV.cells_eq]
  simp only [List.set_cons_succ]
  rw [List.set_append_right _ _ (by rw [intsC_length]; omega), intsC_length, hw]; rfl
theorem ChanV.set_dda (c : ChanV) (hl : c.Len) (x : Int) : c.cells.set 39 (.int .i64 x) = ChanV.cells { c with dda := x } := by
  have hw : c.wave.length = 32 := hl
  rw [ChanV.cells_eq, ChanV.cells_eq]
  simp only [List.set_cons_succ]
  rw [List.set_append_right _ _ (by rw [intsC_length]; omega), intsC_length, hw]; rfl
/-- One channel of a sound in its block. -/
theorem PsgV.getC {p : PsgV} (hl : p.Len) (k : Nat) (hk : k < 6) : p.fields[4 + k]? = some (nth ChanV.zero p.c k).cells := by
  show ([.int .i64 p.sel] :: [.int .i64 p.main] :: [.int .i64 p.lfoFreq] :: [.int .i64 p.lfoControl] :: p.c.map ChanV.cells)[4 + k]? = _
  rw [show 4 + k = k + 4 by omega]
  simp only [List.getElem?_cons_succ, List.getElem?_map]
  rw [List.getElem?_eq_getElem (by rw [hl.six]; exact hk), nth_lt (by rw [hl.six]; exact hk)]
  rfl
def PsgV.setC (p : PsgV) (k : Nat) (c : ChanV) : PsgV := { p with c := p.c.set k c }
theorem PsgV.setC_len {p : PsgV} (hl : p.Len) (k : Nat) {c : ChanV} (hc : c.Len) : (p.setC k c).Len := ⟨by show (p.c.set k c).length = 6; simpa using hl.six, fun x hx => by
  rcases List.mem_or_eq_of_mem_set hx with h | rfl
  · exact hl.each x h
  · exact hc⟩
theorem PsgV.setC_fields (p : PsgV) (k : Nat) (c : ChanV) : p.fields.set (4 + k) c.cells = (p.setC k c).fields := by
  show ([.int .i64 p.sel] :: [.int .i64 p.main] :: [.int .i64 p.lfoFreq] :: [.int .i64 p.lfoControl] :: p.c.map ChanV.cells).set (4 + k) c.cells = _
  rw [show 4 + k = k + 4 by omega]
  simp only [List.set_cons_succ]
  show _ = [.int .i64 p.sel] :: [.int .i64 p.main] :: [.int .i64 p.lfoFreq] :: [.int .i64 p.lfoControl] :: (p.c.set k c).map ChanV.cells
  rw [List.map_set]
theorem psgOff (k : Nat) (hk : k < 6) : offL psgLens (4 + k) = 4 + k * 40 := by
  rcases (show k = 0 ∨ k = 1 ∨ k = 2 ∨ k = 3 ∨ k = 4 ∨ k = 5 by omega) with rfl | rfl | rfl | rfl | rfl | rfl <;> decide
/-- A cell of a channel laid anew. -/
theorem PsgV.put {w : World} {g : Nat} {t : TypeId} {p : PsgV} (hl : p.Len) (A : Blk w g p.fields.flatten.toArray t) (k : Nat) (hk : k < 6) (j : Nat) (hj : j < 40) (v : Value) (c : ChanV) (hc : (nth ChanV.zero p.c k).cells.set j v = c.cells) {o : Nat} (ho : 4 + k * 40 + j = o) :
    Blk (w.setCell ⟨g, o, none⟩ v) g (p.setC k c).fields.flatten.toArray t := by
  have hlc : (nth ChanV.zero p.c k).Len := hl.each _ (nth_mem (by rw [hl.six]; exact hk))
  have := fld_set1 A (PsgV.lens hl) (4 + k) j v (PsgV.getC hl k hk) (by rw [ChanV.length hlc]; exact hj) (oj := o) (by rw [psgOff k hk]; exact ho)
  rwa [hc, PsgV.setC_fields] at this
theorem PsgV.setC_setC (p : PsgV) (k : Nat) (c c' : ChanV) : (p.setC k c).setC k c' = p.setC k c' := by unfold PsgV.setC; simp
theorem PsgV.setC_nth (p : PsgV) (k : Nat) (c : ChanV) (hk : k < p.c.length) : nth ChanV.zero (p.setC k c).c k = c := nth_set_eq hk
theorem PsgV.setC_self (p : PsgV) (k : Nat) (hk : k < p.c.length) : p.setC k (nth ChanV.zero p.c k) = p := by
  unfold PsgV.setC
  rw [nth_lt hk, List.set_getElem_self]
theorem b256 (b : Int) (h : 0 ≤ b ∧ b ≤ 255) : bits .and .i64 b 192 = b / 64 * 64 ∧ bits .and .i64 b 64 = b / 64 % 2 * 64 := by
  have : ∀ l : Fin 256, bits .and .i64 (l.val : Int) 192 = (l.val : Int) / 64 * 64 ∧ bits .and .i64 (l.val : Int) 64 = (l.val : Int) / 64 % 2 * 64 := by decide +kernel
  have := this ⟨b.toNat, by omega⟩
  simpa [Int.toNat_of_nonneg h.1] using this
theorem not4095 (n : Int) (h : 0 ≤ n ∧ n ≤ 4095) : bits .andNot .i64 n 255 = n / 256 * 256 := by
  have : ∀ l : Fin 4096, bits .andNot .i64 (l.val : Int) 255 = (l.val : Int) / 256 * 256 := by decide +kernel
  have := this ⟨n.toNat, by omega⟩
  simpa [Int.toNat_of_nonneg h.1] using this
end Go.Proofs.YtnllkgjmoipgbaaGreatDoor
-- SmJ
namespace Go.Proofs.YtnllkgjmoipgbaaGreatDoor
open Go Go.RowKit
set_option linter.unusedSimpArgs false
set_option linter.unusedVariables false
set_option maxRecDepth 100000

theorem PsgV.chan2 {p : PsgV} (hl : p.Len) {k : Nat} (hk : k < 6) {c : ChanV} (h1 : c.Len) {w : World} {g : Nat} {t : TypeId} (A : Blk w g (p.setC k c).fields.flatten.toArray t) : w.rangeAt g (4 + k * 40) c.cells := by
  have := PsgV.chanAt (PsgV.setC_len hl k h1) A k hk
  rwa [PsgV.setC_nth _ _ _ (by rw [hl.six]; exact hk)] at this
theorem PsgV.put2 {p : PsgV} (hl : p.Len) {k : Nat} (hk : k < 6) {c : ChanV} (h1 : c.Len) {w : World} {g : Nat} {t : TypeId} (A : Blk w g (p.setC k c).fields.flatten.toArray t) (j : Nat) (hj : j < 40) (v : Value) (c' : ChanV) (hc : c.cells.set j v = c'.cells) :
    Blk (w.setCell ⟨g, 4 + k * 40 + j, none⟩ v) g (p.setC k c').fields.flatten.toArray t := by
  have h6 : k < p.c.length := by rw [hl.six]; exact hk
  have := PsgV.put (PsgV.setC_len hl k h1) A k hk j hj v c' (by rw [PsgV.setC_nth _ _ _ h6]; exact hc) rfl
  rwa [PsgV.setC_setC] at this
theorem or4095 (n b : Int) (h : 0 ≤ n ∧ n ≤ 4095) (hb : 0 ≤ b ∧ b ≤ 255) : bits .or .i64 (n / 256 * 256) b = n / 256 * 256 + b := or_join64 8 _ _ (by omega) (by omega) hb.1 (by simp; omega) (by omega) (by simp)
theorem join4095 (n b : Int) : bits .or .i64 (n % 256) (b % 16 * 256) = n % 256 + b % 16 * 256 := by
  have h1 : 0 ≤ n % 256 ∧ n % 256 < 256 := by omega
  have h2 : 0 ≤ b % 16 ∧ b % 16 < 16 := by omega
  generalize n % 256 = x at *
  generalize b % 16 = y at *
  have : ∀ l : Fin 256, ∀ m : Fin 16, bits .or .i64 (l.val : Int) ((m.val : Int) * 256) = (l.val : Int) + (m.val : Int) * 256 := by decide +kernel
  have := this ⟨x.toNat, by omega⟩ ⟨y.toNat, by omega⟩
  simpa [Int.toNat_of_nonneg h1.1, Int.toNat_of_nonneg h2.1] using this
theorem ChanV.set_freq (c : ChanV) (x : Int) : c.cells.set 0 (.int .i64 x) = ChanV.cells { c with freq := x } := rfl
theorem ChanV.set_control (c : ChanV) (x : Int) : c.cells.set 1 (.int .i64 x) = ChanV.cells { c with control := x } := rfl
theorem ChanV.set_balance (c : ChanV) (x : Int) : c.cells.set 2 (.int .i64 x) = ChanV.cells { c with balance := x } := rfl
theorem ChanV.set_noise (c : ChanV) (x : Int) : c.cells.set 3 (.int .i64 x) = ChanV.cells { c with noise := x } := rfl
set_option maxHeartbeats 4000000 in
theorem chan_write (t : TypeId) (S : ChanV → Array Value) (g o : Nat) (RD : ∀ c w, ChanV.Len c → Blk w g (S c) t → w.rangeAt g o c.cells)
    (PT : ∀ c w, ChanV.Len c → Blk w g (S c) t → ∀ j, j < 40 → ∀ v c', c.cells.set j v = ChanV.cells c' → Blk (w.setCell ⟨g, o + j, none⟩ v) g (S c') t)
    (c : ChanV) (hc : c.Ok) (a b : Int) (hb : 0 ≤ b ∧ b ≤ 255) (noisy : Bool) (w : World) (A : Blk w g (S c) t) :
    Calls Tryz.prog 128 #[.pointer (some ⟨g, o, none⟩), .int .i64 a, .int .i64 b, .bool noisy] w fun e w' =>
      e = .returned (.tuple #[]) ∧ Blk w' g (S (c.write a b noisy)) t ∧ Tr [g] w w' := by
  have hl := hc.len
  obtain ⟨c0, c1, c2, c3, c4, c5, c6, c7, c8⟩ := ChanV.reads (RD c w hl A) hl
  have P0 := Lib.hid (PT c w hl A)
  have P1 := Lib.hid PT
  have R1 := Lib.hid RD
  have HC := Lib.hid hc
  have hf := hc.freq
  have hi := hc.index
  have hct := hc.control
  have T0 : ∀ i v, Tr [g] w (w.setCell ⟨g, i, none⟩ v) := fun i v => Tr.setCell (Tr.refl _ _) i (by simp) v
  have HT := Lib.hid T0
  have g0 := Blk.free A o
  clear hc RD PT T0
  rcases (show a = 2 ∨ a = 3 ∨ a = 4 ∨ a = 5 ∨ a = 6 ∨ a = 7 ∨ (a ≠ 2 ∧ a ≠ 3 ∧ a ≠ 4 ∧ a ≠ 5 ∧ a ≠ 6 ∧ a ≠ 7) by omega) with rfl | rfl | rfl | rfl | rfl | rfl | ⟨n2, n3, n4, n5, n6, n7⟩
  · have e1 := not4095 c.freq hf
    have e2 := or4095 c.freq b hf hb
    clear c1 c2 c3 c4 c5 c6 c7 c8
    go_enter Tryz.func128, Tryz.ntmps128
    go_wp2
    exact ⟨rfl, .tuple #[], by first | exact rfl | (unfold results; rfl) | kernel_rfl, rfl, P0.out 0 (by decide) _ _ (ChanV.set_freq c _), HT.out _ _⟩
  · have e2 := join4095 c.freq b
    clear c1 c2 c3 c4 c5 c6 c7 c8
    go_enter Tryz.func128, Tryz.ntmps128
    go_wp2
    exact ⟨rfl, .tuple #[], by first | exact rfl | (unfold results; rfl) | kernel_rfl, rfl, P0.out 0 (by decide) _ _ (ChanV.set_freq c _), HT.out _ _⟩
  · have e1 := (b256 b hb).1
    have f1 := Blk.free A (o + 1)
    have f36 := Blk.free (P0.out 1 (by decide) _ _ (ChanV.set_control c b)) (o + 36)
    by_cases hq : b / 64 = 1
    · rw [hq] at e1
      have ew : c.write 4 b noisy = { c with control := b, index := 0 } := by unfold ChanV.write; simp [hq]
      rw [ew]
      clear c0 c2 c3 c4 c6 c7 c8 ew
      go_enter Tryz.func128, Tryz.ntmps128
      go_wp2
      exact ⟨rfl, .tuple #[], by first | exact rfl | (unfold results; rfl) | kernel_rfl, rfl, P1.out { c with control := b } _ hl (P0.out 1 (by decide) _ _ (ChanV.set_control c _)) 36 (by decide) _ _ (ChanV.set_index { c with control := b } hl 0), (HT.out _ _).setCell _ (by simp) _⟩
    · have ew : c.write 4 b noisy = { c with control := b } := by unfold ChanV.write; simp [hq]
      have d1 : (b / 64 * 64 == 64) = false := by simp; omega
      rw [ew]
      clear c0 c2 c3 c4 c5 c6 c7 c8 ew
      go_enter Tryz.func128, Tryz.ntmps128
      go_wp2
      exact ⟨rfl, .tuple #[], by first | exact rfl | (unfold results; rfl) | kernel_rfl, rfl, P0.out 1 (by decide) _ _ (ChanV.set_control c _), HT.out _ _⟩
  · have f2 := Blk.free A (o + 2)
    clear c0 c1 c3 c4 c5 c6 c7 c8
    go_enter Tryz.func128, Tryz.ntmps128
    go_wp2
    exact ⟨rfl, .tuple #[], by first | exact rfl | (unfold results; rfl) | kernel_rfl, rfl, P0.out 2 (by decide) _ _ (ChanV.set_balance c _), HT.out _ _⟩
  · have e1 := (b256 c.control hct).2
    have f39 := Blk.free A (o + 39)
    by_cases hq : c.control / 64 % 2 = 1
    · rw [hq] at e1
      have ew : c.write 6 b noisy = { c with dda := b % 32 } := by unfold ChanV.write; simp [hq]
      rw [ew]
      clear c0 c2 c3 c4 c5 c6 c7 ew
      go_enter Tryz.func128, Tryz.ntmps128
      go_wp2
      exact ⟨rfl, .tuple #[], by first | exact rfl | (unfold results; rfl) | kernel_rfl, rfl, P0.out 39 (by decide) _ _ (ChanV.set_dda c hl _), HT.out _ _⟩
    · have hq0 : c.control / 64 % 2 = 0 := by omega
      rw [hq0] at e1
      have ew : c.write 6 b noisy = { c with wave := c.wave.set c.index.toNat (b % 32), index := (c.index + 1) % 32 } := by unfold ChanV.write; simp [hq]
      have hwl : c.index.toNat < c.wave.length := by have : c.wave.length = 32 := hl; omega
      have PW := Lib.hid (P0.out (4 + c.index.toNat) (by omega) _ _ (ChanV.set_wave c c.index.toNat hwl (b % 32)))
      have hl2 : ChanV.Len { c with wave := c.wave.set c.index.toNat (b % 32) } := by unfold ChanV.Len at *; simpa using hl
      have PI := Lib.hid (fun w' h => P1.out { c with wave := c.wave.set c.index.toNat (b % 32) } w' hl2 h 36 (by decide) _ _ (ChanV.set_index _ hl2 ((c.index + 1) % 32)))
      have RI := Lib.hid (fun w' h => (ChanV.reads (R1.out { c with wave := c.wave.set c.index.toNat (b % 32) } w' hl2 h) hl2).2.2.2.2.2.1)
      have f4 := Blk.free A (o + 4 + c.index.toNat)
      have c4' := c4 c.index.toNat (by omega)
      have ew2 : IntKind.i64.wrap (c.index + 1) = c.index + 1 := IntWalk.i64_in _ (by omega)
      rw [ew]
      clear c0 c2 c3 c4 c6 c7 c8 ew f39
      go_enter Tryz.func128, Tryz.ntmps128
      go_wp2_with fail
      go_region
      have PW2 : Blk (w.setCell ⟨g, o + 4 + c.index.toNat, none⟩ (.int .i64 (b % 32))).drew g (S { c with wave := c.wave.set c.index.toNat (b % 32) }) t := by
        have := PW.out
        rw [← Nat.add_assoc] at this
        exact this
      have T2 : Tr [g] w (w.setCell ⟨g, o + 4 + c.index.toNat, none⟩ (.int .i64 (b % 32))).drew := (HT.out _ _).drew
      have c5' := RI.out _ PW2
      have f36 := Blk.free PW2 (o + 36)
      have PJ := Lib.hid (PI.out _ PW2)
      clear c5 c4' f4 PW PI RI A g0 P0 P1 R1 HT HC PW2
      generalize (w.setCell ⟨g, o + 4 + c.index.toNat, none⟩ (.int .i64 (b % 32))).drew = w2 at *
      go_wp2
      exact ⟨rfl, .tuple #[], by first | exact rfl | (unfold results; rfl) | kernel_rfl, rfl, PJ.out, T2.setCell _ (by simp) _⟩
  · have f3 := Blk.free A (o + 3)
    clear c0 c1 c2 c4 c5 c6 c7 c8
    cases noisy
    · go_enter Tryz.func128, Tryz.ntmps128
      go_wp2
      exact ⟨rfl, .tuple #[], by first | exact rfl | (unfold results; rfl) | kernel_rfl, rfl, A, Tr.refl _ _⟩
    · go_enter Tryz.func128, Tryz.ntmps128
      go_wp2
      exact ⟨rfl, .tuple #[], by first | exact rfl | (unfold results; rfl) | kernel_rfl, rfl, P0.out 3 (by decide) _ _ (ChanV.set_noise c _), HT.out _ _⟩
  · have e : c.write a b noisy = c := by unfold ChanV.write; simp [n2, n3, n4, n5, n6, n7]
    rw [e]
    clear c0 c1 c2 c3 c4 c5 c6 c7 c8
    go_enter Tryz.func128, Tryz.ntmps128
    go_wp2
    exact ⟨rfl, .tuple #[], by first | exact rfl | (unfold results; rfl) | kernel_rfl, rfl, A, Tr.refl _ _⟩
theorem psg_cwrite (p : PsgV) (hp : p.Ok) (k : Nat) (hk : k < 6) (a b : Int) (hb : 0 ≤ b ∧ b ≤ 255) (noisy : Bool) (g : Nat) (t : TypeId) (w : World) (A : Blk w g p.fields.flatten.toArray t) :
    Calls Tryz.prog 128 #[.pointer (some ⟨g, 4 + k * 40, none⟩), .int .i64 a, .int .i64 b, .bool noisy] w fun e w' =>
      e = .returned (.tuple #[]) ∧ Blk w' g (p.setC k ((nth ChanV.zero p.c k).write a b noisy)).fields.flatten.toArray t ∧ Tr [g] w w' := by
  have h6 : k < p.c.length := by rw [hp.six]; exact hk
  exact chan_write t (fun c => (p.setC k c).fields.flatten.toArray) g (4 + k * 40) (fun c w h1 h => PsgV.chan2 hp.len hk h1 h) (fun c w h1 h j hj v c' hc => PsgV.put2 hp.len hk h1 h j hj v c' hc)
    (nth ChanV.zero p.c k) (hp.nth hk) a b hb noisy w (by show Blk w g (p.setC k (nth ChanV.zero p.c k)).fields.flatten.toArray t; rw [PsgV.setC_self p k h6]; exact A)
end Go.Proofs.YtnllkgjmoipgbaaGreatDoor
-- SmK
namespace Go.Proofs.YtnllkgjmoipgbaaGreatDoor
open Go Go.RowKit
set_option linter.unusedSimpArgs false
set_option linter.unusedVariables false
set_option maxRecDepth 100000

theorem PsgV.size {p : PsgV} (h : p.Len) : p.fields.flatten.toArray.size = 244 := by rw [List.size_toArray]; exact PsgV.length h
theorem PsgV.one {p : PsgV} : p.fields.flatten.toArray.all (·.oneCell') = true := all_oneCell_toArray fun x hx => by
  obtain ⟨l, hl, hx⟩ := List.mem_flatten.1 hx
  unfold PsgV.fields at hl
  simp only [List.mem_cons, List.mem_map] at hl
  rcases hl with rfl | rfl | rfl | rfl | ⟨c, _, rfl⟩
  · simp at hx; subst hx; rfl
  · simp at hx; subst hx; rfl
  · simp at hx; subst hx; rfl
  · simp at hx; subst hx; rfl
  · have := ChanV.one (c := c)
    rw [Array.all_eq_true'] at this
    exact this x (by simpa using hx)
theorem PsgV.putF {p : PsgV} (hl : p.Len) {w : World} {g : Nat} {t : TypeId} (A : Blk w g p.fields.flatten.toArray t) (j : Nat) (v x : Value) (p' : PsgV) (h : p.fields[j]? = some [x]) (hj : offL psgLens j = j) (hp : p.fields.set j [v] = p'.fields) : Blk (w.setCell ⟨g, j, none⟩ v) g p'.fields.flatten.toArray t := by
  have := fld_set1 A (PsgV.lens hl) j 0 v h (by simp) (oj := j) (by rw [hj]; rfl)
  simp only [List.set_cons_zero] at this
  rwa [hp] at this
def PsD (pc pc' zc : Array Value) (n0 : Nat) (W : World) (m : Nat) (w' : World) : Prop := Blk w' n0 (if m = 0 then pc else pc') 46 ∧ Blk w' (n0 + 1) zc 46 ∧ Below n0 W w'
set_option maxHeartbeats 4000000 in
theorem psg_Write (p : PsgV) (hp : p.Ok) (a b : Int) (hb : 0 ≤ b ∧ b ≤ 255) (w : World) : Calls Tryz.prog 55 #[.agg p.cells.toArray, .int .i64 a, .int .i64 b] w fun e w' => e = .returned (.agg (p.write a b).cells.toArray) ∧ Below w.heap.size w w' := by
  have hl := hp.len
  have hsel := hp.sel
  have hok := Lib.hid (hp.write a b hb)
  have hb256 : b % 256 = b := by omega
  obtain ⟨zc, hzc⟩ : ∃ zc : Array Value, zc = (PsgV.fields ⟨0, 0, 0, 0, List.replicate 6 ChanV.zero⟩).flatten.toArray := ⟨_, rfl⟩
  have hzr : ∀ w, (zeroValue 46).run Tryz.prog w = .ok (.agg zc) w := fun w => by rw [hzc]; kernel_rfl
  have hzs : zc.size = 244 := by rw [hzc]; exact PsgV.size ⟨rfl, fun x hx => by rw [List.eq_of_mem_replicate hx]; exact zeros_length 32⟩
  clear hzc
  have HS := Lib.hid (fun (u : PsgV) (hu : u.Len) => (show (Tryz.prog.info? 46).map (·.size) = some u.fields.flatten.toArray.size from by rw [PsgV.size hu]; exact tPsg))
  have HZ := Lib.hid (fun (u : PsgV) (hu : u.Len) => (show zc.size = u.fields.flatten.toArray.size from by rw [PsgV.size hu]; exact hzs))
  have HV := Lib.hid (fun w => psg_Valid p hp w)
  have HP := Lib.hid hp
  have hcc : p.cells = p.fields.flatten := rfl
  have hcw : (p.write a b).cells = (p.write a b).fields.flatten := rfl
  rw [hcc] at HV ⊢
  rw [hcw]
  have hp1 := HS.out p hl
  have hz1 := HZ.out p hl
  have HP1 := Lib.hid hp1
  have HO := Lib.hid (PsgV.one (p := p))
  have A := Blk.alloc (Blk.new w p.fields.flatten.toArray 46) (Obj.cells zc 46)
  have R := Blk.new' (w.alloc (Obj.cells p.fields.flatten.toArray 46)) zc 46 (n := w.heap.size + 1) (by simp)
  have B : Below w.heap.size w ((w.alloc (Obj.cells p.fields.flatten.toArray 46)).alloc (Obj.cells zc 46)) := bal (bal (Below.refl _ _))
  have PF := Lib.hid (fun w' A => PsgV.putF hl (w := w') (g := w.heap.size) (t := 46) A)
  have FA : ∀ wq, Blk wq w.heap.size p.fields.flatten.toArray 46 → wq.cell? ⟨w.heap.size, 0, none⟩ = some (.int .i64 p.sel) ∧ wq.cell? ⟨w.heap.size, 1, none⟩ = some (.int .i64 p.main) ∧ wq.cell? ⟨w.heap.size, 2, none⟩ = some (.int .i64 p.lfoFreq) ∧ wq.cell? ⟨w.heap.size, 3, none⟩ = some (.int .i64 p.lfoControl) := fun wq h =>
    ⟨fld_cell h (PsgV.lens hl) 0 rfl (by decide), fld_cell h (PsgV.lens hl) 1 rfl (by decide), fld_cell h (PsgV.lens hl) 2 rfl (by decide), fld_cell h (PsgV.lens hl) 3 rfl (by decide)⟩
  have CW := Lib.hid (fun k hk noisy w' A => psg_cwrite p hp k hk a b hb noisy w.heap.size 46 w' A)
  have HFA := Lib.hid FA
  clear FA hp hp1 hz1 hcc hcw hzs
  generalize hpc : p.fields.flatten.toArray = pc at *
  have HPC := Lib.hid hpc
  clear hpc
  obtain ⟨ans, hans⟩ : ∃ ans : Array Value, (p.write a b).fields.flatten.toArray = ans := ⟨_, rfl⟩
  rw [hans]
  have HANS := Lib.hid hans
  clear hans
  go_enter Tryz.func55, Tryz.ntmps55
  go_upto_region 1 with (fail)
  generalize (w.alloc (Obj.cells pc 46)).alloc (Obj.cells zc 46) = w1 at *
  have hl1 := Blk.lt R
  clear hzr
  go_wp2_with (first
    | (refine wpList_load_row rfl 46 _ rfl w.heap.size rfl 46 pc (0, 0) _ A Tryz.underlying46 rfl HP1.out ?_))
  refine (HV.out _).mono ?_; rintro e w2 ⟨rfl, b2⟩
  replace A := Blk.below A b2
  replace R := Blk.below R b2
  replace B := B.trans (b2.mono B.size)
  clear b2 HV hl1
  go_wp2_with fail
  refine (bits_Byte b _).mono ?_; rintro e w' ⟨rfl, rfl⟩
  rw [hb256]
  rcases (show a = 0 ∨ a = 1 ∨ a = 8 ∨ a = 9 ∨ (a ≠ 0 ∧ a ≠ 1 ∧ a ≠ 8 ∧ a ≠ 9 ∧ 6 ≤ p.sel) ∨ (a ≠ 0 ∧ a ≠ 1 ∧ a ≠ 8 ∧ a ≠ 9 ∧ p.sel < 6) by omega) with rfl | rfl | rfl | rfl | ⟨n0, n1, n8, n9, h6⟩ | ⟨n0, n1, n8, n9, h6⟩
  · have e : p.write 0 b = { p with sel := b % 8 } := rfl
    have HA := HANS.out
    rw [e] at hok HA
    clear e HANS
    obtain ⟨c0, c1, c2, c3⟩ := HFA.out _ A
    have f0 := Blk.free A 0
    have PN := Lib.hid (PF.out _ A 0 (.int .i64 (b % 8)) _ { p with sel := b % 8 } rfl (by decide) rfl)
    have hs1 := HS.out _ hok.out.len
    have hz1 := HZ.out _ hok.out.len
    have HS1 := Lib.hid hs1
    have HZ1 := Lib.hid hz1
    have HO1 := Lib.hid (PsgV.one (p := ({ p with sel := b % 8 } : PsgV)))
    clear hs1 hz1 hok HS HZ PF CW
    generalize hu : (PsgV.fields { p with sel := b % 8 }).flatten.toArray = uc at *
    clear hu
    replace HA := Lib.hid HA
    go_upto_region 15 with (fail)
    have A2 := PN.out
    have R2 := Blk.other (b' := w.heap.size) (i := 0) R (.int .i64 (b % 8)) (by omega)
    have B2 := bst (i := 0) (v := .int .i64 (b % 8)) B (Nat.le_refl _)
    clear c0 c1 c2 c3 f0 A R B PN HFA
    generalize World.setCell _ ⟨w.heap.size, 0, none⟩ (.int .i64 (b % 8)) = w3 at *
    go_wp2_with (first
      | (refine wpList_load_row rfl 46 _ rfl w.heap.size rfl 46 uc (0, 0) _ A2 Tryz.underlying46 rfl HS1.out ?_)
      | (refine wpList_store_row rfl 46 _ _ rfl (w.heap.size + 1) uc rfl rfl 46 zc R2 HS1.out HZ1.out HO1.out ?_))
    exact ret_row rfl rfl (Blk.setRow R2 _) Tryz.underlying46 rfl HS1.out rfl ⟨by rw [HA.out], below_setRow B2 (by omega) _⟩
  · have e : p.write 1 b = { p with main := b } := rfl
    have HA := HANS.out
    rw [e] at hok HA
    clear e HANS
    obtain ⟨c0, c1, c2, c3⟩ := HFA.out _ A
    have f0 := Blk.free A 1
    have PN := Lib.hid (PF.out _ A 1 (.int .i64 (b)) _ { p with main := b } rfl (by decide) rfl)
    have hs1 := HS.out _ hok.out.len
    have hz1 := HZ.out _ hok.out.len
    have HS1 := Lib.hid hs1
    have HZ1 := Lib.hid hz1
    have HO1 := Lib.hid (PsgV.one (p := ({ p with main := b } : PsgV)))
    clear hs1 hz1 hok HS HZ PF CW
    generalize hu : (PsgV.fields { p with main := b }).flatten.toArray = uc at *
    clear hu
    replace HA := Lib.hid HA
    go_upto_region 15 with (fail)
    have A2 := PN.out
    have R2 := Blk.other (b' := w.heap.size) (i := 1) R (.int .i64 (b)) (by omega)
    have B2 := bst (i := 1) (v := .int .i64 (b)) B (Nat.le_refl _)
    clear c0 c1 c2 c3 f0 A R B PN HFA
    generalize World.setCell _ ⟨w.heap.size, 1, none⟩ (.int .i64 (b)) = w3 at *
    go_wp2_with (first
      | (refine wpList_load_row rfl 46 _ rfl w.heap.size rfl 46 uc (0, 0) _ A2 Tryz.underlying46 rfl HS1.out ?_)
      | (refine wpList_store_row rfl 46 _ _ rfl (w.heap.size + 1) uc rfl rfl 46 zc R2 HS1.out HZ1.out HO1.out ?_))
    exact ret_row rfl rfl (Blk.setRow R2 _) Tryz.underlying46 rfl HS1.out rfl ⟨by rw [HA.out], below_setRow B2 (by omega) _⟩
  · have e : p.write 8 b = { p with lfoFreq := b } := rfl
    have HA := HANS.out
    rw [e] at hok HA
    clear e HANS
    obtain ⟨c0, c1, c2, c3⟩ := HFA.out _ A
    have f0 := Blk.free A 2
    have PN := Lib.hid (PF.out _ A 2 (.int .i64 (b)) _ { p with lfoFreq := b } rfl (by decide) rfl)
    have hs1 := HS.out _ hok.out.len
    have hz1 := HZ.out _ hok.out.len
    have HS1 := Lib.hid hs1
    have HZ1 := Lib.hid hz1
    have HO1 := Lib.hid (PsgV.one (p := ({ p with lfoFreq := b } : PsgV)))
    clear hs1 hz1 hok HS HZ PF CW
    generalize hu : (PsgV.fields { p with lfoFreq := b }).flatten.toArray = uc at *
    clear hu
    replace HA := Lib.hid HA
    go_upto_region 15 with (fail)
    have A2 := PN.out
    have R2 := Blk.other (b' := w.heap.size) (i := 2) R (.int .i64 (b)) (by omega)
    have B2 := bst (i := 2) (v := .int .i64 (b)) B (Nat.le_refl _)
    clear c0 c1 c2 c3 f0 A R B PN HFA
    generalize World.setCell _ ⟨w.heap.size, 2, none⟩ (.int .i64 (b)) = w3 at *
    go_wp2_with (first
      | (refine wpList_load_row rfl 46 _ rfl w.heap.size rfl 46 uc (0, 0) _ A2 Tryz.underlying46 rfl HS1.out ?_)
      | (refine wpList_store_row rfl 46 _ _ rfl (w.heap.size + 1) uc rfl rfl 46 zc R2 HS1.out HZ1.out HO1.out ?_))
    exact ret_row rfl rfl (Blk.setRow R2 _) Tryz.underlying46 rfl HS1.out rfl ⟨by rw [HA.out], below_setRow B2 (by omega) _⟩
  · have e : p.write 9 b = { p with lfoControl := b } := rfl
    have HA := HANS.out
    rw [e] at hok HA
    clear e HANS
    obtain ⟨c0, c1, c2, c3⟩ := HFA.out _ A
    have f0 := Blk.free A 3
    have PN := Lib.hid (PF.out _ A 3 (.int .i64 (b)) _ { p with lfoControl := b } rfl (by decide) rfl)
    have hs1 := HS.out _ hok.out.len
    have hz1 := HZ.out _ hok.out.len
    have HS1 := Lib.hid hs1
    have HZ1 := Lib.hid hz1
    have HO1 := Lib.hid (PsgV.one (p := ({ p with lfoControl := b } : PsgV)))
    clear hs1 hz1 hok HS HZ PF CW
    generalize hu : (PsgV.fields { p with lfoControl := b }).flatten.toArray = uc at *
    clear hu
    replace HA := Lib.hid HA
    go_upto_region 15 with (fail)
    have A2 := PN.out
    have R2 := Blk.other (b' := w.heap.size) (i := 3) R (.int .i64 (b)) (by omega)
    have B2 := bst (i := 3) (v := .int .i64 (b)) B (Nat.le_refl _)
    clear c0 c1 c2 c3 f0 A R B PN HFA
    generalize World.setCell _ ⟨w.heap.size, 3, none⟩ (.int .i64 (b)) = w3 at *
    go_wp2_with (first
      | (refine wpList_load_row rfl 46 _ rfl w.heap.size rfl 46 uc (0, 0) _ A2 Tryz.underlying46 rfl HS1.out ?_)
      | (refine wpList_store_row rfl 46 _ _ rfl (w.heap.size + 1) uc rfl rfl 46 zc R2 HS1.out HZ1.out HO1.out ?_))
    exact ret_row rfl rfl (Blk.setRow R2 _) Tryz.underlying46 rfl HS1.out rfl ⟨by rw [HA.out], below_setRow B2 (by omega) _⟩
  · have e : p.write a b = p := by unfold PsgV.write; rw [if_neg n0, if_neg n1, if_neg n8, if_neg n9, if_neg (by omega)]
    have HA := HANS.out
    rw [e, HPC.out] at HA
    replace HA := Lib.hid HA
    have d : decide (p.sel < 6) = false := by simp; omega
    obtain ⟨c0, c1, c2, c3⟩ := HFA.out _ A
    have HS1 := HP1
    have hz1 := HZ.out _ HP.out.len
    rw [HPC.out] at hz1
    have HZ1 := Lib.hid hz1
    have HO1 := HO
    clear hz1 hok HS HZ PF CW e c1 c2 c3
    go_wp2_with (first
      | (refine wpList_load_row rfl 46 _ rfl w.heap.size rfl 46 pc (0, 0) _ A Tryz.underlying46 rfl HS1.out ?_)
      | (refine wpList_store_row rfl 46 _ _ rfl (w.heap.size + 1) pc rfl rfl 46 zc R HS1.out HZ1.out HO1.out ?_))
    exact ret_row rfl rfl (Blk.setRow R _) Tryz.underlying46 rfl HS1.out rfl ⟨by rw [HA.out], below_setRow B (by omega) _⟩
  · obtain ⟨k, hk⟩ : ∃ k : Nat, p.sel = k := ⟨p.sel.toNat, by omega⟩
    have hk6 : k < 6 := by omega
    have d : decide (p.sel < 6) = true := by simpa using h6
    have e : p.write a b = p.setC k ((nth ChanV.zero p.c k).write a b (decide ((4 : Int) ≤ p.sel))) := by
      have hkt : p.sel.toNat = k := by omega
      unfold PsgV.write PsgV.setC
      rw [if_neg n0, if_neg n1, if_neg n8, if_neg n9, if_pos h6, hkt]
    have HA := HANS.out
    rw [e] at hok HA
    have hul := hok.out.len
    have hu0 : (p.setC k ((nth ChanV.zero p.c k).write a b (decide ((4 : Int) ≤ p.sel)))).sel = p.sel := rfl
    have hFU : ∀ wq, Blk wq w.heap.size (p.setC k ((nth ChanV.zero p.c k).write a b (decide ((4 : Int) ≤ p.sel)))).fields.flatten.toArray 46 → wq.cell? ⟨w.heap.size, 0, none⟩ = some (.int .i64 p.sel) := fun wq h => fld_cell h (PsgV.lens hul) 0 rfl (by decide)
    have hs1 := HS.out _ hul
    have hz1 := HZ.out _ hul
    have HS1 := Lib.hid hs1
    have HZ1 := Lib.hid hz1
    have HO1 := Lib.hid (PsgV.one (p := p.setC k ((nth ChanV.zero p.c k).write a b (decide ((4 : Int) ≤ p.sel)))))
    have CK := Lib.hid (fun w' h => CW.out k hk6 (decide ((4 : Int) ≤ p.sel)) w' h)
    obtain ⟨c0, c1, c2, c3⟩ := HFA.out _ A
    clear hs1 hz1 hok HS HZ PF CW e HANS hul hu0 c1 c2 c3
    generalize hu : (p.setC k ((nth ChanV.zero p.c k).write a b (decide ((4 : Int) ≤ p.sel)))).fields.flatten.toArray = uc at *
    have hFC : ∀ m wq, PsD pc uc zc w.heap.size w m wq → wq.cell? ⟨w.heap.size, 0, none⟩ = some (.int .i64 p.sel) := fun m wq h => by
      obtain ⟨h1, _, _⟩ := h
      by_cases hm : m = 0
      · rw [if_pos hm] at h1; exact (HFA.out _ h1).1
      · rw [if_neg hm] at h1; exact hFU _ h1
    have FC := Lib.hid hFC
    clear hu hFC hFU
    replace HA := Lib.hid HA
    rw [hk] at CK
    go_upto_region 6 with (fail)
    have E0 : PsD pc uc zc w.heap.size w 0 w2.drew := ⟨A, R, below_drewN B 1⟩
    refine wp_region_n [9] (PsD pc uc zc w.heap.size w) (by kernel_rfl) (by kernel_rfl) (by kernel_rfl) (by kernel_rfl) E0 ?_
    clear E0
    iterate 9
      (refine wpN_other rfl (by decide) (fun K hK => ?_)
       apply Exists.intro
       refine ⟨fun m wq hm hq => ?_, hK _ ?_⟩
       · have c0 := FC.out m wq hq
         go_simp
         first | exact rfl | exact ⟨hq, rfl⟩ | exact ⟨rfl, rfl⟩
       clear hK K
       simp only [Act.put, List.setIfInBounds_toArray, List.set_cons_zero, List.set_cons_succ])
    refine wpN_turn 0 rfl (by decide) rfl (by kernel_rfl) ⟨.tuple #[], fun wq hq => ?_, ?_⟩
    · obtain ⟨h1, h2, h3⟩ := hq
      rw [if_pos rfl] at h1
      go_simp
      refine (CK.out wq h1).mono ?_
      rintro e w' ⟨rfl, h4, t4⟩
      exact ⟨rfl, by rw [if_neg (by decide)]; exact h4, Blk.tr h2 t4 (by simp), Tr.below h3 t4 (Nat.le_refl _) (by simp)⟩
    simp only [Act.put, List.setIfInBounds_toArray, List.set_cons_zero, List.set_cons_succ]
    rintro w5 ⟨h1, h2, h3⟩
    rw [if_neg (by decide)] at h1
    clear A R B FC CK HFA c0
    go_wp2_with (first
      | (refine wpList_load_row rfl 46 _ rfl w.heap.size rfl 46 uc (0, 0) _ h1 Tryz.underlying46 rfl HS1.out ?_)
      | (refine wpList_store_row rfl 46 _ _ rfl (w.heap.size + 1) uc rfl rfl 46 zc h2 HS1.out HZ1.out HO1.out ?_))
    exact ret_row rfl rfl (Blk.setRow h2 _) Tryz.underlying46 rfl HS1.out rfl ⟨by rw [HA.out], below_setRow h3 (by omega) _⟩
end Go.Proofs.YtnllkgjmoipgbaaGreatDoor
-- SmL
namespace Go.Proofs.YtnllkgjmoipgbaaGreatDoor
open Go Go.RowKit
set_option linter.unusedSimpArgs false
set_option linter.unusedVariables false
set_option maxRecDepth 100000

/-- A sound of which the first k channels are fresh. -/
def PsgV.upto (k : Nat) : PsgV := ⟨0, 0, 0, 0, List.replicate k ChanV.fresh ++ List.replicate (6 - k) ChanV.zero⟩
theorem PsgV.upto_len (k : Nat) (hk : k ≤ 6) : (PsgV.upto k).Len := ⟨by unfold PsgV.upto; simp; omega, fun x hx => by
  unfold PsgV.upto at hx
  rcases List.mem_append.1 hx with h | h
  · rw [List.eq_of_mem_replicate h]; exact zeros_length 32
  · rw [List.eq_of_mem_replicate h]; exact zeros_length 32⟩
theorem PsgV.upto_nth (k : Nat) (hk : k < 6) : nth ChanV.zero (PsgV.upto k).c k = ChanV.zero := by
  rcases (show k = 0 ∨ k = 1 ∨ k = 2 ∨ k = 3 ∨ k = 4 ∨ k = 5 by omega) with rfl | rfl | rfl | rfl | rfl | rfl <;> rfl
theorem PsgV.upto_next (k : Nat) (hk : k < 6) : (PsgV.upto k).setC k ChanV.fresh = PsgV.upto (k + 1) := by
  rcases (show k = 0 ∨ k = 1 ∨ k = 2 ∨ k = 3 ∨ k = 4 ∨ k = 5 by omega) with rfl | rfl | rfl | rfl | rfl | rfl <;> rfl
theorem ChanV.set_rand : ChanV.zero.cells.set 38 (.int .i64 1) = ChanV.fresh.cells := by kernel_rfl
theorem PsgV.upto_put (k : Nat) (hk : k < 6) {w : World} {g : Nat} {t : TypeId} (A : Blk w g (PsgV.upto k).fields.flatten.toArray t) : w.cell? ⟨g, 4 + k * 40 + 38, none⟩ = some (.int .i64 0) ∧ Blk (w.setCell ⟨g, 4 + k * 40 + 38, none⟩ (.int .i64 1)) g (PsgV.upto (k + 1)).fields.flatten.toArray t := by
  have hl := PsgV.upto_len k (by omega)
  have h0 := PsgV.upto_nth k hk
  refine ⟨?_, ?_⟩
  · have := PsgV.chanAt hl A k hk
    rw [h0] at this
    exact (ChanV.reads this (zeros_length 32)).2.2.2.2.2.2.2.1
  · have := PsgV.put hl A k hk 38 (by decide) (.int .i64 1) ChanV.fresh (by rw [h0]; exact ChanV.set_rand) rfl
    rwa [PsgV.upto_next k hk] at this
set_option maxHeartbeats 4000000 in
theorem psg_Fresh (w : World) : Calls Tryz.prog 48 #[] w fun e w' => e = .returned (.agg PsgV.fresh.cells.toArray) ∧ Below w.heap.size w w' := by
  obtain ⟨zc, hzc⟩ : ∃ zc : Array Value, zc = (PsgV.upto 0).fields.flatten.toArray := ⟨_, rfl⟩
  have hzr : ∀ w, (zeroValue 46).run Tryz.prog w = .ok (.agg zc) w := fun w => by rw [hzc]; kernel_rfl
  have hzs : zc.size = 244 := by rw [hzc]; exact PsgV.size (PsgV.upto_len 0 (by omega))
  have hu : (PsgV.upto 6).Len := PsgV.upto_len 6 (by omega)
  have hs1 : (Tryz.prog.info? 46).map (·.size) = some (PsgV.upto 6).fields.flatten.toArray.size := by rw [PsgV.size hu]; exact tPsg
  have hz1 : zc.size = (PsgV.upto 6).fields.flatten.toArray.size := by rw [PsgV.size hu]; exact hzs
  have HS1 := Lib.hid hs1
  have HZ1 := Lib.hid hz1
  have HO1 := Lib.hid (PsgV.one (p := PsgV.upto 6))
  clear hs1 hz1 hzs hu
  have R := Blk.alloc (Blk.new w zc 46) (Obj.cells zc 46)
  have A := Blk.new' (w.alloc (Obj.cells zc 46)) zc 46 (n := w.heap.size + 1) (by simp)
  have B : Below w.heap.size w ((w.alloc (Obj.cells zc 46)).alloc (Obj.cells zc 46)) := bal (bal (Below.refl _ _))
  rw [show zc = (PsgV.upto 0).fields.flatten.toArray from hzc] at A
  rw [← hzc] at A
  have HZC := Lib.hid hzc
  clear hzc
  go_enter Tryz.func48, Tryz.ntmps48
  go_upto_region 2 with (fail)
  generalize (w.alloc (Obj.cells zc 46)).alloc (Obj.cells zc 46) = w1 at *
  clear hzr
  go_wp2_with fail
  go_loopw [3] (fun i wr => ∃ k : Nat, k ≤ 6 ∧ i = .int .i64 k ∧ Blk wr (w.heap.size + 1) (PsgV.upto k).fields.flatten.toArray 46 ∧ Blk wr w.heap.size zc 46 ∧ Below w.heap.size w wr) (fun i _ => 6 - (intOf i).toNat)
  case atStart => exact ⟨0, by omega, rfl, by rw [← HZC.out]; exact A, R, B⟩
  case round =>
    clear A B R
    obtain ⟨k, hk, rfl, A, R, B⟩ := hrel
    by_cases hlt : k < 6
    · have d1 : decide ((k : Int) < 6) = true := by simp; omega
      have i1 : (k : Int) < 6 := by omega
      obtain ⟨c0, A2⟩ := PsgV.upto_put k hlt A
      have f0 := Blk.free A (4 + k * 40 + 38)
      have R2 := Blk.other (b' := w.heap.size + 1) (i := 4 + k * 40 + 38) R (.int .i64 1) (by omega)
      have B2 := bst (i := 4 + k * 40 + 38) (v := .int .i64 1) B (show w.heap.size ≤ w.heap.size + 1 by omega)
      clear A R B
      have HA := Lib.hid A2
      have HR := Lib.hid R2
      clear A2 R2
      go_wp2
      go_roundw
      case rel => exact ⟨k + 1, by omega, by go_num, HA.out, HR.out, B2⟩
      case measure => simp [intOf]; omega
    · obtain rfl : k = 6 := by omega
      have d1 : decide (((6 : Nat) : Int) < 6) = false := by decide
      generalize hu : (PsgV.upto 6).fields.flatten.toArray = uc at *
      have HU := Lib.hid hu
      clear hu
      go_wp2_with (first
        | (refine wpList_load_row rfl 46 _ rfl (w.heap.size + 1) rfl 46 uc (0, 0) _ A Tryz.underlying46 rfl HS1.out ?_)
        | (refine wpList_store_row rfl 46 _ _ rfl w.heap.size uc rfl rfl 46 zc R HS1.out HZ1.out HO1.out ?_))
      exact ret_row rfl rfl (Blk.setRow R _) Tryz.underlying46 rfl HS1.out rfl ⟨by rw [← HU.out]; rfl, below_setRow B (by omega) _⟩
end Go.Proofs.YtnllkgjmoipgbaaGreatDoor
-- SmM
namespace Go.Proofs.YtnllkgjmoipgbaaGreatDoor
open Go Go.RowKit
set_option linter.unusedSimpArgs false
set_option linter.unusedVariables false
set_option maxRecDepth 100000

section
variable {w : World} {l : BusL} {B : BusV}
theorem bus_none (h : BusAt w l B) : Calls Tryz.prog 49 #[.pointer (some ⟨l.p, 0, none⟩)] w fun e w' => e = .returned (.bool false) ∧ w = w' := by
  have c1 := h.cardP
  generalize l.p = p at *
  generalize l.cp = vp at *
  clear h
  go_enter Tryz.func49, Tryz.ntmps49
  go_wp2
  go_ret
  exact ⟨rfl, rfl⟩
set_option maxHeartbeats 2000000 in
theorem bus_Tell (h : BusAt w l B) (bit : Int) (hb : isBit bit) (may : Bool) : Calls Tryz.prog 24 #[.pointer (some ⟨l.p, 0, none⟩), .int .i64 bit, .bool may] w fun e w' => e = .returned (.tuple #[]) ∧ BusAt w' l (B.tell bit may) ∧ Tr l.own w w' := by
  have c3 := h.status
  have f3 := h.free 278
  have eo := or63 B.status h.ok.status bit hb
  have H1 : BusAt (w.setCell ⟨l.p, 278, none⟩ (.int .i64 (orBit B.status bit))) l (B.tell bit false) := h.put1 3 (B' := B.tell bit false) rfl (by decide) rfl (h.ok.tell bit hb false) rfl rfl
  have T1 : Tr l.own w (w.setCell ⟨l.p, 278, none⟩ (.int .i64 (orBit B.status bit))) := Tr.setCell (Tr.refl _ _) 278 (by unfold BusL.own; simp) _
  have HN := Lib.hid (bus_none h)
  have HH := Lib.hid H1
  have HT := Lib.hid T1
  clear H1 T1
  cases may
  · clear h
    go_enter Tryz.func24, Tryz.ntmps24
    go_wp2_with fail
    refine HN.out.mono ?_; rintro e w' ⟨rfl, rfl⟩
    go_wp2
    exact ⟨rfl, .tuple #[], by first | exact rfl | (unfold results; rfl) | kernel_rfl, rfl, HH.out, HT.out⟩
  · have c1 := HH.out.irq
    have q0 : (w.setCell ⟨l.p, 278, none⟩ (.int .i64 (orBit B.status bit))).cell? ⟨l.p, 9245, none⟩ = some (.int .i64 B.mask) := by simpa using c1 0 (.int .i64 B.mask) rfl
    have q1 : (w.setCell ⟨l.p, 278, none⟩ (.int .i64 (orBit B.status bit))).cell? ⟨l.p, 9246, none⟩ = some (.int .i64 B.lines) := by simpa using c1 1 (.int .i64 B.lines) rfl
    have hm := h.ok.mask
    have hll := h.ok.lines
    have HR := Lib.hid (fun w => irq_Raise2 hm hll true w)
    have HK := Lib.hid h.ok
    clear h c1 hm hll
    go_enter Tryz.func24, Tryz.ntmps24
    go_wp2_with fail
    refine HN.out.mono ?_; rintro e w' ⟨rfl, rfl⟩
    go_wp2_with fail
    refine (HR.out _).mono ?_; rintro e w3 ⟨rfl, b3⟩
    have H3 := HH.out.below b3
    have T3 := HT.out.of_below b3
    clear q0 q1 c3 f3 HR HH HT b3
    generalize World.setCell _ _ _ = w2 at *
    have c1 := H3.irq
    have r0 : w3.cell? ⟨l.p, 9245, none⟩ = some (.int .i64 B.mask) := by simpa using c1 0 (.int .i64 B.mask) rfl
    have r1 : w3.cell? ⟨l.p, 9246, none⟩ = some (.int .i64 B.lines) := by simpa using c1 1 (.int .i64 B.lines) rfl
    have f1 := H3.free 9245
    have f2 := H3.free 9246
    have HL : BusAt (w3.setCells l.p 9245 [.int .i64 B.mask, .int .i64 (orBit B.lines 2)]) l (B.tell bit true) := H3.put 13 (vs := [.int .i64 B.mask, .int .i64 (orBit B.lines 2)]) (B' := B.tell bit true) (o := 9245) rfl rfl (by decide) rfl (HK.out.tell bit hb true) rfl rfl
    have T4 : Tr l.own w (w3.setCells l.p 9245 [.int .i64 B.mask, .int .i64 (orBit B.lines 2)]) := Tr.laid _ _ T3 (by unfold BusL.own; simp)
    have HLH := Lib.hid HL
    have HTH := Lib.hid T4
    clear HL T4 c1 H3 T3
    go_wp2
    exact ⟨rfl, .tuple #[], by first | exact rfl | (unfold results; rfl) | kernel_rfl, rfl, HLH.out, HTH.out⟩
end
end Go.Proofs.YtnllkgjmoipgbaaGreatDoor
-- DmaT
namespace Go.Proofs.YtnllkgjmoipgbaaGreatDoor
open Go Go.RowKit
set_option linter.unusedSimpArgs false
set_option linter.unusedVariables false
set_option maxRecDepth 100000

/-- 'copy' as the last operation of a region that draws. -/
theorem last_copy {P : Program} {w : World} {o : Oper} {a : Act} {D : World → Prop} (d s : Operand) (dT sT : TypeId)
    (ho : o.op = .call { callee := .builtin .copy, args := #[d, s], argTypes := #[dT, sT] }) (elem : TypeId) (hu : P.underlying dT = some (.slice elem)) (hsz : (P.info? elem).map (·.size) = some 1)
    (g off dLen dCap : Nat) (ad : Addr) (sLen sCap : Nat) (hd : a.eval d = .slice (some ⟨g, off, none⟩) dLen dCap) (hs : a.eval s = .slice (some ad) sLen sCap)
    (cur : Array Value) (t : TypeId) (hg : w.heap[g]? = some (.cells cur t (0, 0))) (cs : List Value) (hn : cs.length = Nat.min sLen dLen)
    (hsrc : ∀ j v, cs[j]? = some v → w.cell? (ad.add j) = some v) (hfit : off + cs.length ≤ cur.size) (h1 : ∀ v ∈ cs, v.oneCell' = true)
    (h : D (w.setRow g (cur.toList.take off ++ (cs ++ cur.toList.drop (off + cs.length))).toArray)) : lUpon P D (goInt cs.length) ((execOp a.eval o).run P w) := by
  have hrun := run_copy_row (P := P) w dT sT o.type elem g off dLen dCap ad sLen sCap cur t cs hu hsz hg hn hsrc hfit h1
  simp [execOp, ho, resolve, invoke, builtin, hd, hs, hrun, Result.andThen, lUpon]
  exact h

theorem t256 : (Tryz.prog.info? 32).map (·.size) = some 256 := by kernel_rfl

end Go.Proofs.YtnllkgjmoipgbaaGreatDoor
-- Two
namespace Go.Proofs.YtnllkgjmoipgbaaGreatDoor
open Go Go.RowKit
set_option linter.unusedSimpArgs false
set_option linter.unusedVariables false

structure Two (W w : World) (p g q h : Nat) (V : VS) : Prop where
  x : VAt 149 w p g V
  y : VAt 155 w q h V
  pq : p ≠ q
  ph : p ≠ h
  gq : g ≠ q
  gh : g ≠ h
  bp : W.heap.size < p
  bg : W.heap.size < g
  bq : W.heap.size < q
  bh : W.heap.size < h
  below : Below W.heap.size W w

theorem Two.yKept {W w w1 : World} {p g q h : Nat} {V : VS} (T : Two W w p g q h V) {S : List Nat} (t : Tr S w w1) (hS : ∀ k ∈ S, k = p ∨ k = g) : VAt 155 w1 q h V :=
  T.y.tr t (fun hm => by rcases hS _ hm with e | e; exact T.pq e.symm; exact T.gq e.symm) (fun hm => by rcases hS _ hm with e | e; exact T.ph e.symm; exact T.gh e.symm)
theorem Two.next {W w w1 w2 : World} {p g q h : Nat} {V V' : VS} (T : Two W w p g q h V) {S S' : List Nat} (t1 : Tr S w w1) (hS : ∀ k ∈ S, k = p ∨ k = g) (t2 : Tr S' w1 w2) (hS' : ∀ k ∈ S', k = q ∨ k = h)
    (x1 : VAt 149 w1 p g V') (y2 : VAt 155 w2 q h V') : Two W w2 p g q h V' :=
  ⟨x1.tr t2 (fun hm => by rcases hS' _ hm with e | e; exact T.pq e; exact T.ph e) (fun hm => by rcases hS' _ hm with e | e; exact T.gq e; exact T.gh e), y2, T.pq, T.ph, T.gq, T.gh, T.bp, T.bg, T.bq, T.bh,
    Tr.below (Tr.below T.below t1 (Nat.le_refl _) (fun b hb => by rcases hS _ hb with e | e; exact e ▸ Nat.le_of_lt T.bp; exact e ▸ Nat.le_of_lt T.bg)) t2 (Nat.le_refl _) (fun b hb => by rcases hS' _ hb with e | e; exact e ▸ Nat.le_of_lt T.bq; exact e ▸ Nat.le_of_lt T.bh)⟩
theorem Two.of_below {W w w1 : World} {p g q h : Nat} {V : VS} (T : Two W w p g q h V) (hb : Below w.heap.size w w1) : Two W w1 p g q h V :=
  ⟨T.x.below hb, T.y.below hb, T.pq, T.ph, T.gq, T.gh, T.bp, T.bg, T.bq, T.bh, T.below.trans (hb.mono T.below.size)⟩
theorem Two.kept {W w w1 w2 : World} {p g q h : Nat} {V : VS} (T : Two W w p g q h V) {S S' : List Nat} (t1 : Tr S w w1) (hS : ∀ k ∈ S, k = p ∨ k = g) (t2 : Tr S' w1 w2) (hS' : ∀ k ∈ S', k = q ∨ k = h)
    {b : Nat} {cs : Array Value} {t : TypeId} (A : Blk w b cs t) (hb : b ≤ W.heap.size) : Blk w2 b cs t := by
  have := T.bp; have := T.bg; have := T.bq; have := T.bh
  exact (A.tr t1 (fun hm => by rcases hS _ hm with e | e <;> omega)).tr t2 (fun hm => by rcases hS' _ hm with e | e <;> omega)
theorem four_of {α : Type} {zs : List α} (h : zs.length = 4) : ∃ a b c d, zs = [a, b, c, d] := by
  match zs, h with
  | [a, b, c, d], _ => exact ⟨a, b, c, d, rfl⟩
theorem wf_i64 {x : Int} (h : (Lit.int .i64 x).wf = true) : -9223372036854775808 ≤ x ∧ x ≤ 9223372036854775807 := by
  have h1 : (decide (IntKind.i64.min ≤ x) && decide (x ≤ IntKind.i64.max)) = true := h
  have e1 : IntKind.i64.min = -9223372036854775808 := by decide
  have e2 : IntKind.i64.max = 9223372036854775807 := by decide
  rw [e1, e2, Bool.and_eq_true, decide_eq_true_eq, decide_eq_true_eq] at h1
  exact h1

end Go.Proofs.YtnllkgjmoipgbaaGreatDoor
-- VramS
namespace Go.Proofs.YtnllkgjmoipgbaaGreatDoor
open Go Go.RowKit
set_option linter.unusedSimpArgs false
set_option linter.unusedVariables false
set_option maxRecDepth 100000

theorem VS.poke_ports (V : VS) (a x : Int) : (V.poke a x).wr = V.wr ∧ (V.poke a x).rd = V.rd ∧ (V.poke a x).st = V.st ∧ (V.poke a x).lo = V.lo ∧ (V.poke a x).bu = V.bu := by
  unfold VS.poke; split <;> exact ⟨rfl, rfl, rfl, rfl, rfl⟩
theorem VS.putHi_ports (V : VS) (b : Int) : (V.putHi b).wr = (V.wr + V.st) % 65536 ∧ (V.putHi b).rd = V.rd ∧ (V.putHi b).st = V.st := by
  obtain ⟨h1, h2, h3, _⟩ := V.poke_ports V.wr (V.lo + 256 * (b % 256))
  exact ⟨rfl, h2, h3⟩
theorem times_step (a t : Int) (k : Nat) : ((a + (k : Int) * t) % 65536 + t) % 65536 = (a + ((k + 1 : Nat) : Int) * t) % 65536 := by
  have : ((k + 1 : Nat) : Int) * t = (k : Int) * t + t := by push_cast; rw [Int.add_mul, Int.one_mul]
  rw [this]; omega

end Go.Proofs.YtnllkgjmoipgbaaGreatDoor
-- VramK
namespace Go.Proofs.YtnllkgjmoipgbaaGreatDoor
open Go Go.RowKit
set_option linter.unusedSimpArgs false
set_option linter.unusedVariables false
set_option maxRecDepth 100000

/-- What was written so far. -/
def Laid (V : VS) (A T : Int) (xs : List Int) (k : Nat) : Prop := ∀ j : Nat, j < k → V.word (A + (j : Int) * T) = if (A + (j : Int) * T) % 65536 < 32768 then nth 0 xs j % 65536 else 0
theorem apart_places {A T : Int} (hT : T = 1 ∨ T = 32 ∨ T = 64 ∨ T = 128) {j k : Nat} (hj : j < k) (hk : k < 60) : (A + (k : Int) * T) % 65536 ≠ (A + (j : Int) * T) % 65536 := by
  rcases hT with rfl | rfl | rfl | rfl <;> omega
theorem Laid.next {V : VS} (hV : V.Ok) {A T : Int} (hT : T = 1 ∨ T = 32 ∨ T = 64 ∨ T = 128) {xs : List Int} {k : Nat} (hk : k < 60) (h : Laid V A T xs k) (hw : V.wr = (A + (k : Int) * T) % 65536) :
    Laid ((V.putLo (nth 0 xs k)).putHi (nth 0 xs k / 256)) A T xs (k + 1) := by
  have e0 : (V.putLo (nth 0 xs k)).putHi (nth 0 xs k / 256) = ((V.putLo (nth 0 xs k)).poke V.wr (nth 0 xs k % 256 + 256 * (nth 0 xs k / 256 % 256))).setWr (V.wr + V.st) := rfl
  intro j hj
  rw [e0, VS.word_setWr, hw]
  by_cases h1 : j = k
  · subst h1
    rw [VS.word_poke_eq _ (hV.putLo _).len _ (A + (j : Int) * T) _ (Int.emod_emod_of_dvd _ (Int.dvd_refl _))]
    congr 1; omega
  · rw [VS.word_poke_ne _ _ _ _ (by rw [Int.emod_emod_of_dvd _ (Int.dvd_refl _)]; exact apart_places hT (by omega) hk), VS.word_putLo]
    exact h j (by omega)

end Go.Proofs.YtnllkgjmoipgbaaGreatDoor
-- Open
namespace Go.Proofs.YtnllkgjmoipgbaaGreatDoor
open Go Go.RowKit Go.ChangeShapes Go.WideShapes
set_option linter.unusedSimpArgs false
set_option linter.unusedVariables false

section
variable {H : Type} {enc : TypeId × Value → H} {P : Program} {W : World} {base b0 : Nat} {spare : Nat → Bool} {held : Bool} {r : Reach} {t e : TypeId} {v : Value} {d : DataW H} {p : List MemPlace} {k : IntKind} {n : Nat}

theorem okWide_array (ht : P.underlying t = some (.array n e)) (h : Value.okWide P W r b0 t v) : ∃ cs, v = .agg cs ∧ cs.size = P.cellsOf t := by
  simp only [Value.okWide, ht] at h
  obtain ⟨cs, h1, h2, _⟩ := h
  exact ⟨cs, h1, h2⟩

/-- An array of whole numbers, by value. -/
theorem open_arr (ht : P.underlying t = some (.array n e)) (he : P.underlying e = some (.int k)) (hc : P.cellsOf e = 1) (hn : P.cellsOf t = n)
    (hv : Value.okWide P W r b0 t v) (h : DataW.Trod enc P W base spare held t v d p) :
    ∃ zs : List Int, zs.length = n ∧ v = .agg (zs.map (Value.int k)).toArray ∧ ∀ z ∈ zs, (Lit.int k z).wf = true := by
  obtain ⟨cs, rfl, hs⟩ := okWide_array ht hv
  obtain ⟨fuel, hf⟩ := h
  obtain ⟨xs, m, _, _, hl, hxl, hx⟩ := DataW.trod_array ht hf
  simp only [Value.cells, hc] at hl hx
  have each : ∀ i, i < n → ∃ z, cs[i]? = some (.int k z) ∧ (Lit.int k z).wf = true := by
    intro i hi
    have h1 := hx i hi
    have h2 : i < xs.length := by omega
    rw [List.getElem?_eq_getElem h2] at h1
    obtain ⟨z, hz, _, hw⟩ := DataW.trod_int he h1
    refine ⟨z, ?_, hw⟩
    have h3 : ((cs.toList.drop (i * 1)).take 1)[0]? = some (.int k z) := by rw [hz]; rfl
    rw [List.getElem?_take] at h3
    simpa using h3
  refine ⟨cs.toList.map fun v => match v with | .int _ z => z | _ => 0, by simp; omega, ?_, ?_⟩
  · congr 1
    apply Array.ext'
    apply List.ext_getElem?
    intro i
    by_cases hi : i < n
    · obtain ⟨z, hz, _⟩ := each i hi
      simp [hz]
    · rw [List.getElem?_eq_none (by simp; omega), List.getElem?_eq_none (by simp; omega)]
  · intro z hz
    simp only [List.mem_map] at hz
    obtain ⟨v, hv, rfl⟩ := hz
    obtain ⟨i, hi, rfl⟩ := List.getElem_of_mem hv
    obtain ⟨z, hz, hw⟩ := each i (by simp at hi; omega)
    simp only [Array.length_toList] at hi
    rw [Array.getElem?_eq_getElem hi] at hz
    simp only [Array.getElem_toList, Option.some.inj hz]
    exact hw

/-- A slice whose elements are read one by one: R says what an element's cells mean. -/
theorem trod_sl {α : Type} (dflt : α) (R : List Value → α → Prop) {fuel : Nat} {y : DataW H × List MemPlace} (ht : P.underlying t = some (.slice e))
    (hR : ∀ m cs y, DataW.trod enc P W base (fun _ => true) held m e cs = some y → ∃ x, R cs x)
    (h : DataW.trod enc P W base (fun _ => true) held fuel t [v] = some y) :
    ∃ (a : Option Addr) (cap : Nat) (xs : List α), v = .slice a xs.length cap ∧ xs.length ≤ cap ∧ cap ≤ maxLen ∧
      (∀ i, i < xs.length → ∃ ad cs, a = some ad ∧ W.cells? base (ad.add (i * P.cellsOf e)) (P.cellsOf e) = some cs ∧ R cs (nth dflt xs i)) ∧
      (∀ B, (∀ n ∈ y.1.weights P t, n ≤ B) → cap * P.bytesOf e ≤ B) := by
  classical
  rcases Go.Deep.open_slice ht h with ⟨hcs, rfl⟩ | ⟨a, len, cap, m, n, D, Pl, hcs, hb, hl, hm, rfl, rfl, hel⟩
  · simp at hcs; subst hcs
    exact ⟨none, 0, [], rfl, by simp, by simp [maxLen], by intro i hi; simp at hi, by intro B _; simp⟩
  · simp at hcs; subst hcs
    have each : ∀ i, i < m → ∃ (cs : List Value) (x : α), W.cells? base (a.add (i * P.cellsOf e)) (P.cellsOf e) = some cs ∧ R cs x := by
      intro i hi
      obtain ⟨cs', h1, h2⟩ := hel i hi
      obtain ⟨x, hx⟩ := hR _ _ _ h2
      exact ⟨cs', x, h1, hx⟩
    refine ⟨some a, m, (List.range len).map fun i => if hi : i < m then (each i hi).choose_spec.choose else dflt, by simp, by simpa using hl, hm, ?_, ?_⟩
    · intro i hi
      simp only [List.length_map, List.length_range] at hi
      have hic : i < m := by omega
      refine ⟨a, (each i hic).choose, rfl, (each i hic).choose_spec.choose_spec.1, ?_⟩
      rw [nth_lt (by simpa using hi)]
      simp only [List.getElem_map, List.getElem_range, hic, dif_pos]
      exact (each i hic).choose_spec.choose_spec.2
    · intro B hB
      refine hB _ ?_
      simp only [DataW.weights, ht, if_true]
      simp only [List.length_map, List.length_range]
      rw [show len + (m - len) = m from by omega]
      exact List.mem_cons_self

/-- .. of elements of one cell. -/
theorem trod_sl1 {α : Type} (f : α → Value) (d0 : α) (ok : α → Prop) {fuel : Nat} {y : DataW H × List MemPlace} (ht : P.underlying t = some (.slice e)) (hc : P.cellsOf e = 1)
    (hR : ∀ m cs y, DataW.trod enc P W base (fun _ => true) held m e cs = some y → ∃ x, cs = [f x] ∧ ok x)
    (h : DataW.trod enc P W base (fun _ => true) held fuel t [v] = some y) :
    ∃ (a : Option Addr) (cap : Nat) (xs : List α), v = .slice a xs.length cap ∧ xs.length ≤ cap ∧ cap ≤ maxLen ∧ SlAt f d0 W a xs ∧ (∀ x ∈ xs, ok x) ∧
      (∀ B, (∀ n ∈ y.1.weights P t, n ≤ B) → cap * P.bytesOf e ≤ B) := by
  obtain ⟨a, cap, xs, rfl, h1, h2, h3, h4⟩ := trod_sl d0 (fun cs x => cs = [f x] ∧ ok x) ht hR h
  refine ⟨a, cap, xs, rfl, h1, h2, ?_, ?_, h4⟩
  · intro i hi
    obtain ⟨ad, cs, ea, hcs, rfl, _⟩ := h3 i hi
    rw [hc, Nat.mul_one] at hcs
    exact ⟨ad, ea, cell_of_cells?_one hcs⟩
  · intro x hx
    obtain ⟨i, hi, rfl⟩ := List.getElem_of_mem hx
    obtain ⟨ad, cs, ea, hcs, _, ho⟩ := h3 i hi
    rwa [nth_lt hi] at ho
theorem trod_ints {fuel : Nat} {y : DataW H × List MemPlace} (ht : P.underlying t = some (.slice e)) (he : P.underlying e = some (.int k)) (hc : P.cellsOf e = 1)
    (h : DataW.trod enc P W base (fun _ => true) held fuel t [v] = some y) :
    ∃ (a : Option Addr) (cap : Nat) (xs : List Int), v = .slice a xs.length cap ∧ xs.length ≤ cap ∧ cap ≤ maxLen ∧ SlAt (Value.int k) 0 W a xs ∧ (∀ x ∈ xs, (Lit.int k x).wf = true) ∧
      (∀ B, (∀ n ∈ y.1.weights P t, n ≤ B) → cap * P.bytesOf e ≤ B) :=
  trod_sl1 (Value.int k) 0 (fun x => (Lit.int k x).wf = true) ht hc (fun m cs y h => by obtain ⟨z, hz, _, hw⟩ := DataW.trod_int he h; exact ⟨z, hz, hw⟩) h
theorem trod_bools {fuel : Nat} {y : DataW H × List MemPlace} (ht : P.underlying t = some (.slice e)) (he : P.underlying e = some .bool) (hc : P.cellsOf e = 1)
    (h : DataW.trod enc P W base (fun _ => true) held fuel t [v] = some y) :
    ∃ (a : Option Addr) (cap : Nat) (xs : List Bool), v = .slice a xs.length cap ∧ xs.length ≤ cap ∧ cap ≤ maxLen ∧ SlAt Value.bool false W a xs ∧
      (∀ B, (∀ n ∈ y.1.weights P t, n ≤ B) → cap * P.bytesOf e ≤ B) := by
  obtain ⟨a, cap, xs, h1, h2, h3, h4, _, h5⟩ := trod_sl1 Value.bool false (fun _ => True) ht hc (fun m cs y h => by obtain ⟨z, hz, _⟩ := DataW.trod_bool he h; exact ⟨z, hz, trivial⟩) h
  exact ⟨a, cap, xs, h1, h2, h3, h4, h5⟩

/-- A value that is one cell, as its cell reads. -/
theorem trod_of_slice (ht : P.underlying t = some (.slice e)) (hv : Value.okWide P W r b0 t v) (h : DataW.Trod enc P W base spare held t v d p) : ∃ fuel, DataW.trod enc P W base spare held fuel t [v] = some (d, p) := by
  obtain ⟨a, l, c, rfl⟩ := okWide_slice ht hv
  obtain ⟨fuel, hf⟩ := h
  exact ⟨fuel, by simpa [Value.cells] using hf⟩
theorem weights_arg {ts : List TypeId} {ds : List (DataW H)} {j : Nat} {B : Nat} (hsz : (DataW.weightsEach P ts ds).all (· ≤ B) = true) (h1 : ts[j]? = some t) (h2 : ds[j]? = some d) : ∀ n ∈ d.weights P t, n ≤ B := by
  intro n hn
  have := List.all_eq_true.1 hsz n (DataW.weights_mem_each h1 h2 n hn)
  simpa using this

end
end Go.Proofs.YtnllkgjmoipgbaaGreatDoor
-- Acts
namespace Go.Proofs.YtnllkgjmoipgbaaGreatDoor
open Go Go.RowKit Go.ChangeShapes Go.WideShapes
set_option linter.unusedSimpArgs false
set_option linter.unusedVariables false
set_option maxRecDepth 100000

theorem add_pos (x : Addr) (j : Nat) (hj : j ≠ 0) : x.add j = ⟨x.block, x.off + j, none⟩ := by unfold Addr.add; simp [hj]

structure ActV where
  k : Int
  n : Int
  w : Int
  hi : Bool
def ActV.none : ActV := ⟨0, 0, 0, false⟩
def ActV.cells (a : ActV) : Array Value := #[.int .i64 a.k, .int .i64 a.n, .int .i64 a.w, .bool a.hi]
def ActV.In (a : ActV) : Prop := (-9223372036854775808 ≤ a.n ∧ a.n ≤ 9223372036854775807) ∧ (-9223372036854775808 ≤ a.w ∧ a.w ≤ 9223372036854775807)
def ActsAt (w : World) (a : Option Addr) (xs : List ActV) : Prop :=
  ∀ i, i < xs.length → ∃ ad, a = some ad ∧ w.cell? (ad.add (i * 4)) = some (.int .i64 (nth ActV.none xs i).k) ∧ w.cell? ⟨(ad.add (i * 4)).block, (ad.add (i * 4)).off + 1, none⟩ = some (.int .i64 (nth ActV.none xs i).n) ∧
    w.cell? ⟨(ad.add (i * 4)).block, (ad.add (i * 4)).off + 2, none⟩ = some (.int .i64 (nth ActV.none xs i).w) ∧ w.cell? ⟨(ad.add (i * 4)).block, (ad.add (i * 4)).off + 3, none⟩ = some (.bool (nth ActV.none xs i).hi)
theorem ActsAt.below {w w' : World} {a : Option Addr} {xs : List ActV} (h : ActsAt w a xs) (hb : Below w.heap.size w w') : ActsAt w' a xs := by
  intro i hi
  obtain ⟨ad, e, h0, h1, h2, h3⟩ := h i hi
  exact ⟨ad, e, by rw [hb.cell (World.block_lt_of_cell? w _ h0)]; exact h0, by rw [hb.cell (World.block_lt_of_cell? w _ h1)]; exact h1, by rw [hb.cell (World.block_lt_of_cell? w _ h2)]; exact h2, by rw [hb.cell (World.block_lt_of_cell? w _ h3)]; exact h3⟩

/-- What a call comes to. -/
def VS.act (V : VS) (a : ActV) : VS :=
  if a.k = 0 then V.setWr a.n else if a.k = 1 then V.setRd a.n else if a.k = 2 then V.setSt a.n else if a.k = 3 then V.put a.hi a.n else if a.k = 4 then V.got a.hi else if a.k = 5 then V.poke a.n a.w else V

theorem vram_Put {w : World} {p g : Nat} {V : VS} (h : VAt 149 w p g V) (hi : Bool) (b : Int) : Calls Tryz.prog 121 #[.pointer (some ⟨p, 0, none⟩), .bool hi, .int .i64 b] w fun e w' =>
    e = .returned (.tuple #[]) ∧ VAt 149 w' p g (V.put hi b) ∧ Tr [p, g] w w' := by
  cases hi
  · exact vram_Put_low h b
  · exact vram_Put_high h b
theorem ref13_Put {w : World} {p g : Nat} {V : VS} (h : VAt 155 w p g V) (hi : Bool) (b : Int) (hb : -9223372036854775808 ≤ b ∧ b ≤ 9223372036854775807) : Calls Tryz.prog 149 #[.pointer (some ⟨p, 0, none⟩), .bool hi, .int .i64 b] w fun e w' =>
    e = .returned (.tuple #[]) ∧ VAt 155 w' p g (V.put hi b) ∧ Tr [p, g] w w' := by
  cases hi
  · exact ref13_Put_low h b hb
  · exact ref13_Put_high h b hb
theorem vram_Get {w : World} {p g : Nat} {V : VS} (h : VAt 149 w p g V) (hi : Bool) : Calls Tryz.prog 132 #[.pointer (some ⟨p, 0, none⟩), .bool hi] w fun e w' =>
    e = .returned (.int .i64 (V.get hi)) ∧ VAt 149 w' p g (V.got hi) ∧ Tr [p, g] w w' := by
  cases hi
  · exact (vram_Get_low h).mono fun _ _ ⟨he, hw⟩ => ⟨he, hw ▸ h, hw ▸ Tr.refl _ _⟩
  · exact vram_Get_high h
theorem ref13_Get {w : World} {p g : Nat} {V : VS} (h : VAt 155 w p g V) (hi : Bool) : Calls Tryz.prog 144 #[.pointer (some ⟨p, 0, none⟩), .bool hi] w fun e w' =>
    e = .returned (.int .i64 (V.get hi)) ∧ VAt 155 w' p g (V.got hi) ∧ Tr [p, g] w w' := by
  cases hi
  · exact (ref13_Get_low h).mono fun _ _ ⟨he, hw⟩ => ⟨he, hw ▸ h, hw ▸ Tr.refl _ _⟩
  · exact ref13_Get_high h

section
variable {H : Type} {enc : TypeId × Value → H} {W : World} {base b0 : Nat} {v : Value} {d : DataW H} {p : List MemPlace}
end
end Go.Proofs.YtnllkgjmoipgbaaGreatDoor
-- SmN
namespace Go.Proofs.YtnllkgjmoipgbaaGreatDoor
open Go Go.RowKit
set_option linter.unusedSimpArgs false
set_option linter.unusedVariables false
set_option maxRecDepth 100000

section
variable {w : World} {l : BusL} {B : BusV}
set_option maxHeartbeats 4000000 in
theorem bus_picture (h : BusAt w l B) (a : Int) : Calls Tryz.prog 62 #[.pointer (some ⟨l.p, 0, none⟩), .int .i64 a] w fun e w' => e = .returned (.int .i64 (B.rdVdc a)) ∧ BusAt w' l (B.goVdc a) ∧ Tr l.own w w' := by
  rcases (show a = 0 ∨ a = 2 ∨ a = 3 ∨ (a ≠ 0 ∧ a ≠ 2 ∧ a ≠ 3) by omega) with rfl | rfl | rfl | ⟨n0, n2, n3⟩
  · have c3 := h.status
    have ci := h.irq
    have r0 : w.cell? ⟨l.p, 9245, none⟩ = some (.int .i64 B.mask) := by simpa using ci 0 (.int .i64 B.mask) rfl
    have r1 : w.cell? ⟨l.p, 9246, none⟩ = some (.int .i64 B.lines) := by simpa using ci 1 (.int .i64 B.lines) rfl
    have hs := h.ok.status
    have hs2 : B.status % 128 = B.status := by omega
    have HR := Lib.hid (fun w => irq_Raise2 h.ok.mask h.ok.lines false w)
    have HO := Lib.hid (h.ok.goVdc 0)
    have e1 : B.rdVdc 0 = B.status := rfl
    rw [e1]
    have HB := Lib.hid h
    clear h ci e1
    go_enter Tryz.func62, Tryz.ntmps62
    go_wp2_with fail
    refine (HR.out _).mono ?_; rintro e w3 ⟨rfl, b3⟩
    have H3 := HB.out.below b3
    have T3 : Tr l.own w w3 := Tr.of_below0 b3
    clear r0 r1 c3 HR HB b3
    have c3 := H3.status
    have ci := H3.irq
    have r0 : w3.cell? ⟨l.p, 9245, none⟩ = some (.int .i64 B.mask) := by simpa using ci 0 (.int .i64 B.mask) rfl
    have r1 : w3.cell? ⟨l.p, 9246, none⟩ = some (.int .i64 B.lines) := by simpa using ci 1 (.int .i64 B.lines) rfl
    have f0 := H3.free 278
    have f1 := H3.free 9245
    have f2 := H3.free 9246
    have hk1 : BusV.Ok { B with status := 0 } := { H3.ok with status := ⟨by show (0 : Int) ≤ 0; omega, by show (0 : Int) ≤ 63; omega⟩ }
    have HL1 : BusAt (w3.setCell ⟨l.p, 278, none⟩ (.int .i64 0)) l { B with status := 0 } := H3.put1 3 (v := .int .i64 0) (B' := { B with status := 0 }) (o := 278) rfl (by decide) rfl hk1 rfl rfl
    have HL : BusAt ((w3.setCell ⟨l.p, 278, none⟩ (.int .i64 0)).setCells l.p 9245 [.int .i64 B.mask, .int .i64 (clrBit B.lines 2)]) l (B.goVdc 0) := HL1.put 13 (vs := [.int .i64 B.mask, .int .i64 (clrBit B.lines 2)]) (B' := B.goVdc 0) (o := 9245) rfl rfl (by decide) rfl HO.out rfl rfl
    have T4 : Tr l.own w ((w3.setCell ⟨l.p, 278, none⟩ (.int .i64 0)).setCells l.p 9245 [.int .i64 B.mask, .int .i64 (clrBit B.lines 2)]) := Tr.laid _ _ (T3.setCell _ (by unfold BusL.own; simp) _) (by unfold BusL.own; simp)
    have HLH := Lib.hid HL
    have HTH := Lib.hid T4
    clear HL HL1 T4 ci H3 T3 hk1 HO
    go_wp2
    go_ret
    exact ⟨rfl, HLH.out, HTH.out⟩
  · have c1 := h.vram
    have e1 : B.rdVdc 2 = B.V.get false := rfl
    have e2 : B.goVdc 2 = { B with V := B.V.got false } := rfl
    rw [e1, e2]
    have HG := Lib.hid (vram_Get h.v false)
    have HB := Lib.hid h
    clear h e1 e2
    go_enter Tryz.func62, Tryz.ntmps62
    go_wp2_with fail
    refine HG.out.mono ?_; rintro e w3 ⟨rfl, hv, T⟩
    have HL := Lib.hid (HB.out.putV hv T)
    have HT := Lib.hid (T.mono (S' := l.own) (by intro k hk; unfold BusL.own; simp only [List.mem_cons, List.not_mem_nil, or_false] at hk ⊢; exact Or.inr hk))
    clear hv T c1
    go_wp2
    go_ret
    exact ⟨rfl, HL.out, HT.out⟩
  · have c1 := h.vram
    have e1 : B.rdVdc 3 = B.V.get true := rfl
    have e2 : B.goVdc 3 = { B with V := B.V.got true } := rfl
    rw [e1, e2]
    have HG := Lib.hid (vram_Get h.v true)
    have HB := Lib.hid h
    clear h e1 e2
    go_enter Tryz.func62, Tryz.ntmps62
    go_wp2_with fail
    refine HG.out.mono ?_; rintro e w3 ⟨rfl, hv, T⟩
    have HL := Lib.hid (HB.out.putV hv T)
    have HT := Lib.hid (T.mono (S' := l.own) (by intro k hk; unfold BusL.own; simp only [List.mem_cons, List.not_mem_nil, or_false] at hk ⊢; exact Or.inr hk))
    clear hv T c1
    go_wp2
    go_ret
    exact ⟨rfl, HL.out, HT.out⟩
  · have e1 : B.rdVdc a = 0 := by unfold BusV.rdVdc; rw [if_neg n0, if_neg n2, if_neg n3]
    have e2 : B.goVdc a = B := by unfold BusV.goVdc; rw [if_neg n0, if_neg n2, if_neg n3]
    rw [e1, e2]
    have HB := Lib.hid h
    clear h e1 e2
    go_enter Tryz.func62, Tryz.ntmps62
    go_wp2
    go_ret
    exact ⟨rfl, HB.out, Tr.refl _ _⟩
end
end Go.Proofs.YtnllkgjmoipgbaaGreatDoor
