/- The walk of DmaBack. -/
import Derived.Test.YtlhnfllfankjhaaDmaF
namespace Go.Proofs.Ytlhnfllfankjhaa
open Go Go.RowKit
set_option linter.unusedSimpArgs false
set_option linter.unusedVariables false
set_option maxRecDepth 100000

/-- A pair, new, laid in a block of its own. -/
def pairW (w : World) (F G : Int) : World := (w.alloc (Obj.cells #[Value.int .i64 0, Value.int .i64 0] 29)).setRow w.heap.size #[Value.int .i64 F, Value.int .i64 G]
theorem pairW_vat {t : TypeId} {w : World} {p g : Nat} {V : VS} (h : VAt t w p g V) (F G : Int) : VAt t (pairW w F G) p g V := by
  have l3 := h.lt
  exact (h.below ((Below.refl _ _).alloc (Nat.le_refl _) _)).setRow (b := w.heap.size) _ (by omega) (by omega)
theorem pairW_blk (w : World) (F G : Int) : Blk (pairW w F G) w.heap.size #[Value.int .i64 F, Value.int .i64 G] 29 := Blk.setRow (Blk.new w #[Value.int .i64 0, Value.int .i64 0] 29) _
theorem pairW_below {W w : World} (B : Below W.heap.size W w) (F G : Int) : Below W.heap.size W (pairW w F G) := below_setRow (B.alloc B.size _) B.size _
theorem pairW_old {w : World} {b : Nat} {cs : Array Value} {t : TypeId} (h : Blk w b cs t) (F G : Int) : Blk (pairW w F G) b cs t := by
  have := h.lt
  exact Blk.setRow_other (h.alloc _) _ (by omega)

set_option maxHeartbeats 8000000 in
theorem dmaBack_walk (a : Option Addr) (c0 : Nat) (l : List Int) (at' : Int) (w : World) (hc0 : l.length ≤ c0) (hcm : c0 ≤ 9223372036854775807) (S0 : SlAt (Value.int .i64) 0 w a l) :
    Calls Try.prog 4 #[.slice a l.length c0, .int .i64 at'] w fun e w' => e = .returned (.bool true) ∧ Below w.heap.size w w' := by
  go_enter Try.func4, Try.ntmps4
  go_upto_if 15 with (fail)
  go_cut [0] (fun s0 wx => w = wx ∧ ∃ (xs : List Int) (c : Nat), s0 = .slice a xs.length c ∧ xs.length ≤ 60 ∧ SlAt (Value.int .i64) 0 w a xs)
  case first =>
    by_cases h5 : (60 : Int) < l.length
    · go_wp2_with fail
      go_meet
      exact ⟨rfl, l.take 60, c0, by rw [show (l.take 60).length = 60 from by simp; omega], by simp; omega, S0.take 60⟩
    · go_wp2_with fail
      go_meet
      exact ⟨rfl, l, c0, rfl, by omega, S0⟩
  case rest =>
    obtain ⟨rfl, xs, c, rfl, hx5, S⟩ := hcut
    by_cases h0 : xs.length = 0
    · have hq := eq_pair 2 2 2 2
      have b2 : bitI 0 2 = 0 := by decide
      have b3 : bitI 0 3 = 0 := by decide
      have hM := dma_Move_nil (w := w) 0 0 1 0 1 (by decide)
      rw [b2, b3] at hM
      go_wp2_with fail
      refine hM.mono ?_; rintro e w6 ⟨rfl, t6⟩
      go_wp2
      go_ret
      exact ⟨rfl, Tr.to_below t6 (Nat.le_refl _) (by simp)⟩
    · obtain ⟨m, hm⟩ : ∃ m, xs.length = m + 1 := ⟨xs.length - 1, by omega⟩
      have hm60 : m + 1 ≤ 60 := by omega
      have hm6 : (m : Int) % 65536 = (m : Int) := by omega
      have HM6 := Lib.hid hm6
      clear hm6 h0 hx5
      rw [hm]
      have hn1 : ¬ ((m + 1 : Nat) : Int) = 0 := by omega
      go_wp2_with fail
      refine (vram_New _).mono ?_; rintro e w1 ⟨p, g, rfl, hx, hb1, hp, hg⟩
      generalize hA : at' % 16384 = pa at *
      have pa0 : 0 ≤ pa ∧ pa < 16384 := by omega
      clear hA
      go_wp2_with fail
      go_loopw [6] (fun i wr => ∃ k : Nat, k ≤ m + 1 ∧ i = .int .i64 k ∧ VAt 69 wr p g (lay VS.new pa xs k) ∧ Below w.heap.size w wr) (fun i _ => m + 1 - (intOf i).toNat)
      case atStart => exact ⟨0, by omega, rfl, hx, hb1⟩
      case round =>
        clear hx hb1
        obtain ⟨k, hk, rfl, hv, hB⟩ := hrel
        by_cases hlt : k < m + 1
        · have d1 : (k : Int) < ((m + 1 : Nat) : Int) := by omega
          obtain ⟨ad, rfl, g0⟩ := (S.below hB).atN k (by omega)
          go_wp2_with fail
          refine (vram_Poke hv _ _).mono ?_; rintro e w2 ⟨rfl, hv2, t2⟩
          rw [← lay_succ] at hv2
          have hB2 := Tr.below hB t2 (Nat.le_refl _) (by simp; exact hg)
          clear hv hB
          go_wp2
          go_roundw
          case rel => exact ⟨k + 1, by omega, rfl, hv2, hB2⟩
          case measure => simp [intOf]; omega
        · obtain rfl : k = m + 1 := by omega
          go_wp2_with fail
          refine (dma_Move_0 hv _ _ _ m HM6.out).mono ?_; rintro e w2 ⟨rfl, hv2, t2⟩
          have hB2 := Tr.below hB t2 (Nat.le_refl _) (by simp; exact hg)
          rw [show mv (lay VS.new pa xs (m + 1)) 1 1 pa (pa + 1000) (m + 1) = db1 xs pa (m + 1) from rfl] at hv2
          rw [show (pa + ((m + 1 : Nat) : Int)) % 65536 = pa + m + 1 by omega, show (pa + 1000 + ((m + 1 : Nat) : Int)) % 65536 = pa + 1001 + m by omega]
          clear hv hB hlt hk
          have Z := Blk.new w2 #[Value.int .i64 0, Value.int .i64 0] 29
          have x3 := pairW_vat hv2 (pa + m + 1) (pa + 1001 + m)
          have E3 := pairW_blk w2 (pa + m + 1) (pa + 1001 + m)
          have B3 := pairW_below hB2 (pa + m + 1) (pa + 1001 + m)
          have s2 := hB2.size
          have l2 := hv2.lt
          go_wp2_with (first
            | (refine wpList_store_row rfl 29 _ _ rfl w2.heap.size (#[Value.int .i64 (pa + m + 1), Value.int .i64 (pa + 1001 + m)]) rfl rfl 29 _ Z (by kernel_rfl) rfl (by simp [Value.oneCell']) ?_))
          change Calls _ _ _ (pairW w2 (pa + m + 1) (pa + 1001 + m)) _
          generalize pairW w2 (pa + m + 1) (pa + 1001 + m) = w3 at *
          generalize hge : w2.heap.size = ge at *
          clear Z hv2 hB2 t2 hge
          refine (dma_Move_8 x3 _ _ _ m HM6.out).mono ?_; rintro e w4 ⟨rfl, x4, t4⟩
          have B4 := Tr.below B3 t4 (Nat.le_refl _) (by simp; exact hg)
          have E4 := E3.tr t4 (by simp; omega)
          rw [show mv (db1 xs pa (m + 1)) 1 (-1) (pa + 1000) (pa + 2000 + (m : Int)) (m + 1) = db2 xs pa (m + 1) from by unfold db2; congr 1; omega] at x4
          rw [show (pa + 1000 + ((m + 1 : Nat) : Int)) % 65536 = pa + 1001 + m by omega, show (pa + 2000 + (m : Int) - ((m + 1 : Nat) : Int)) % 65536 = pa + 1999 by omega]
          clear x3 B3 E3 t4
          have Z := Blk.new w4 #[Value.int .i64 0, Value.int .i64 0] 29
          have x5 := pairW_vat x4 (pa + 1001 + m) (pa + 1999)
          have F5 := pairW_blk w4 (pa + 1001 + m) (pa + 1999)
          have E5 := pairW_old E4 (pa + 1001 + m) (pa + 1999)
          have B5 := pairW_below B4 (pa + 1001 + m) (pa + 1999)
          have s4 := B4.size
          have l4 := x4.lt
          go_wp2_with (first
            | (refine wpList_store_row rfl 29 _ _ rfl w4.heap.size (#[Value.int .i64 (pa + 1001 + m), Value.int .i64 (pa + 1999)]) rfl rfl 29 _ Z (by kernel_rfl) rfl (by simp [Value.oneCell']) ?_))
          unfold pairW at x5 F5 E5 B5
          generalize (w4.alloc (Obj.cells #[Value.int .i64 0, Value.int .i64 0] 29)).setRow w4.heap.size #[Value.int .i64 (pa + 1001 + m), Value.int .i64 (pa + 1999)] = w5 at *
          generalize hgf : w4.heap.size = gf at *
          clear Z x4 B4 E4 hgf
          have pE : ge ≠ g := by omega
          have pF : gf ≠ g := by omega
          go_loopw [10] (fun i wr => ∃ k : Nat, k ≤ m + 1 ∧ i = .int .i64 k ∧ VAt 69 wr p g (db3 xs pa (m + 1) k) ∧ Blk wr ge #[Value.int .i64 (pa + m + 1), Value.int .i64 (pa + 1001 + m)] 29 ∧ Blk wr gf #[Value.int .i64 (pa + 1001 + m), Value.int .i64 (pa + 1999)] 29 ∧ Below w.heap.size w wr) (fun i _ => m + 1 - (intOf i).toNat)
          case atStart => exact ⟨0, by omega, rfl, x5, E5, F5, B5⟩
          case round =>
            clear x5 E5 F5 B5
            obtain ⟨k, hk, rfl, hv, hE, hF, hB⟩ := hrel
            by_cases hlt : k < m + 1
            · have d1 : (k : Int) < ((m + 1 : Nat) : Int) := by omega
              have d2 : k < m + 1 := hlt
              obtain ⟨ad, rfl, g0⟩ := (S.below hB).atN k (by omega)
              have e1 := Lib.hid (db3_a (l := xs) pa0.1 pa0.2 hm60 k hlt)
              have e2 := Lib.hid (db3_b (l := xs) pa0.1 pa0.2 hm60 k hk k hlt)
              have e3 := Lib.hid (db3_c (l := xs) pa0.1 pa0.2 hm60 k hk k hlt)
              go_wp2_with fail
              refine (vram_Word hv _).mono ?_; rintro e w' ⟨rfl, rfl⟩
              rw [e1.out]
              go_wp2_with fail
              refine (vram_Word hv _).mono ?_; rintro e w' ⟨rfl, rfl⟩
              rw [e2.out]
              go_wp2_with fail
              refine (vram_Word hv _).mono ?_; rintro e w' ⟨rfl, rfl⟩
              rw [show pa + 2000 + (m : Int) - (k : Int) = pa + 2000 + (((m + 1 : Nat) : Int) - 1) - (k : Int) by omega, e3.out]
              go_wp2_with fail
              refine (vram_Poke hv _ _).mono ?_; rintro e w6 ⟨rfl, hv6, t6⟩
              rw [show (db3 xs pa (m + 1) k).poke (pa + (k : Int)) 0 = db3 xs pa (m + 1) (k + 1) from by unfold db3; rw [lay_succ, nth_zeros]] at hv6
              have hE6 := hE.tr t6 (by simp; exact pE)
              have hF6 := hF.tr t6 (by simp; exact pF)
              have hB6 := Tr.below hB t6 (Nat.le_refl _) (by simp; exact hg)
              clear e1 e2 e3 hv hE hF hB t6
              go_wp2
              go_roundw
              case rel => exact ⟨k + 1, by omega, rfl, hv6, hE6, hF6, hB6⟩
              case measure => simp [intOf]; omega
            · obtain rfl : k = m + 1 := by omega
              go_wp2_with fail
              refine (dma_Move_0 hv _ _ _ m HM6.out).mono ?_; rintro e w6 ⟨rfl, hv6, t6⟩
              rw [show mv (db3 xs pa (m + 1) (m + 1)) 1 1 (pa + 1000) pa (m + 1) = db4 xs pa (m + 1) from rfl] at hv6
              have hE6 := hE.tr t6 (by simp; exact pE)
              have hF6 := hF.tr t6 (by simp; exact pF)
              have hB6 := Tr.below hB t6 (Nat.le_refl _) (by simp; exact hg)
              clear hv hE hF hB t6
              go_wp2_with fail
              go_loopw [12] (fun i wr => ∃ k : Nat, k ≤ m + 1 ∧ i = .int .i64 k ∧ VAt 69 wr p g (db4 xs pa (m + 1)) ∧ Blk wr ge #[Value.int .i64 (pa + m + 1), Value.int .i64 (pa + 1001 + m)] 29 ∧ Blk wr gf #[Value.int .i64 (pa + 1001 + m), Value.int .i64 (pa + 1999)] 29 ∧ Below w.heap.size w wr) (fun i _ => m + 1 - (intOf i).toNat)
              case atStart => exact ⟨0, by omega, rfl, hv6, hE6, hF6, hB6⟩
              case round =>
                clear hv6 hE6 hF6 hB6
                obtain ⟨k, hk, rfl, hv, hE, hF, hB⟩ := hrel
                by_cases hlt : k < m + 1
                · have d1 : (k : Int) < ((m + 1 : Nat) : Int) := by omega
                  have d2 : k < m + 1 := hlt
                  obtain ⟨ad, rfl, g0⟩ := (S.below hB).atN k (by omega)
                  have hcall : ∀ n : Nat, Calls Try.prog 31 #[.pointer (some ⟨p, 0, none⟩), .int .i64 (pa + k)] (wr.drewN n) fun e w' => e = .returned (.int .i64 (nth 0 xs k % 65536)) ∧ wr.drewN n = w' := fun n => by
                    have := vram_Word (hv.drewN n) (pa + k)
                    rw [db4_a (l := xs) pa0.1 pa0.2 hm60 k hlt] at this
                    exact this
                  have HC := Lib.hid hcall
                  clear hcall
                  have ew : IntKind.i64.wrap (pa + (k : Int)) = pa + k := IntWalk.i64_in _ (by omega)
                  go_wp2_with fail
                  go_quiet ((go_at_call 31; exact quiet_same (HC.out _)))
                  have hv7 := hv.drewN nq
                  have hE7 := hE.drewN nq
                  have hF7 := hF.drewN nq
                  have hB7 := below_drewN hB nq
                  clear HC hv hE hF hB g0 ew
                  generalize wr.drewN nq = w7 at *
                  go_wp2
                  go_roundw
                  case rel => exact ⟨k + 1, by omega, rfl, hv7, hE7, hF7, hB7⟩
                  case measure => simp [intOf]; omega
                · obtain rfl : k = m + 1 := by omega
                  have q1 := eq_pair (pa + m + 1) (pa + 1001 + m) (pa + m + 1) (pa + 1001 + m)
                  have q2 := eq_pair (pa + 1001 + m) (pa + 1999) (pa + 1001 + m) (pa + 1999)
                  have z0 := hE.cell 0
                  have z1 := hE.cell 1
                  have z2 := hF.cell 0
                  have z3 := hF.cell 1
                  simp only [List.getElem?_toArray, List.getElem?_cons_zero, List.getElem?_cons_succ] at z0 z1 z2 z3
                  go_wp2
                  go_ret
                  exact ⟨rfl, hB⟩
end Go.Proofs.Ytlhnfllfankjhaa
