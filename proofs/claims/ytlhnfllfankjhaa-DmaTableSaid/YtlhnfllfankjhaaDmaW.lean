/- The walk of DmaTable. -/
import Derived.Test.YtlhnfllfankjhaaDmaK
import Derived.Laws.Tables
namespace Go.Proofs.Ytlhnfllfankjhaa
open Go Go.RowKit
set_option linter.unusedSimpArgs false
set_option linter.unusedVariables false
set_option maxRecDepth 100000

theorem eq_tables (xs ys : List Int) (hx : xs.length = 256) (hy : ys.length = 256) (w : World) : (Op.equalIn 10000 37 (.agg (cellsI xs)) (.agg (cellsI ys))).run Try.prog w = .ok (xs == ys) w :=
  run_equalIn_ints (P := Try.prog) w 9998 37 3 256 Try.underlying37 Try.underlying3 sizeInt xs ys hx hy

set_option maxHeartbeats 8000000 in
theorem dmaTable_walk (a : Option Addr) (c0 : Nat) (l : List Int) (at' k0 : Int) (w : World) (S : SlAt (Value.int .i64) 0 w a l) (hl : l.length ≤ 9223372036854775807) :
    Calls Try.prog 6 #[.slice a l.length c0, .int .i64 at', .int .i64 k0] w fun e w' => e = .returned (.bool true) ∧ Below w.heap.size w w' := by
  have hzc : Try.zeroCells37 = cellsI (zeros 256) := by kernel_rfl
  have HZC := Lib.hid hzc
  clear hzc
  go_enter Try.func6, Try.ntmps6
  go_wp2_with fail
  refine (vram_New _).mono ?_; rintro e w1 ⟨p, g, rfl, hx, hb1, hp, hg⟩
  go_wp2_with fail
  generalize hA : at' % 65536 = pa at *
  generalize hK : k0 % 256 = kk at *
  have pa0 : 0 ≤ pa ∧ pa < 65536 := by omega
  have kk0 : 0 ≤ kk ∧ kk < 256 := by omega
  clear hA hK
  obtain ⟨kn, rfl⟩ := Int.eq_ofNat_of_zero_le kk0.1
  go_loopw [8] (fun i wr => ∃ k : Nat, k ≤ 300 ∧ k ≤ l.length ∧ i = .int .i64 k ∧ VAt 69 wr p g (lay VS.new pa l k) ∧ Below w.heap.size w wr) (fun i _ => 300 - (intOf i).toNat)
  case atStart => exact ⟨0, by omega, by omega, rfl, hx, hb1⟩
  case round =>
    clear hx hb1
    obtain ⟨k, hk, hkl, rfl, hv, hB⟩ := hrel
    by_cases hlt : k < l.length ∧ k < 300
    · have d1 : decide ((k : Int) < (l.length : Int)) = true := by simpa using hlt.1
      have d2 : decide ((k : Int) < 300) = true := by simp; omega
      have i1 : (k : Int) < (l.length : Int) := by omega
      obtain ⟨ad, rfl, g0⟩ := (S.below hB).atN k hlt.1
      go_wp2_with fail
      refine (vram_Poke hv _ _).mono ?_; rintro e w2 ⟨rfl, hv2, t2⟩
      rw [← lay_succ] at hv2
      have hB2 := Tr.below hB t2 (Nat.le_refl _) (by simp; exact hg)
      clear hv hB
      go_wp2
      go_roundw
      case rel => exact ⟨k + 1, by omega, by omega, rfl, hv2, hB2⟩
      case measure => simp [intOf]; omega
    · have hok := lay_ok VS.Ok.new pa l k
      generalize lay VS.new pa l k = V at *
      have hd : (¬ k < l.length) ∨ (k < l.length ∧ ¬ (k : Int) < 300) := by omega
      clear hlt
      rcases hd with d1 | ⟨d1, d2⟩
      all_goals
        go_wp2_with fail
        refine (vram_Poke hv _ _).mono ?_; rintro e w2 ⟨rfl, hv2, t2⟩
        have hB2 := Tr.below hB t2 (Nat.le_refl _) (by simp; exact hg)
        go_wp2_with fail
        refine (dma_Table hv2 _).mono ?_; rintro e w3 ⟨rfl, hb3⟩
        have hv3 := hv2.below hb3
        have hB3 := hB2.trans (hb3.mono hB2.size)
        have hone := cellsI_one (wordsK (V.poke (pa + (kn : Int)) 4660) pa 256)
        have hwl := wordsK_length (V.poke (pa + (kn : Int)) 4660) pa 256
        have hwn : ∀ i : Nat, i < 256 → nth 0 (wordsK (V.poke (pa + (kn : Int)) 4660) pa 256) i = (V.poke (pa + (kn : Int)) 4660).word (pa + i) := fun i hi => nth_wordsK _ _ _ _ hi
        have hinf : (Try.prog.info? 37).map (·.size) = some (cellsI (wordsK (V.poke (pa + (kn : Int)) 4660) pa 256)).size := by rw [cellsI_size, hwl]; exact t256
        have hzs : (cellsI (zeros 256)).size = (cellsI (wordsK (V.poke (pa + (kn : Int)) 4660) pa 256)).size := by rw [cellsI_size, cellsI_size, hwl, zeros_length]
        have hz : (V.poke (pa + (kn : Int)) 4660).word (pa + (kn : Int)) = if (pa + (kn : Int)) % 65536 < 32768 then 4660 else 0 := VS.word_poke_eq V hok.len _ _ _ rfl
        generalize V.poke (pa + (kn : Int)) 4660 = U at *
        rw [aggI_eq]
        generalize wordsK U pa 256 = ws at *
        rw [← HZC.out] at hzs
        have Z := Blk.new w3 Try.zeroCells37 37
        have H1 := Lib.hid hone
        have H2 := Lib.hid hinf
        have H3 := Lib.hid hzs
        have H4 := Lib.hid hwl
        have H5 := Lib.hid hwn
        have H6 := Lib.hid hz
        clear hone hinf hzs hwl hwn hz hv hv2 hB hB2 t2 hb3
        go_wp2_with (first
          | (refine wpList_store_row rfl 37 _ _ rfl w3.heap.size (cellsI ws) rfl rfl 37 _ Z H2.out H3.out H1.out ?_))
        have T9 := Blk.setRow Z (cellsI ws)
        have l3 := hv3.lt
        have hv4 := (hv3.below ((Below.refl _ _).alloc (Nat.le_refl _) (Obj.cells Try.zeroCells37 37))).setRow (b := w3.heap.size) (cellsI ws) (by omega) (by omega)
        have hB4 := below_setRow (hB3.alloc hB3.size (Obj.cells Try.zeroCells37 37)) hB3.size (cellsI ws)
        generalize ((w3.alloc (Obj.cells Try.zeroCells37 37)).setRow w3.heap.size (cellsI ws)) = w4 at *
        generalize hge : w3.heap.size = ge at *
        clear Z hv3 hB3 hge
        go_loopw [10] (fun i wr => ∃ j : Nat, j ≤ 256 ∧ i = .int .i64 j ∧ VAt 69 wr p g U ∧ Blk wr ge (cellsI ws) 37 ∧ Below w.heap.size w wr) (fun i _ => 256 - (intOf i).toNat)
        case atStart => exact ⟨0, by omega, rfl, hv4, T9, hB4⟩
        case round =>
          clear hv4 T9 hB4
          obtain ⟨j, hj, rfl, hv, hT, hB⟩ := hrel
          have hTL := hT.toL
          by_cases hlt : j < 256
          · have d1 : (j : Int) < 256 := by omega
            have z := hTL.at (i := j) (by rw [H4.out]; omega)
            rw [H5.out j hlt] at z
            have ew : IntKind.i64.wrap (pa + (j : Int)) = pa + j := IntWalk.i64_in _ (by omega)
            go_wp2_with fail
            go_quiet ((go_at_call 31; exact quiet_same (vram_Word (hv.drewN _) _)))
            have hv7 := hv.drewN nq
            have hT7 := hT.drewN nq
            have hB7 := below_drewN hB nq
            clear hv hT hB z ew hTL
            generalize wr.drewN nq = w7 at *
            go_wp2
            go_roundw
            case rel => exact ⟨j + 1, by omega, rfl, hv7, hT7, hB7⟩
            case measure => simp [intOf]; omega
          · obtain rfl : j = 256 := by omega
            have z := hTL.at (i := kn) (by rw [H4.out]; omega)
            rw [H5.out kn (by omega), H6.out] at z
            have hq : ∀ w : World, (Op.equalIn 10000 37 (.agg (cellsI (zeros 256))) (.agg Try.zeroCells37)).run Try.prog w = .ok true w := fun w => by
              rw [HZC.out, eq_tables (zeros 256) (zeros 256) (zeros_length _) (zeros_length _)]
              rw [show (zeros 256 == zeros 256) = true from beq_self_eq_true _]
            have e3 : decide ((kn : Int) < 256) = true := by simp; omega
            by_cases hm : (pa + (kn : Int)) % 65536 < 32768
            all_goals
              first | rw [if_pos hm] at z | rw [if_neg hm] at z
              go_wp2_with fail
              refine (dma_Table_nil _ _).mono ?_; rintro e w8 ⟨rfl, hb8⟩
              rw [aggI_eq]
              go_wp2
              go_ret
              exact ⟨rfl, hB.trans (hb8.mono hB.size)⟩
end Go.Proofs.Ytlhnfllfankjhaa
