/- The walk of VramPlays. -/
import Derived.Test.YtlhnfllfankjhaaDuo
import Derived.Deep.CutBlock
namespace Go.Proofs.Ytlhnfllfankjhaa
open Go Go.RowKit
set_option linter.unusedSimpArgs false
set_option linter.unusedVariables false
set_option maxRecDepth 100000

theorem vram_Words_bad {w : World} {p g : Nat} {V : VS} (h : VAt 69 w p g V) (at' n : Int) (hn : n < 0 ∨ 65536 < n) : Calls Try.prog 44 #[.pointer (some ⟨p, 0, none⟩), .int .i64 at', .int .i64 n] w fun e w' =>
    e = .returned (.slice none 0 0) ∧ w = w' := by
  rcases hn with h1 | h1
  all_goals
    go_enter Try.func44, Try.ntmps44
    go_wp2_with fail
    refine (vram_none h).mono ?_; rintro e w' ⟨rfl, rfl⟩
    go_wp2
    go_ret
    exact ⟨rfl, rfl⟩

set_option maxHeartbeats 16000000 in
theorem vramPlays_walk (a : Option Addr) (c0 : Nat) (acts : List ActV) (at' n : Int) (w : World) (S : ActsAt w a acts) (hin : ∀ x ∈ acts, x.In) (hl : acts.length ≤ 9223372036854775807)
    (hat : -9223372036854775808 ≤ at' ∧ at' ≤ 9223372036854775807) :
    Calls Try.prog 14 #[.slice a acts.length c0, .int .i64 at', .int .i64 n] w fun e w' => e = .returned (.bool true) ∧ Below w.heap.size w w' := by
  go_enter Try.func14, Try.ntmps14
  go_wp2_with fail
  refine (vram_New _).mono ?_; rintro e w1 ⟨p, g, rfl, hx, hb1, hp, hg⟩
  go_wp2_with fail
  refine (ref13_New _).mono ?_; rintro e w2 ⟨q, h, rfl, hy, hb2, hq, hh⟩
  have T2 := Duo.of_new (Below.refl _ w) hx hb1 hp hg hy hb2 hq hh
  clear hx hy hb1 hb2 hp hg hq hh
  go_wp2_with fail
  go_loopw [9] (fun i wr => ∃ k : Nat, k ≤ 120 ∧ k ≤ acts.length ∧ i = .int .i64 k ∧ ∃ V, Duo w wr p g q h V) (fun i _ => 120 - (intOf i).toNat)
  case atStart => exact ⟨0, by omega, by omega, rfl, _, T2⟩
  case round =>
    clear T2
    obtain ⟨k, hk, hkl, rfl, V, T⟩ := hrel
    by_cases hlt : k < acts.length ∧ k < 120
    · have d1 : k < acts.length := hlt.1
      have d2 : (k : Int) < 120 := by omega
      have i1 : (k : Int) < (acts.length : Int) := by omega
      obtain ⟨ad, rfl, g0, g1, g2, g3⟩ := (S.below T.below) k hlt.1
      have hIn := hin _ (nth_mem (d := ActV.none) hlt.1)
      generalize nth ActV.none acts k = ac at *
      go_upto_region 8 with (fail)
      have C0 := Blk.new wr ac.cells 64
      have T3 := T.of_below ((Below.refl _ _).alloc (Nat.le_refl _) (Obj.cells ac.cells 64))
      have lT := T.x.lt
      have lT2 := T.y.lt
      unfold ActV.cells at C0 T3
      generalize wr.alloc (Obj.cells #[Value.int .i64 ac.k, Value.int .i64 ac.n, Value.int .i64 ac.w, Value.bool ac.hi] 64) = w3 at *
      generalize hgb : wr.heap.size = gb at *
      have n1 : gb ≠ p := by omega
      have n2 : gb ≠ g := by omega
      have n3 : gb ≠ q := by omega
      have n4 : gb ≠ h := by omega
      have k0 := C0.cell 0
      have k1 := C0.cell 1
      have k2 := C0.cell 2
      have k3 := C0.cell 3
      simp only [List.getElem?_toArray, List.getElem?_cons_zero, List.getElem?_cons_succ] at k0 k1 k2 k3
      clear T g0 g1 g2 g3
      go_upto_block 2 with (fail)
      go_cut [] (fun wx => Duo w wx p g q h (V.act ac) ∧ Blk wx gb #[Value.int .i64 ac.k, Value.int .i64 ac.n, Value.int .i64 ac.w, Value.bool ac.hi] 64)
      case first =>
        obtain ⟨ka, na, wa, hi⟩ := ac
        simp only at C0 k0 k1 k2 k3
        change ActV.In ⟨ka, na, wa, hi⟩ at hIn
        unfold ActV.In at hIn
        simp only at hIn
        rcases (show ka = 0 ∨ ka = 1 ∨ ka = 2 ∨ ka = 3 ∨ ka = 5 ∨ ka = 4 ∨ ¬ (ka = 0 ∨ ka = 1 ∨ ka = 2 ∨ ka = 3 ∨ ka = 4 ∨ ka = 5) by omega) with rfl | rfl | rfl | rfl | rfl | rfl | hka
        · go_wp2_with fail
          refine (vram_SetWrite T3.x na).mono ?_; rintro e w4 ⟨rfl, hx4, t4⟩
          have y4 := T3.yKept t4 (by simp)
          have C4 := C0.tr t4 (by simp; omega)
          clear k0 k1 k2 k3
          have k0 := C4.cell 0
          have k1 := C4.cell 1
          have k2 := C4.cell 2
          have k3 := C4.cell 3
          simp only [List.getElem?_toArray, List.getElem?_cons_zero, List.getElem?_cons_succ] at k0 k1 k2 k3
          obtain ⟨y0c, y1c, y2c, y3c, y4c, y5c⟩ := y4.c
          have yf := y4.f 1
          have hy5 := y4.setWr na
          have t5 : Tr [q] w4 (w4.setCell ⟨q, 1, none⟩ (.int .i64 (na % 65536))) := (Tr.refl _ _).setCell _ (by simp) _
          have T5 := T3.next t4 (by simp) t5 (by simp) hx4 hy5
          have C5 := C4.tr t5 (by simp; omega)
          go_wp2_with fail
          go_meet
          exact ⟨T5, C5⟩
        · go_wp2_with fail
          refine (vram_SetRead T3.x na).mono ?_; rintro e w4 ⟨rfl, hx4, t4⟩
          have y4 := T3.yKept t4 (by simp)
          have C4 := C0.tr t4 (by simp; omega)
          clear k0 k1 k2 k3
          have k0 := C4.cell 0
          have k1 := C4.cell 1
          have k2 := C4.cell 2
          have k3 := C4.cell 3
          simp only [List.getElem?_toArray, List.getElem?_cons_zero, List.getElem?_cons_succ] at k0 k1 k2 k3
          go_wp2_with fail
          refine (ref13_SetRead y4 na hIn.1).mono ?_; rintro e w5 ⟨rfl, hy5, t5⟩
          have T5 := T3.next t4 (by simp) t5 (by simp) hx4 hy5
          have C5 := C4.tr t5 (by simp; omega)
          go_wp2_with fail
          go_meet
          exact ⟨T5, C5⟩
        · go_wp2_with fail
          refine (vram_SetStep T3.x na).mono ?_; rintro e w4 ⟨rfl, hx4, t4⟩
          have y4 := T3.yKept t4 (by simp)
          have C4 := C0.tr t4 (by simp; omega)
          clear k0 k1 k2 k3
          have k0 := C4.cell 0
          have k1 := C4.cell 1
          have k2 := C4.cell 2
          have k3 := C4.cell 3
          simp only [List.getElem?_toArray, List.getElem?_cons_zero, List.getElem?_cons_succ] at k0 k1 k2 k3
          obtain ⟨y0c, y1c, y2c, y3c, y4c, y5c⟩ := y4.c
          have yf := y4.f 3
          have hy5 := y4.setSt na
          have t5 : Tr [q] w4 (w4.setCell ⟨q, 3, none⟩ (.int .i64 (na % 65536))) := (Tr.refl _ _).setCell _ (by simp) _
          have T5 := T3.next t4 (by simp) t5 (by simp) hx4 hy5
          have C5 := C4.tr t5 (by simp; omega)
          go_wp2_with fail
          go_meet
          exact ⟨T5, C5⟩
        · go_wp2_with fail
          refine (vram_Put T3.x hi na).mono ?_; rintro e w4 ⟨rfl, hx4, t4⟩
          have y4 := T3.yKept t4 (by simp)
          have C4 := C0.tr t4 (by simp; omega)
          clear k0 k1 k2 k3
          have k0 := C4.cell 0
          have k1 := C4.cell 1
          have k2 := C4.cell 2
          have k3 := C4.cell 3
          simp only [List.getElem?_toArray, List.getElem?_cons_zero, List.getElem?_cons_succ] at k0 k1 k2 k3
          go_wp2_with fail
          refine (ref13_Put y4 hi na hIn.1).mono ?_; rintro e w5 ⟨rfl, hy5, t5⟩
          have T5 := T3.next t4 (by simp) t5 (by simp) hx4 hy5
          have C5 := C4.tr t5 (by simp; omega)
          go_wp2_with fail
          go_meet
          exact ⟨T5, C5⟩
        · go_wp2_with fail
          refine (vram_Poke T3.x na wa).mono ?_; rintro e w4 ⟨rfl, hx4, t4⟩
          have y4 := T3.yKept t4 (by simp)
          have C4 := C0.tr t4 (by simp; omega)
          clear k0 k1 k2 k3
          have k0 := C4.cell 0
          have k1 := C4.cell 1
          have k2 := C4.cell 2
          have k3 := C4.cell 3
          simp only [List.getElem?_toArray, List.getElem?_cons_zero, List.getElem?_cons_succ] at k0 k1 k2 k3
          go_wp2_with fail
          refine (ref13_Poke y4 na wa hIn.1 hIn.2).mono ?_; rintro e w5 ⟨rfl, hy5, t5⟩
          have T5 := T3.next t4 (by simp) t5 (by simp) hx4 hy5
          have C5 := C4.tr t5 (by simp; omega)
          go_wp2_with fail
          go_meet
          exact ⟨T5, C5⟩
        · go_wp2_with fail
          refine wp_region_two 3 7 (fun w' => w' = w3.drew) (fun w' => VAt 69 w' p g (V.got hi) ∧ Tr [p, g] w3 w' ∧ Blk w' gb #[Value.int .i64 4, Value.int .i64 na, Value.int .i64 wa, Value.bool hi] 64)
            (fun w' => Duo w w' p g q h (V.got hi) ∧ Blk w' gb #[Value.int .i64 4, Value.int .i64 na, Value.int .i64 wa, Value.bool hi] 64) (by kernel_rfl) (by kernel_rfl) (by kernel_rfl) (by decide) rfl ?_
          have hk3 : ∀ w', (w' = w3.drew ∨ (VAt 69 w' p g (V.got hi) ∧ Tr [p, g] w3 w' ∧ Blk w' gb #[Value.int .i64 4, Value.int .i64 na, Value.int .i64 wa, Value.bool hi] 64) ∨
              (Duo w w' p g q h (V.got hi) ∧ Blk w' gb #[Value.int .i64 4, Value.int .i64 na, Value.int .i64 wa, Value.bool hi] 64)) → w'.cell? ⟨gb, 3, none⟩ = some (.bool hi) := by
            rintro w' (rfl | ⟨_, _, hC⟩ | ⟨_, hC⟩)
            · exact k3
            · exact hC.cell 3
            · exact hC.cell 3
          have HK := Lib.hid hk3
          clear hk3 k0 k1 k2 k3
          iterate 3
            (refine wp2_other rfl (by decide) (by decide) (fun K hK => ?_)
             apply Exists.intro
             refine ⟨fun wq hq => ?_, hK _ ?_⟩
             · have z := HK.out wq hq
               clear hq
               go_simp
               first | exact rfl | exact ⟨rfl, rfl⟩
             clear hK K
             simp only [Act.put, List.setIfInBounds_toArray, List.set_cons_zero, List.set_cons_succ])
          refine wp2_first rfl (by decide) (by kernel_rfl) ⟨.int .i64 (V.get hi), fun wq hq => ?_, ?_⟩
          · subst hq
            go_simp
            exact (vram_Get (T3.x.drewN 1) hi).mono fun _ _ ⟨he, hv, ht⟩ => ⟨he, hv, (Tr.refl _ w3).drew.trans ht, (C0.drewN 1).tr ht (by simp; omega)⟩
          simp only [Act.put, List.setIfInBounds_toArray, List.set_cons_zero, List.set_cons_succ]
          iterate 3
            (refine wp2_other rfl (by decide) (by decide) (fun K hK => ?_)
             apply Exists.intro
             refine ⟨fun wq hq => ?_, hK _ ?_⟩
             · have z := HK.out wq hq
               clear hq
               go_simp
               first | exact rfl | exact ⟨rfl, rfl⟩
             clear hK K
             simp only [Act.put, List.setIfInBounds_toArray, List.set_cons_zero, List.set_cons_succ])
          refine wp2_second rfl (by decide) (by kernel_rfl) ⟨.int .i64 (V.get hi), fun wq hq => ?_, ?_⟩
          · obtain ⟨hx4, t4, C4⟩ := hq
            have y4 := T3.yKept t4 (by simp)
            go_simp
            exact (ref13_Get y4 hi).mono fun _ _ ⟨he, hv, ht⟩ => ⟨he, T3.next t4 (by simp) ht (by simp) hx4 hv, C4.tr ht (by simp; omega)⟩
          simp only [Act.put, List.setIfInBounds_toArray, List.set_cons_zero, List.set_cons_succ]
          refine wp2_other rfl (by decide) (by decide) (fun K hK => ?_)
          apply Exists.intro
          refine ⟨fun wq hq => ?_, hK _ ?_⟩
          · clear hq
            go_simp
            first | exact rfl | exact ⟨rfl, rfl⟩
          clear hK K
          simp only [Act.put, List.setIfInBounds_toArray, List.set_cons_zero, List.set_cons_succ]
          rintro w5 ⟨T5, C5⟩
          go_wp2_with fail
          go_meet
          exact ⟨T5, C5⟩
        · have b0 : (ka == 0) = false := by simp; omega
          have b1 : (ka == 1) = false := by simp; omega
          have b2 : (ka == 2) = false := by simp; omega
          have b3 : (ka == 3) = false := by simp; omega
          have b4 : (ka == 4) = false := by simp; omega
          have b5 : (ka == 5) = false := by simp; omega
          have hV : V.act ⟨ka, na, wa, hi⟩ = V := by
            unfold VS.act
            simp only
            rw [if_neg (by omega), if_neg (by omega), if_neg (by omega), if_neg (by omega), if_neg (by omega), if_neg (by omega)]
          have HV := Lib.hid hV
          clear hka hV
          go_wp2_with fail
          go_meet
          rw [HV.out]
          exact ⟨T3, C0⟩
      case rest =>
        obtain ⟨T, C⟩ := hcut
        generalize V.act ac = V1 at *
        clear C0 k0 k1 k2 k3 T3
        go_wp2_with fail
        refine (vram_Ports T.x).mono ?_; rintro e w5 ⟨rfl, hb5⟩
        have T5 := T.of_below hb5
        have C5 := C.below hb5
        have c1 := C5.cell 1
        simp only [List.getElem?_toArray, List.getElem?_cons_zero, List.getElem?_cons_succ] at c1
        obtain ⟨y0c, y1c, y2c, y3c, y4c, y5c⟩ := T5.y.c
        clear T C hb5
        have hn := hIn.1
        go_wp2_with fail
        go_quiet (first
          | (go_at_call 31; exact quiet_same (vram_Word (T5.x.drewN _) _))
          | (go_at_call 32; exact quiet_same (ref13_Word (T5.y.drewN _) _ hn)))
        have T6 := T5.drewN nq
        clear T5 C5 c1 y0c y1c y2c y3c y4c y5c
        generalize w5.drewN nq = w6 at *
        go_wp2
        go_roundw
        case rel => exact ⟨k + 1, by omega, by omega, rfl, V1, T6⟩
        case measure => simp [intOf]; omega
    · have hd : (¬ k < acts.length) ∨ (k < acts.length ∧ ¬ (k : Int) < 120) := by omega
      clear hlt
      by_cases hnn : n < 0 ∨ 65536 < n
      · rcases hd with d1 | ⟨d1, d2⟩
        all_goals
          go_wp2_with fail
          refine (vram_Words_bad T.x at' n hnn).mono ?_; rintro e w5 ⟨rfl, rfl⟩
          rcases hnn with h1 | h1
          all_goals
            go_wp2
            go_ret
            exact ⟨rfl, T.below⟩
      · obtain ⟨m, rfl⟩ : ∃ m : Nat, n = (m : Int) := ⟨n.toNat, by omega⟩
        have hm : m ≤ 65536 := by omega
        have h1 : ¬ (m : Int) < 0 := by omega
        have h2 : ¬ 65536 < (m : Int) := by omega
        clear hnn
        rcases hd with d1 | ⟨d1, d2⟩
        all_goals
          go_wp2_with fail
          refine (vram_Words T.x at' m hm).mono ?_; rintro e w5 ⟨rfl, hL, hb5⟩
          have T5 := T.of_below hb5
          have hwl := wordsK_length V at' m
          have hwn : ∀ i : Nat, i < m → nth 0 (wordsK V at' m) i = V.word (at' % 65536 + i) := fun i hi => by
            rw [nth_wordsK _ _ _ _ hi]; exact VS.word_congr _ (by omega)
          generalize wordsK V at' m = ws at *
          have HWL := Lib.hid hwl
          have HWN := Lib.hid hwn
          clear hwl hwn hb5 T
          generalize hge : wr.heap.size = ge at *
          go_wp2_with fail
          go_loopw [17] (fun i wx => ∃ j : Nat, j ≤ 300 ∧ j ≤ m ∧ i = .int .i64 j ∧ Duo w wx p g q h V ∧ BlkL (Value.int .i64) wx ge ws 3) (fun i _ => 300 - (intOf i).toNat)
          case atStart => exact ⟨0, by omega, by omega, rfl, T5, hL⟩
          case round =>
            clear T5 hL
            obtain ⟨j, hj, hjm, rfl, T, hL⟩ := hrel
            by_cases hlt : j < m ∧ j < 300
            · have q1 : j < m := hlt.1
              have q2 : (j : Int) < 300 := by omega
              have i1 : (j : Int) < (m : Int) := by omega
              have z := hL.at (i := j) (by rw [HWL.out]; omega)
              rw [HWN.out j q1] at z
              have ew : IntKind.i64.wrap (at' % 65536 + (j : Int)) = at' % 65536 + j := IntWalk.i64_in _ (by omega)
              have hr : -9223372036854775808 ≤ at' % 65536 + (j : Int) ∧ at' % 65536 + (j : Int) ≤ 9223372036854775807 := by omega
              go_wp2_with fail
              go_quiet ((go_at_call 32; exact quiet_same (ref13_Word (T.y.drewN _) _ hr)))
              have T6 := T.drewN nq
              have hL6 := Blk.drewN hL nq
              clear T hL z ew
              generalize wr.drewN nq = w6 at *
              go_wp2
              go_roundw
              case rel => exact ⟨j + 1, by omega, by omega, rfl, T6, hL6⟩
              case measure => simp [intOf]; omega
            · have hd2 : (¬ j < m) ∨ (j < m ∧ ¬ (j : Int) < 300) := by omega
              clear hlt
              rcases hd2 with q1 | ⟨q1, q2⟩
              all_goals
                go_wp2_with fail
                refine (vram_New _).mono ?_; rintro e w7 ⟨p7, g7, rfl, hx7, hb7, _, _⟩
                go_wp2_with fail
                refine (vram_Ports hx7).mono ?_; rintro e w8 ⟨rfl, hb8⟩
                rw [show VS.new.st = 1 from rfl]
                go_wp2
                go_ret
                exact ⟨rfl, (T.below.trans (hb7.mono T.below.size)).trans (hb8.mono (Nat.le_trans T.below.size hb7.size))⟩
end Go.Proofs.Ytlhnfllfankjhaa
