/- The walk of VramLoads. -/
import Derived.Test.YtlhnfllfankjhaaPlayL
import Derived.Deep.CutBlock
namespace Go.Proofs.Ytlhnfllfankjhaa
open Go Go.RowKit
set_option linter.unusedSimpArgs false
set_option linter.unusedVariables false
set_option maxRecDepth 100000

theorem words_all {V : VS} (h : V.Ok) : wordsK V 0 32768 = V.W := by
  refine nth_ext 0 (by rw [wordsK_length, h.len]) fun i hi => ?_
  rw [wordsK_length] at hi
  rw [nth_wordsK _ _ _ _ hi]
  unfold VS.word
  rw [if_pos (by omega)]
  congr 1; omega
theorem isW_of {x : Int} (h : 0 ≤ x ∧ x < 65536) : isW x = true := by
  unfold isW; rw [beq_iff_eq]; omega
theorem all_isW {V : VS} (h : V.Ok) : V.W.all isW = true := by
  rw [List.all_eq_true]
  intro x hx
  obtain ⟨i, hi, rfl⟩ := List.getElem_of_mem hx
  have := h.each i
  rw [nth_lt hi] at this
  exact isW_of this
theorem mayLoad_yes {V : VS} (h : V.Ok) : mayLoad V.W [V.wr, V.rd, V.st, V.lo, V.bu] = true := by
  unfold mayLoad
  have h1 := h.lo
  have h2 : V.lo = V.lo % 256 := by omega
  have h3 : nth 0 [V.wr, V.rd, V.st, V.lo, V.bu] 3 = V.lo := rfl
  rw [h3, all_isW h, List.all_cons, List.all_cons, List.all_cons, List.all_cons, List.all_cons, isW_of h.wr, isW_of h.rd, isW_of h.st, isW_of h.bu, isW_of (by omega)]
  simp [h.len, h2.symm]
theorem mayLoad_short {xs ps : List Int} (h : xs.length ≠ 32768) : mayLoad xs ps = false := by
  unfold mayLoad
  rw [decide_eq_false (by omega)]
  simp
theorem mayLoad_low {xs : List Int} {a b c d : Int} : mayLoad xs [a, b, c, 256, d] = false := by
  unfold mayLoad
  have h3 : nth 0 [a, b, c, 256, d] 3 = 256 := rfl
  rw [h3]; simp
theorem mayLoad_great {xs ps : List Int} (i : Nat) (hi : i < xs.length) : mayLoad (xs.set i 65536) ps = false := by
  unfold mayLoad
  have h : (xs.set i 65536).all isW = false := by
    rw [List.all_eq_false]
    exact ⟨65536, List.mem_set (by simpa using hi) 65536, by decide⟩
  rw [h]; simp

set_option maxHeartbeats 16000000 in
theorem vramLoads_walk (a b : Option Addr) (c d : Nat) (acts more : List ActV) (wrong : Int) (w : World) (S : ActsAt w a acts) (R : ActsAt w b more) (hl : acts.length ≤ 9223372036854775807) (hl2 : more.length ≤ 9223372036854775807) :
    Calls Try.prog 16 #[.slice a acts.length c, .slice b more.length d, .int .i64 wrong] w fun e w' => e = .returned (.bool true) ∧ Below w.heap.size w w' := by
  go_enter Try.func16, Try.ntmps16
  go_wp2_with fail
  refine (vram_New _).mono ?_; rintro e w1 ⟨p, g, rfl, hx, hb1, hp, hg⟩
  go_upto_block 0 with (fail)
  go_cut [9] (fun s9 wx => ∃ V, VAt 69 wx p g V ∧ Below w.heap.size w wx)
  case first =>
    go_wp2_with fail
    go_loopw [9] (fun i wr => ∃ k : Nat, k ≤ 60 ∧ k ≤ acts.length ∧ i = .int .i64 k ∧ ∃ V, VAt 69 wr p g V ∧ Below w.heap.size w wr) (fun i _ => 60 - (intOf i).toNat)
    case atStart => exact ⟨0, by omega, by omega, rfl, _, hx, hb1⟩
    case round =>
      clear hx hb1
      obtain ⟨k, hk, hkl, rfl, V, hv, hB⟩ := hrel
      by_cases hlt : k < acts.length ∧ k < 60
      · have d1 : k < acts.length := hlt.1
        have d2 : (k : Int) < 60 := by omega
        have i1 : (k : Int) < (acts.length : Int) := by omega
        obtain ⟨ad, rfl, g0, g1, g2, g3⟩ := (S.below hB) k hlt.1
        generalize nth ActV.none acts k = ac at *
        go_wp2_with fail
        refine (loads_play hv ac).mono ?_; rintro e w2 ⟨rfl, hv2, t2⟩
        have hB2 := Tr.below hB t2 (Nat.le_refl _) (by simp; exact ⟨hp, hg⟩)
        clear hv hB g0 g1 g2 g3
        go_wp2
        go_roundw
        case rel => exact ⟨k + 1, by omega, by omega, rfl, _, hv2, hB2⟩
        case measure => simp [intOf]; omega
      · have hd : (¬ k < acts.length) ∨ (k < acts.length ∧ ¬ (k : Int) < 60) := by omega
        clear hlt
        rcases hd with d1 | ⟨d1, d2⟩
        all_goals
          go_wp2_with fail
          go_meet
          exact ⟨V, hv, hB⟩
  case rest =>
    clear hx hb1
    obtain ⟨V, hv, hB⟩ := hcut
    go_wp2_with fail
    refine (vram_Ports hv).mono ?_; rintro e w2 ⟨rfl, hb2⟩
    have hv2 := hv.below hb2
    have hB2 := hB.trans (hb2.mono hB.size)
    go_wp2_with fail
    refine (vram_Words hv2 0 32768 (by omega)).mono ?_; rintro e w3 ⟨rfl, hL3, hb3⟩
    have hv3 := hv2.below hb3
    have hB3 := hB2.trans (hb3.mono hB2.size)
    have hok := hv.ok
    rw [words_all hok] at hL3
    have hlen := hok.len
    have hgW := hB2.size
    have lx := hv2.lt
    generalize hgn : w2.heap.size = gW at *
    clear hv hB hb2 hv2 hB2 hb3
    go_wp2_with fail
    have hLd := vram_Load (some ⟨gW, 0, none⟩) 32768 V.W V.wr V.rd V.st V.lo V.bu w3 (SlAt.of_blkL hL3) (by omega)
    rw [hlen] at hLd
    refine hLd.mono ?_; rintro e w4 ⟨hb4, _, hy⟩
    obtain ⟨q, h, rfl, hy4, hq, hh⟩ := hy (mayLoad_yes hok)
    replace hy4 : VAt 69 w4 q h V := hy4
    have hv4 := hv3.below hb4
    have hL4 : BlkL (Value.int .i64) w4 gW V.W 3 := Blk.below hL3 hb4
    have hB4 := hB3.trans (hb4.mono hB3.size)
    have lW := Blk.lt (t := 3) hL3
    clear hLd hy hb4 hL3 hv3 hB3
    go_wp2_with fail
    have hl2' : (V.W.take 16384).length = 16384 := by rw [List.length_take, hlen]; rfl
    have hLd := vram_Load (some ⟨gW, 0, none⟩) 32768 (V.W.take 16384) V.wr V.rd V.st V.lo V.bu w4 ((SlAt.of_blkL hL4).take 16384) (by omega)
    have hno := mayLoad_short (ps := [V.wr, V.rd, V.st, V.lo, V.bu]) (show (V.W.take 16384).length ≠ 32768 by omega)
    rw [hl2', hno] at hLd
    refine hLd.mono ?_; rintro e w5 ⟨hb5, hy, _⟩
    obtain rfl := hy rfl
    have hy5 := hy4.below hb5
    have hv5 := hv4.below hb5
    have hL5 : BlkL (Value.int .i64) w5 gW V.W 3 := Blk.below hL4 hb5
    have hB5 := hB4.trans (hb5.mono hB4.size)
    clear hLd hy hb5 hL4 hv4 hB4 hy4 hno hl2'
    have n1 : gW ≠ p := by omega
    have n2 : gW ≠ g := by omega
    have n3 : gW ≠ q := by omega
    have n4 : gW ≠ h := by omega
    have n5 : p ≠ q := by omega
    have n6 : p ≠ h := by omega
    have n7 : g ≠ q := by omega
    have n8 : g ≠ h := by omega
    have hq1 : w.heap.size ≤ q := by omega
    have hh1 : w.heap.size ≤ h := by omega
    go_upto_block 2 with (fail)
    go_cut [20] (fun s20 wx => ∃ U, VAt 69 wx p g U ∧ BlkL (Value.int .i64) wx gW V.W 3 ∧ Below w.heap.size w wx)
    case first =>
      go_wp2_with fail
      go_loopw [20] (fun i wr => ∃ k : Nat, k ≤ 60 ∧ k ≤ more.length ∧ i = .int .i64 k ∧ ∃ U, VAt 69 wr p g U ∧ VAt 69 wr q h U ∧ BlkL (Value.int .i64) wr gW V.W 3 ∧ Below w.heap.size w wr) (fun i _ => 60 - (intOf i).toNat)
      case atStart => exact ⟨0, by omega, by omega, rfl, _, hv5, hy5, hL5, hB5⟩
      case round =>
        clear hv5 hy5 hL5 hB5
        obtain ⟨k, hk, hkl, rfl, U, hv, hy, hL, hB⟩ := hrel
        by_cases hlt : k < more.length ∧ k < 60
        · have d1 : k < more.length := hlt.1
          have d2 : (k : Int) < 60 := by omega
          have i1 : (k : Int) < (more.length : Int) := by omega
          obtain ⟨ad, rfl, g0, g1, g2, g3⟩ := (R.below hB) k hlt.1
          have hR2 : ∀ w', Below w.heap.size w w' → w'.cell? (ad.add (k * 4)) = some (.int .i64 (nth ActV.none more k).k) ∧ w'.cell? ⟨(ad.add (k * 4)).block, (ad.add (k * 4)).off + 1, none⟩ = some (.int .i64 (nth ActV.none more k).n) ∧
              w'.cell? ⟨(ad.add (k * 4)).block, (ad.add (k * 4)).off + 2, none⟩ = some (.int .i64 (nth ActV.none more k).w) ∧ w'.cell? ⟨(ad.add (k * 4)).block, (ad.add (k * 4)).off + 3, none⟩ = some (.bool (nth ActV.none more k).hi) := fun w' hb => by
            obtain ⟨ad', e', k0, k1, k2, k3⟩ := (R.below hb) k hlt.1
            obtain rfl := Option.some.inj e'
            exact ⟨k0, k1, k2, k3⟩
          generalize nth ActV.none more k = ac at *
          go_wp2_with fail
          obtain ⟨D, e0, e1, e2⟩ : ∃ D : Nat → World → Prop, (∀ w', D 0 w' ↔ w' = wr.drew) ∧ (∀ w', D 1 w' ↔ (VAt 69 w' p g (U.act ac) ∧ Tr [p, g] wr w')) ∧
              (∀ w', D 2 w' ↔ (VAt 69 w' p g (U.act ac) ∧ VAt 69 w' q h (U.act ac) ∧ Tr [p, g, q, h] wr w')) :=
            ⟨fun m w' => match m with
              | 0 => w' = wr.drew
              | 1 => (VAt 69 w' p g (U.act ac) ∧ Tr [p, g] wr w')
              | _ => (VAt 69 w' p g (U.act ac) ∧ VAt 69 w' q h (U.act ac) ∧ Tr [p, g, q, h] wr w'), fun _ => Iff.rfl, fun _ => Iff.rfl, fun _ => Iff.rfl⟩
          have hP : ∀ m w', m ≤ 2 → D m w' → w'.cell? (ad.add (k * 4)) = some (.int .i64 ac.k) ∧ w'.cell? ⟨(ad.add (k * 4)).block, (ad.add (k * 4)).off + 1, none⟩ = some (.int .i64 ac.n) ∧
              w'.cell? ⟨(ad.add (k * 4)).block, (ad.add (k * 4)).off + 2, none⟩ = some (.int .i64 ac.w) ∧ w'.cell? ⟨(ad.add (k * 4)).block, (ad.add (k * 4)).off + 3, none⟩ = some (.bool ac.hi) := by
            intro m w' hm hd
            refine hR2 w' ?_
            rcases (show m = 0 ∨ m = 1 ∨ m = 2 by omega) with rfl | rfl | rfl
            · rw [(e0 w').1 hd]; exact hB.drew
            · exact Tr.below hB ((e1 w').1 hd).2 (Nat.le_refl _) (by simp; exact ⟨hp, hg⟩)
            · exact Tr.below hB ((e2 w').1 hd).2.2 (Nat.le_refl _) (by simp; exact ⟨hp, hg, hq1, hh1⟩)
          have HP := Lib.hid hP
          clear hP hR2 g0 g1 g2 g3
          refine wp_region_n [6, 13] D (by kernel_rfl) (by kernel_rfl) (by kernel_rfl) (by kernel_rfl) ((e0 _).2 rfl) ?_
          iterate 6
            (refine wpN_other rfl (by decide) (fun K hK => ?_)
             apply Exists.intro
             refine ⟨fun m wq hm hq => ?_, hK _ ?_⟩
             · obtain ⟨t0, t1, t2, t3⟩ := HP.out m wq hm hq
               go_simp
               first | exact rfl | exact ⟨rfl, rfl⟩ | exact ⟨hq, rfl⟩
             clear hK K
             simp only [Act.put, List.setIfInBounds_toArray, List.set_cons_zero, List.set_cons_succ])
          refine wpN_turn 0 rfl (by decide) rfl (by kernel_rfl) ⟨.int .i64 (U.tell ac), fun wq hq => ?_, ?_⟩
          · obtain rfl := (e0 wq).1 hq
            go_simp
            exact (loads_play (hv.drewN 1) ac).mono fun _ _ ⟨he, hx, ht⟩ => ⟨he, hx, (Tr.refl _ wr).drew.trans ht⟩
          simp only [Act.put, List.setIfInBounds_toArray, List.set_cons_zero, List.set_cons_succ]
          iterate 6
            (refine wpN_other rfl (by decide) (fun K hK => ?_)
             apply Exists.intro
             refine ⟨fun m wq hm hq => ?_, hK _ ?_⟩
             · obtain ⟨t0, t1, t2, t3⟩ := HP.out m wq hm hq
               go_simp
               first | exact rfl | exact ⟨rfl, rfl⟩ | exact ⟨hq, rfl⟩
             clear hK K
             simp only [Act.put, List.setIfInBounds_toArray, List.set_cons_zero, List.set_cons_succ])
          refine wpN_turn 1 rfl (by decide) rfl (by kernel_rfl) ⟨.int .i64 (U.tell ac), fun wq hq => ?_, ?_⟩
          · obtain ⟨hx, ht⟩ := (e1 wq).1 hq
            have hy2 := hy.tr ht (by simp; exact ⟨Ne.symm n5, Ne.symm n7⟩) (by simp; exact ⟨Ne.symm n6, Ne.symm n8⟩)
            go_simp
            exact (loads_play hy2 ac).mono fun _ _ ⟨he, hx2, ht2⟩ => ⟨he, hx.tr ht2 (by simp; exact ⟨n5, n6⟩) (by simp; exact ⟨n7, n8⟩), hx2, (ht.mono (by simp)).trans (ht2.mono (by simp))⟩
          simp only [Act.put, List.setIfInBounds_toArray, List.set_cons_zero, List.set_cons_succ]
          iterate 1
            (refine wpN_other rfl (by decide) (fun K hK => ?_)
             apply Exists.intro
             refine ⟨fun m wq hm hq => ?_, hK _ ?_⟩
             · obtain ⟨t0, t1, t2, t3⟩ := HP.out m wq hm hq
               go_simp
               first | exact rfl | exact ⟨rfl, rfl⟩ | exact ⟨hq, rfl⟩
             clear hK K
             simp only [Act.put, List.setIfInBounds_toArray, List.set_cons_zero, List.set_cons_succ])
          intro w7 hw7
          obtain ⟨hx7, hy7, t7⟩ := (e2 w7).1 hw7
          have hL7 : BlkL (Value.int .i64) w7 gW V.W 3 := Blk.tr hL t7 (by simp; exact ⟨n1, n2, n3, n4⟩)
          have hB7 := Tr.below hB t7 (Nat.le_refl _) (by simp; exact ⟨hp, hg, hq1, hh1⟩)
          clear HP e0 e1 e2 hw7 hv hy hL hB t7
          go_wp2
          go_roundw
          case rel => exact ⟨k + 1, by omega, by omega, rfl, _, hx7, hy7, hL7, hB7⟩
          case measure => simp [intOf]; omega
        · have hd : (¬ k < more.length) ∨ (k < more.length ∧ ¬ (k : Int) < 60) := by omega
          clear hlt
          rcases hd with d1 | ⟨d1, d2⟩
          all_goals
            go_wp2_with fail
            go_meet
            exact ⟨U, hv, hL, hB⟩
    case rest =>
      clear hv5 hy5 hL5 hB5
      obtain ⟨U, hv, hL, hB⟩ := hcut
      obtain ⟨kn, hkn⟩ : ∃ kn : Nat, wrong % 32768 = (kn : Int) := ⟨(wrong % 32768).toNat, by omega⟩
      have hk5 : kn < 32768 := by omega
      have hk6 : (kn : Int) < 32768 := by omega
      have c1 := hL.at (i := kn) (by omega)
      have f1 := Blk.free (t := 3) hL kn
      have hL2 := BlkL.set (i := kn) hL (65536 : Int)
      have t2 : Tr [gW] wc (wc.setCell ⟨gW, kn, none⟩ (.int .i64 65536)) := (Tr.refl _ _).setCell _ (by simp) _
      have hv2 := hv.tr t2 (by simp; exact Ne.symm n1) (by simp; exact Ne.symm n2)
      have hB2 := Tr.below hB t2 (Nat.le_refl _) (by simp; exact hgW)
      clear t2
      go_wp2_with fail
      clear c1 f1 hL hv hB hkn
      generalize wc.setCell ⟨gW, kn, none⟩ (.int .i64 65536) = w6 at *
      have hlen2 : (V.W.set kn 65536).length = 32768 := by rw [List.length_set, hlen]
      have hLd := vram_Load (some ⟨gW, 0, none⟩) 32768 (V.W.set kn 65536) V.wr V.rd V.st V.lo V.bu w6 (SlAt.of_blkL hL2) (by omega)
      rw [hlen2, mayLoad_great kn (by omega)] at hLd
      refine hLd.mono ?_; rintro e w7 ⟨hb7, hy, _⟩
      obtain rfl := hy rfl
      have hv7 := hv2.below hb7
      have hB7 := hB2.trans (hb7.mono hB2.size)
      clear hLd hy hb7 hv2 hB2 hL2
      go_wp2_with fail
      refine (vram_Words hv7 0 32768 (by omega)).mono ?_; rintro e w8 ⟨rfl, hL8, hb8⟩
      rw [words_all hv7.ok] at hL8
      have hlen8 := hv7.ok.len
      have hB8 := hB7.trans (hb8.mono hB7.size)
      generalize w7.heap.size = g8 at *
      go_wp2_with fail
      have hLd := vram_Load (some ⟨g8, 0, none⟩) 32768 U.W V.wr V.rd V.st 256 V.bu w8 (SlAt.of_blkL hL8) (by omega)
      rw [hlen8, mayLoad_low] at hLd
      refine hLd.mono ?_; rintro e w9 ⟨hb9, hy, _⟩
      obtain rfl := hy rfl
      go_wp2
      go_ret
      exact ⟨rfl, hB8.trans (hb9.mono hB8.size)⟩
end Go.Proofs.Ytlhnfllfankjhaa
