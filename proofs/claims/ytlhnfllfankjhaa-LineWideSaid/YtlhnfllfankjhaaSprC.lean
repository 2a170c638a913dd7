/- Contracts: the reference's sprite of a table. -/
import Derived.Test.YtlhnfllfankjhaaSprB
namespace Go.Proofs.Ytlhnfllfankjhaa
open Go Go.RowKit
set_option linter.unusedSimpArgs false
set_option linter.unusedVariables false

theorem ref18_Of_out (t : List Int) (ht : t.length = 256) (k : Int) (hk : k < 0 ∨ 63 < k) (w : World) :
    Calls Try.prog 78 #[aggI t, .int .i64 k] w fun e w' => e = .returned (.agg one0) ∧ Below w.heap.size w w' := by
  rw [aggI_eq]
  rcases hk with hk | hk
  all_goals
    go_enter Try.func78, Try.ntmps78
    go_wp2
    exact ret_row rfl rfl (Blk.new' _ one0 _ (by simp)) Try.underlying123 rfl (by kernel_rfl) rfl ⟨rfl, ((Below.refl _ _).alloc (Nat.le_refl _) _).alloc (by simp) _⟩

set_option maxRecDepth 100000 in
set_option maxHeartbeats 4000000 in
theorem ref18_Of_in (t : List Int) (ht : t.length = 256) (hr : ∀ i, -9223372036854775808 ≤ nth 0 t i ∧ nth 0 t i ≤ 9223372036854775807) (k : Nat) (hk : k < 64) (w : World) :
    Calls Try.prog 78 #[aggI t, .int .i64 k] w fun e w' => e = .returned (.agg (oneV (nth 0 t (4 * k)) (nth 0 t (4 * k + 1)) (nth 0 t (4 * k + 2)) (nth 0 t (4 * k + 3)))) ∧ Below w.heap.size w w' := by
  rw [aggI_eq]
  have kb := Blk.new w (cellsI t) 37
  have g0 := (Blk.toL kb).at (i := 4 * k) (by omega)
  have g1 := (Blk.toL kb).at (i := 4 * k + 1) (by omega)
  have g2 := (Blk.toL kb).at (i := 4 * k + 2) (by omega)
  have g3 := (Blk.toL kb).at (i := 4 * k + 3) (by omega)
  have h0 := hr (4 * k); have h1 := hr (4 * k + 1); have h2 := hr (4 * k + 2); have h3 := hr (4 * k + 3)
  clear hr
  generalize nth 0 t (4 * k) = w0 at *
  generalize nth 0 t (4 * k + 1) = w1 at *
  generalize nth 0 t (4 * k + 2) = w2 at *
  generalize nth 0 t (4 * k + 3) = w3 at *
  have c0 := (kb.cell (4 * k)).symm.trans g0
  have c1 := (kb.cell (4 * k + 1)).symm.trans g1
  have c2 := (kb.cell (4 * k + 2)).symm.trans g2
  have c3 := (kb.cell (4 * k + 3)).symm.trans g3
  clear g0 g1 g2 g3
  have hsz : (cellsI t).size = 256 := by rw [cellsI_size, ht]
  have hkI : ¬ (63 : Int) < (k : Int) := by omega
  have i0 : (0 : Int) ≤ 4 * (k : Int) := by omega
  have i1 : (0 : Int) ≤ 4 * (k : Int) + 1 := by omega
  have i2 : (0 : Int) ≤ 4 * (k : Int) + 2 := by omega
  have i3 : (0 : Int) ≤ 4 * (k : Int) + 3 := by omega
  have j0 : 4 * (k : Int) < 256 := by omega
  have j1 : 4 * (k : Int) + 1 < 256 := by omega
  have j2 : 4 * (k : Int) + 2 < 256 := by omega
  have j3 : 4 * (k : Int) + 3 < 256 := by omega
  go_enter Try.func78, Try.ntmps78
  go_upto_region 5 with (first | (refine (ref01_Word w2 h2 _).mono ?_; rintro e w' ⟨rfl, rfl⟩) | (refine (ref01_Word w3 h3 _).mono ?_; rintro e w' ⟨rfl, rfl⟩))
  have q0 : Blk ((w.alloc (Obj.cells (cellsI t) 37)).alloc (Obj.cells one0 123)) (w.heap.size + 1) one0 123 := Blk.new' _ _ _ (by simp)
  have q2 : Below w.heap.size w ((w.alloc (Obj.cells (cellsI t) 37)).alloc (Obj.cells one0 123)) := ((Below.refl _ _).alloc (Nat.le_refl _) _).alloc (by simp) _
  have q3 := Blk.alloc kb (Obj.cells one0 123)
  unfold one0 at q0 q2 q3
  have u0 := (q3.cell (4 * k)).trans c0
  have u1 := (q3.cell (4 * k + 1)).trans c1
  clear kb q3 c0 c1 c2 c3 i2 i3 j2 j3
  generalize (w.alloc _).alloc _ = W at *
  let V : Array Value := #[.int .i64 (w1 % 1024 - 32), .int .i64 (w0 % 1024 - 64), .int .i64 (w2 / 2 % 1024), .int .i64 16, .int .i64 0, .int .i64 (w3 % 16), .bool false, .bool false, .bool false]
  go_cut [5, 6, 7] (fun s5 s6 s7 wx => s5 = .int .i64 (w2 % 65536) ∧ s6 = .int .i64 (w3 % 65536) ∧ ∃ g, s7 = .pointer (some ⟨g, 0, none⟩) ∧ Blk wx g V 123 ∧ w.heap.size + 1 < g ∧ Below W.heap.size W wx)
  case first =>
    have hW := q0.lt
    let D0 : World → Prop := fun w' => ∃ n, w' = W.drewN n
    let D1 : World → Prop := fun w' => ∃ n, w' = (W.alloc (Obj.cells one0 123)).drewN n
    let D2 : World → Prop := fun w' => Blk w' W.heap.size V 123 ∧ Below W.heap.size W w'
    have facts : ∀ w', (D0 w' ∨ D1 w') → w'.cell? ⟨w.heap.size, 4 * k, none⟩ = some (.int .i64 w0) ∧ w'.cell? ⟨w.heap.size, 4 * k + 1, none⟩ = some (.int .i64 w1) := by
      rintro w' (⟨n, rfl⟩ | ⟨n, rfl⟩)
      · exact ⟨u0, u1⟩
      · refine ⟨?_, ?_⟩ <;> (show (W.alloc _).cell? _ = _; rw [World.cell?_alloc_past _ _ _ (by omega)]; assumption)
    have FA := Lib.hid facts; clear facts
    have x0 : IntKind.i64.wrap (4 * (k : Int)) = 4 * (k : Int) := IntWalk.i64_in _ (by omega)
    have x1 : IntKind.i64.wrap (4 * (k : Int) + 1) = 4 * (k : Int) + 1 := IntWalk.i64_in _ (by omega)
    have x2 : (4 * (k : Int)).toNat = 4 * k := by omega
    have x3 : (4 * (k : Int) + 1).toNat = 4 * k + 1 := by omega
    have x4 : (w1 % 65536).tmod 1024 = w1 % 1024 := by rw [Int.tmod_eq_emod_of_nonneg (by omega)]; omega
    have x5 : (w0 % 65536).tmod 1024 = w0 % 1024 := by rw [Int.tmod_eq_emod_of_nonneg (by omega)]; omega
    have x6 : IntKind.i64.wrap ((w2 % 65536).tdiv 2) = w2 % 65536 / 2 := by rw [Int.tdiv_eq_ediv_of_nonneg (by omega)]; exact IntWalk.i64_in _ (by omega)
    have x7 : (w2 % 65536 / 2).tmod 1024 = w2 / 2 % 1024 := by rw [Int.tmod_eq_emod_of_nonneg (by omega)]; omega
    have x8 : (w3 % 65536).tmod 16 = w3 % 16 := by rw [Int.tmod_eq_emod_of_nonneg (by omega)]; omega
    have x9 : IntKind.i64.wrap (w1 % 1024 - 32) = w1 % 1024 - 32 := IntWalk.i64_in _ (by omega)
    have x10 : IntKind.i64.wrap (w0 % 1024 - 64) = w0 % 1024 - 64 := IntWalk.i64_in _ (by omega)
    refine wp_region_alloc_store 21 22 D0 D1 D2 (by kernel_rfl) (by kernel_rfl) (by kernel_rfl) (by decide) ⟨1, rfl⟩ ?_
    iterate 5
      (refine wpL_head rfl (by decide) (by decide) (fun w n ⟨m, h⟩ => ⟨m + n, by rw [h, World.drewN_drewN]⟩) (fun w n ⟨m, h⟩ => ⟨m + n, by rw [h, World.drewN_drewN]⟩) (fun K hK => ?_)
       apply Exists.intro
       refine ⟨fun wq hq => ?_, hK _ ?_⟩
       · obtain ⟨z0, z1⟩ := FA.out wq hq
         go_simp
         first | exact rfl | exact ⟨rfl, rfl⟩
       clear hK K
       simp only [Act.put, List.setIfInBounds_toArray, List.set_cons_zero, List.set_cons_succ])
    iterate 1
      (refine wpL_head rfl (by decide) (by decide) (fun w n ⟨m, h⟩ => ⟨m + n, by rw [h, World.drewN_drewN]⟩) (fun w n ⟨m, h⟩ => ⟨m + n, by rw [h, World.drewN_drewN]⟩) (fun K hK => ?_)
       apply Exists.intro
       refine ⟨fun wq hq => ?_, hK _ ?_⟩
       · obtain ⟨z0, z1⟩ := FA.out wq hq
         go_simp
         exact call0 (ref01_Word w1 h1 _)
       clear hK K
       simp only [Act.put, List.setIfInBounds_toArray, List.set_cons_zero, List.set_cons_succ])
    iterate 6
      (refine wpL_head rfl (by decide) (by decide) (fun w n ⟨m, h⟩ => ⟨m + n, by rw [h, World.drewN_drewN]⟩) (fun w n ⟨m, h⟩ => ⟨m + n, by rw [h, World.drewN_drewN]⟩) (fun K hK => ?_)
       apply Exists.intro
       refine ⟨fun wq hq => ?_, hK _ ?_⟩
       · obtain ⟨z0, z1⟩ := FA.out wq hq
         go_simp
         first | exact rfl | exact ⟨rfl, rfl⟩
       clear hK K
       simp only [Act.put, List.setIfInBounds_toArray, List.set_cons_zero, List.set_cons_succ])
    iterate 1
      (refine wpL_head rfl (by decide) (by decide) (fun w n ⟨m, h⟩ => ⟨m + n, by rw [h, World.drewN_drewN]⟩) (fun w n ⟨m, h⟩ => ⟨m + n, by rw [h, World.drewN_drewN]⟩) (fun K hK => ?_)
       apply Exists.intro
       refine ⟨fun wq hq => ?_, hK _ ?_⟩
       · obtain ⟨z0, z1⟩ := FA.out wq hq
         go_simp
         exact call0 (ref01_Word w0 h0 _)
       clear hK K
       simp only [Act.put, List.setIfInBounds_toArray, List.set_cons_zero, List.set_cons_succ])
    iterate 8
      (refine wpL_head rfl (by decide) (by decide) (fun w n ⟨m, h⟩ => ⟨m + n, by rw [h, World.drewN_drewN]⟩) (fun w n ⟨m, h⟩ => ⟨m + n, by rw [h, World.drewN_drewN]⟩) (fun K hK => ?_)
       apply Exists.intro
       refine ⟨fun wq hq => ?_, hK _ ?_⟩
       · obtain ⟨z0, z1⟩ := FA.out wq hq
         go_simp
         first | exact rfl | exact ⟨rfl, rfl⟩
       clear hK K
       simp only [Act.put, List.setIfInBounds_toArray, List.set_cons_zero, List.set_cons_succ])
    refine wpL_alloc rfl (by decide) (fun K hK => ?_)
    refine ⟨.pointer (some ⟨W.heap.size, 0, none⟩), fun wq hq => ?_, hK _ ?_⟩
    · obtain ⟨n, rfl⟩ := hq
      go_simp
      exact ⟨n, rfl⟩
    clear hK K
    simp only [Act.put, List.setIfInBounds_toArray, List.set_cons_zero, List.set_cons_succ]
    refine wpL_last rfl (by decide) rfl (by kernel_rfl) (by kernel_rfl) ⟨undef, fun wq hq => ?_, ?_⟩
    · obtain ⟨n, rfl⟩ := hq
      have b := Blk.drewN (Blk.new' W one0 123 rfl) n
      unfold one0 at b ⊢
      go_simp
      replace b := ((((((((b.set (i := 0) (.int .i64 (w1 % 1024 - 32))).set (i := 1) (.int .i64 (w0 % 1024 - 64))).set (i := 2) (.int .i64 (w2 / 2 % 1024))).set (i := 3) (.int .i64 16)).set (i := 4) (.int .i64 0)).set (i := 5) (.int .i64 (w3 % 16))).set (i := 6) (.bool false)).set (i := 7) (.bool false)).set (i := 8) (.bool false)
      simp only [List.setIfInBounds_toArray, List.set_cons_zero, List.set_cons_succ] at b
      refine ⟨b, ?_⟩
      exact (((((((((below_drewN ((Below.refl _ _).alloc (Nat.le_refl _) _) n).setCell (Nat.le_refl _) _).setCell (Nat.le_refl _) _).setCell (Nat.le_refl _) _).setCell (Nat.le_refl _) _).setCell (Nat.le_refl _) _).setCell (Nat.le_refl _) _).setCell (Nat.le_refl _) _).setCell (Nat.le_refl _) _).setCell (Nat.le_refl _) _
    intro w' hw'
    go_wp2_with fail
    go_meet
    exact ⟨rfl, rfl, _, rfl, hw'.1, hW, hw'.2⟩
  case rest =>
    obtain ⟨rfl, rfl, g, rfl, hg, hgt, hb⟩ := hcut
    replace q0 := q0.below hb
    have hbb : Below w.heap.size w wc := q2.trans (hb.mono q2.size)
    clear u0 u1 q2 hb i0 i1 j0 j1
    have c2 : 0 ≤ w2 / 2 % 1024 ∧ w2 / 2 % 1024 < 1024 := by omega
    replace hg : Blk wc g #[.int .i64 (w1 % 1024 - 32), .int .i64 (w0 % 1024 - 64), .int .i64 (w2 / 2 % 1024), .int .i64 (16), .int .i64 (0), .int .i64 (w3 % 16), .bool (false), .bool (false), .bool (false)] 123 := hg
    have hne' : w.heap.size + 1 ≠ g := by omega
    have HV := Lib.hid (show w3 / 4096 % 4 = 0 ∨ w3 / 4096 % 4 = 1 ∨ w3 / 4096 % 4 = 2 ∨ w3 / 4096 % 4 = 3 by omega)
    generalize hA : (if w3 / 256 % 2 = 1 then w2 / 2 % 1024 / 2 * 2 else w2 / 2 % 1024) = cA
    have hcA : 0 ≤ cA ∧ cA < 1024 := by rw [← hA]; split <;> omega
    have HA := Lib.hid hA; clear hA
    have m1 : 0 ≤ w3 % 65536 ∧ w3 % 65536 < 65536 := by omega
    have hgs := hg.lt
    go_upto_region 6 with (fail)
    go_cut [] (fun wx => Blk wx g #[.int .i64 (w1 % 1024 - 32), .int .i64 (w0 % 1024 - 64), .int .i64 (w2 / 2 % 1024), .int .i64 (16), .int .i64 (sHigh w3), .int .i64 (w3 % 16), .bool (false), .bool (false), .bool (false)] 123 ∧ Blk wx (w.heap.size + 1) one0 123 ∧ Below w.heap.size w wx)
    case first =>
      have f4 := hg.free 4
      have g4 := hg.cell 4
      simp only [List.getElem?_toArray, List.getElem?_cons_zero, List.getElem?_cons_succ] at g4
      rcases HV.out with hv | hv | hv | hv
      · have hh : sHigh w3 = 16 := by unfold sHigh; simp [hv]
        have hv' : w3 % 65536 / 4096 % 4 = 0 := by omega
        have HH := Lib.hid hh
        clear hh hv
        go_wp2
        go_meet
        refine ⟨?_, Blk.alloc (Blk.other q0 _ hne') _, (hbb.setCell (by simp; omega) _).alloc (hbb.setCell (by simp; omega) _).size _⟩
        have B1 := Blk.alloc (hg.set (i := 4) (.int .i64 16)) (Obj.cells #[.int .i64 16, .int .i64 32, .int .i64 64, .int .i64 64] 3)
        simp only [List.setIfInBounds_toArray, List.set_cons_zero, List.set_cons_succ] at B1
        rw [HH.out]; exact B1
      · have hh : sHigh w3 = 32 := by unfold sHigh; simp [hv]
        have hv' : w3 % 65536 / 4096 % 4 = 1 := by omega
        have HH := Lib.hid hh
        clear hh hv
        go_wp2
        go_meet
        refine ⟨?_, Blk.alloc (Blk.other q0 _ hne') _, (hbb.setCell (by simp; omega) _).alloc (hbb.setCell (by simp; omega) _).size _⟩
        have B1 := Blk.alloc (hg.set (i := 4) (.int .i64 32)) (Obj.cells #[.int .i64 16, .int .i64 32, .int .i64 64, .int .i64 64] 3)
        simp only [List.setIfInBounds_toArray, List.set_cons_zero, List.set_cons_succ] at B1
        rw [HH.out]; exact B1
      · have hh : sHigh w3 = 64 := by unfold sHigh; simp [hv]
        have hv' : w3 % 65536 / 4096 % 4 = 2 := by omega
        have HH := Lib.hid hh
        clear hh hv
        go_wp2
        go_meet
        refine ⟨?_, Blk.alloc (Blk.other q0 _ hne') _, (hbb.setCell (by simp; omega) _).alloc (hbb.setCell (by simp; omega) _).size _⟩
        have B1 := Blk.alloc (hg.set (i := 4) (.int .i64 64)) (Obj.cells #[.int .i64 16, .int .i64 32, .int .i64 64, .int .i64 64] 3)
        simp only [List.setIfInBounds_toArray, List.set_cons_zero, List.set_cons_succ] at B1
        rw [HH.out]; exact B1
      · have hh : sHigh w3 = 64 := by unfold sHigh; simp [hv]
        have hv' : w3 % 65536 / 4096 % 4 = 3 := by omega
        have HH := Lib.hid hh
        clear hh hv
        go_wp2
        go_meet
        refine ⟨?_, Blk.alloc (Blk.other q0 _ hne') _, (hbb.setCell (by simp; omega) _).alloc (hbb.setCell (by simp; omega) _).size _⟩
        have B1 := Blk.alloc (hg.set (i := 4) (.int .i64 64)) (Obj.cells #[.int .i64 16, .int .i64 32, .int .i64 64, .int .i64 64] 3)
        simp only [List.setIfInBounds_toArray, List.set_cons_zero, List.set_cons_succ] at B1
        rw [HH.out]; exact B1
    case rest =>
      obtain ⟨hg, q0, hbb⟩ := hcut
      go_upto_if 58 with (fail)
      go_cut [] (fun wx => Blk wx g #[.int .i64 (w1 % 1024 - 32), .int .i64 (w0 % 1024 - 64), .int .i64 (cA), .int .i64 (sWide w3), .int .i64 (sHigh w3), .int .i64 (w3 % 16), .bool (false), .bool (false), .bool (false)] 123 ∧ Blk wx (w.heap.size + 1) one0 123 ∧ Below w.heap.size w wx)
      case first =>
        have f2 := hg.free 2; have f3 := hg.free 3
        have g2 := hg.cell 2; have g3 := hg.cell 3
        simp only [List.getElem?_toArray, List.getElem?_cons_zero, List.getElem?_cons_succ] at g2 g3
        by_cases hf : w3 / 256 % 2 = 1
        · have hf' : w3 % 65536 / 256 % 2 = 1 := by omega
          have hw : sWide w3 = 32 := by unfold sWide; rw [if_pos hf]
          have ha := HA.out; rw [if_pos hf] at ha
          have HW := Lib.hid hw; have HA' := Lib.hid ha
          clear hw ha hf
          go_wp2
          go_meet
          refine ⟨?_, Blk.other (Blk.other q0 _ hne') _ hne', (hbb.setCell (by simp; omega) _).setCell (by simp; omega) _⟩
          have B1 := (hg.set (i := 3) (.int .i64 32)).set (i := 2) (.int .i64 (w2 / 2 % 1024 / 2 * 2))
          simp only [List.setIfInBounds_toArray, List.set_cons_zero, List.set_cons_succ] at B1
          rw [HW.out, ← HA'.out]; exact B1
        · have hf' : w3 % 65536 / 256 % 2 = 0 := by omega
          have hw : sWide w3 = 16 := by unfold sWide; rw [if_neg hf]
          have ha := HA.out; rw [if_neg hf] at ha
          have HW := Lib.hid hw; have HA' := Lib.hid ha
          clear hw ha hf
          go_wp2
          go_meet
          refine ⟨?_, q0, hbb⟩
          rw [HW.out, ← HA'.out]; exact hg
      case rest =>
        obtain ⟨hg, q0, hbb⟩ := hcut
        generalize hB : (if w3 / 4096 % 4 = 1 then cA - cA / 2 % 2 * 2 else cA) = cB
        have hcB : 0 ≤ cB ∧ cB < 1024 := by rw [← hB]; split <;> omega
        have HB := Lib.hid hB; clear hB
        have g4 := hg.cell 4
        simp only [List.getElem?_toArray, List.getElem?_cons_zero, List.getElem?_cons_succ] at g4
        go_upto_if 67 with (fail)
        go_cut [] (fun wx => Blk wx g #[.int .i64 (w1 % 1024 - 32), .int .i64 (w0 % 1024 - 64), .int .i64 (cB), .int .i64 (sWide w3), .int .i64 (sHigh w3), .int .i64 (w3 % 16), .bool (false), .bool (false), .bool (false)] 123 ∧ Blk wx (w.heap.size + 1) one0 123 ∧ Below w.heap.size w wx)
        case first =>
          have f2 := hg.free 2
          have g2 := hg.cell 2
          simp only [List.getElem?_toArray, List.getElem?_cons_zero, List.getElem?_cons_succ] at g2
          by_cases hf : w3 / 4096 % 4 = 1
          · have hh : sHigh w3 = 32 := by unfold sHigh; simp [hf]
            rw [hh] at g4
            have hb' := HB.out; rw [if_pos hf] at hb'
            have HB' := Lib.hid hb'
            clear hf hb'
            go_wp2
            go_meet
            refine ⟨?_, Blk.other q0 _ hne', hbb.setCell (by simp; omega) _⟩
            have B1 := hg.set (i := 2) (.int .i64 (cA - cA / 2 % 2 * 2))
            simp only [List.setIfInBounds_toArray, List.set_cons_zero, List.set_cons_succ] at B1
            rw [← HB'.out]; exact B1
          · have hh : (sHigh w3 == 32) = false := by unfold sHigh; split <;> simp [hf]
            have hb' := HB.out; rw [if_neg hf] at hb'
            have HB' := Lib.hid hb'
            clear hf hb'
            go_wp2
            go_meet
            refine ⟨?_, q0, hbb⟩
            rw [← HB'.out]; exact hg
        case rest =>
          obtain ⟨hg, q0, hbb⟩ := hcut
          have g4 := hg.cell 4
          simp only [List.getElem?_toArray, List.getElem?_cons_zero, List.getElem?_cons_succ] at g4
          go_upto_if 79 with (fail)
          go_cut [] (fun wx => Blk wx g #[.int .i64 (w1 % 1024 - 32), .int .i64 (w0 % 1024 - 64), .int .i64 (sCell w2 w3), .int .i64 (sWide w3), .int .i64 (sHigh w3), .int .i64 (w3 % 16), .bool (false), .bool (false), .bool (false)] 123 ∧ Blk wx (w.heap.size + 1) one0 123 ∧ Below w.heap.size w wx)
          case first =>
            have f2 := hg.free 2
            have g2 := hg.cell 2
            simp only [List.getElem?_toArray, List.getElem?_cons_zero, List.getElem?_cons_succ] at g2
            by_cases hf : w3 / 4096 % 4 = 0 ∨ w3 / 4096 % 4 = 1
            · have hh : (sHigh w3 == 64) = false := by unfold sHigh; rcases hf with hf | hf <;> simp [hf]
              have hc : sCell w2 w3 = cB := by
                have ha := HA.out; have hb := HB.out
                unfold sCell; simp only [ha]
                rcases hf with hf | hf
                · rw [if_pos hf]; rw [if_neg (by omega)] at hb; exact hb
                · rw [if_neg (by omega), if_pos hf]; rw [if_pos hf] at hb; exact hb
              have HC := Lib.hid hc
              clear hf hc
              go_wp2
              go_meet
              refine ⟨?_, q0, hbb⟩
              rw [HC.out]; exact hg
            · have hh : sHigh w3 = 64 := by unfold sHigh; rw [if_neg (by omega), if_neg (by omega)]
              rw [hh] at g4
              have hc : sCell w2 w3 = cB - cB / 2 % 4 * 2 := by
                have ha := HA.out; have hb := HB.out
                unfold sCell; simp only [ha]
                rw [if_neg (by omega), if_neg (by omega)]; rw [if_neg (by omega)] at hb; rw [hb]
              have HC := Lib.hid hc
              clear hf hc
              go_wp2
              go_meet
              refine ⟨?_, Blk.other q0 _ hne', hbb.setCell (by simp; omega) _⟩
              have B1 := hg.set (i := 2) (.int .i64 (cB - cB / 2 % 4 * 2))
              simp only [List.setIfInBounds_toArray, List.set_cons_zero, List.set_cons_succ] at B1
              rw [HC.out]; exact B1
          case rest =>
            obtain ⟨hg, q0, hbb⟩ := hcut
            have y1 : w3 % 65536 / 128 % 2 = w3 / 128 % 2 := by omega
            have y2 : w3 % 65536 / 2048 % 2 = w3 / 2048 % 2 := by omega
            have y3 : w3 % 65536 / 32768 = w3 / 32768 % 2 := by omega
            have f6 := hg.free 6; have f7 := hg.free 7; have f8 := hg.free 8
            have g6 := hg.cell 6; have g7 := hg.cell 7; have g8 := hg.cell 8
            simp only [List.getElem?_toArray, List.getElem?_cons_zero, List.getElem?_cons_succ] at g6 g7 g8
            have B1 := ((hg.set (i := 6) (.bool (w3 / 128 % 2 == 1))).set (i := 7) (.bool (w3 / 2048 % 2 == 1))).set (i := 8) (.bool (w3 / 32768 % 2 == 1))
            simp only [List.setIfInBounds_toArray, List.set_cons_zero, List.set_cons_succ] at B1
            rw [← oneV_of w0 w1 w2 w3 rfl] at B1
            have Z1 := ((q0.other (i := 6) (.bool (w3 / 128 % 2 == 1)) hne').other (i := 7) (.bool (w3 / 2048 % 2 == 1)) hne').other (i := 8) (.bool (w3 / 32768 % 2 == 1)) hne'
            have X1 := ((hbb.setCell (p := ⟨g, 6, none⟩) (by simp; omega) (.bool (w3 / 128 % 2 == 1))).setCell (p := ⟨g, 7, none⟩) (by simp; omega) (.bool (w3 / 2048 % 2 == 1))).setCell (p := ⟨g, 8, none⟩) (by simp; omega) (.bool (w3 / 32768 % 2 == 1))
            go_upto_region 17 with (fail)
            go_wp2_with (first
              | (refine wpList_load_row rfl 123 _ rfl g rfl 123 (oneV w0 w1 w2 w3) (0, 0) _ B1 Try.underlying123 rfl (by kernel_rfl) ?_)
              | (refine wpList_store_row rfl 123 _ _ rfl (w.heap.size + 1) (oneV w0 w1 w2 w3) rfl rfl 123 one0 Z1 (by kernel_rfl) rfl (oneV_one _ _ _ _) ?_))
            refine ret_row (g := w.heap.size + 1) (cs := oneV w0 w1 w2 w3) rfl rfl (Blk.setRow Z1 _) Try.underlying123 rfl (by kernel_rfl) rfl ?_
            exact ⟨rfl, below_setRow X1 (by omega) _⟩

end Go.Proofs.Ytlhnfllfankjhaa
