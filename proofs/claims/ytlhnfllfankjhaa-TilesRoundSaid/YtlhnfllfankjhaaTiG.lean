/- The walk of TilesLine. -/
import Derived.Test.YtlhnfllfankjhaaTiE
namespace Go.Proofs.Ytlhnfllfankjhaa
open Go Go.RowKit
set_option linter.unusedSimpArgs false
set_option linter.unusedVariables false
set_option maxRecDepth 100000

/-- A line that is none. -/
theorem tiles_Line_no {w : World} {pv : Value} (v : ViewV) (y n : Int) (hn : n < 1 ∨ 512 < n) : Calls Try.prog 37 #[pv, v.val, .int .i64 y, .int .i64 n] w fun e w' =>
    e = .returned (.slice none 0 0) ∧ Below w.heap.size w w' := by
  have B1 := (Below.refl w.heap.size w).alloc (Nat.le_refl _) (Obj.cells v.cells 42)
  unfold ViewV.val
  by_cases h1 : n < 1
  · have d0 : decide (n < 1) = true := by simpa using h1
    clear hn
    generalize v.cells = vc at *
    go_enter Try.func37, Try.ntmps37
    go_wp2
    go_ret
    exact ⟨rfl, B1⟩
  · have d0 : decide (n < 1) = false := by simpa using h1
    have h2 : 512 < n := by omega
    clear hn
    generalize v.cells = vc at *
    go_enter Try.func37, Try.ntmps37
    go_wp2
    go_ret
    exact ⟨rfl, B1⟩

set_option maxHeartbeats 2000000 in
theorem tilesLine_walk (a : Option Addr) (c : Nat) (xs : List PokeV) (v : ViewV) (y n : Int) (w : World) (S : PokesAt w a xs) (hI : ∀ x ∈ xs, x.In) (hm : xs.length ≤ maxLen) (hy : -9223372036854775808 ≤ y ∧ y ≤ 9223372036854775807)
    (hvx : -9223372036854775808 ≤ v.x ∧ v.x ≤ 9223372036854775807) (hvy : -9223372036854775808 ≤ v.y ∧ v.y ≤ 9223372036854775807) :
    Calls Try.prog 9 #[.slice a xs.length c, v.val, .agg #[.int .i64 y, .int .i64 n]] w fun e w' => e = .returned (.bool true) ∧ Below w.heap.size w w' := by
  unfold ViewV.val
  have A4 := Blk.alloc (Blk.new w v.cells 42) (Obj.cells #[Value.int .i64 y, Value.int .i64 n] 29)
  have A5 := Blk.new' (w.alloc (Obj.cells v.cells 42)) #[Value.int .i64 y, Value.int .i64 n] 29 (n := w.heap.size + 1) (by simp)
  have B1 := ((Below.refl w.heap.size w).alloc (Nat.le_refl _) (Obj.cells v.cells 42)).alloc (by simp) (Obj.cells #[Value.int .i64 y, Value.int .i64 n] 29)
  go_enter Try.func9, Try.ntmps9
  go_wp2_with fail
  generalize (w.alloc (Obj.cells v.cells 42)).alloc (Obj.cells #[Value.int .i64 y, Value.int .i64 n] 29) = w1 at *
  refine (law17_Made a c xs (S.below B1) hI hm).mono ?_; rintro e w2 ⟨p, g, q, h, rfl, T⟩
  replace A4 := Blk.below A4 T.below
  replace A5 := Blk.below A5 T.below
  replace B1 := B1.trans (T.below.mono B1.size)
  clear S hI
  have k0 := A5.cell 0
  have k1 := A5.cell 1
  simp only [List.getElem?_toArray, List.getElem?_cons_zero, List.getElem?_cons_succ] at k0 k1
  have hsz : v.cells.size = 4 := rfl
  generalize hge : w.heap.size = ge at *
  go_wp2_with (refine wpList_load_row rfl 42 _ rfl ge rfl 42 v.cells (0, 0) _ A4 Try.underlying42 rfl t4v ?_)
  by_cases hn : 1 ≤ n ∧ n ≤ 512
  · obtain ⟨m, rfl⟩ : ∃ m : Nat, n = m := ⟨n.toNat, by omega⟩
    have hln := tiles_Line T.x.toWords v y m (by omega) (by omega)
    unfold ViewV.val at hln
    refine hln.mono ?_; rintro e w3 ⟨rfl, hL, b3⟩
    clear hln
    have hll := lineK_length (madeOf xs).word v y m
    have hlk := nth_lineK (madeOf xs).word v y m
    have hgl : w2.heap.size + 1 < w3.heap.size := Blk.lt hL
    generalize hgv : w2.heap.size + 1 = gL at *
    generalize lineK (madeOf xs).word v y m = L at *
    replace T := T.of_below b3
    replace A4 := Blk.below A4 b3
    replace A5 := Blk.below A5 b3
    have s1 := B1.size
    replace B1 := B1.trans (b3.mono (by omega))
    clear b3 k0 k1
    go_wp2_with fail
    have Z := Blk.new w3 #[Value.int .i64 0, Value.int .i64 12289, Value.int .i64 16, Value.int .i64 32896] 46
    have bz := (Below.refl w3.heap.size w3).alloc (Nat.le_refl _) (Obj.cells #[Value.int .i64 0, Value.int .i64 12289, Value.int .i64 16, Value.int .i64 32896] 46)
    replace T := T.of_below bz
    replace A4 := Blk.below A4 bz
    replace A5 := Blk.below A5 bz
    replace hL : BlkL (Value.int .i64) _ gL L 3 := Blk.below hL bz
    have s1 := B1.size
    replace B1 := B1.trans (bz.mono (by omega))
    clear bz
    generalize hgz : w3.heap.size = gz at *
    generalize w3.alloc (Obj.cells #[Value.int .i64 0, Value.int .i64 12289, Value.int .i64 16, Value.int .i64 32896] 46) = w4 at *
    refine (law17_Made (some ⟨gz, 0, none⟩) 2 small2 (small2_at Z) small2_in (by decide)).mono ?_; rintro e w5 ⟨p', g', q', h', rfl, T'⟩
    replace T := T.of_below T'.below
    replace A4 := Blk.below A4 T'.below
    replace A5 := Blk.below A5 T'.below
    replace hL : BlkL (Value.int .i64) _ gL L 3 := Blk.below hL T'.below
    have s1 := B1.size
    replace B1 := B1.trans (T'.below.mono (by omega))
    clear Z
    go_wp2_with fail
    have hln := tiles_Line T'.x.toWords ⟨32, 32, 0, 0⟩ 0 1 (by decide) (by decide)
    refine hln.mono ?_; rintro e w6 ⟨rfl, hF, b6⟩
    clear hln
    have hF0 := BlkL.at hF (i := 0) (by rw [lineK_length]; decide)
    rw [nth_lineK _ _ _ _ _ (by decide), small2_pixel _ _ rfl rfl] at hF0
    clear hF
    replace T := T.of_below b6
    replace A4 := Blk.below A4 b6
    replace A5 := Blk.below A5 b6
    replace hL : BlkL (Value.int .i64) _ gL L 3 := Blk.below hL b6
    have s1 := B1.size
    replace B1 := B1.trans (b6.mono (by omega))
    clear b6 T'
    have k0 := A5.cell 0
    have k1 := A5.cell 1
    simp only [List.getElem?_toArray, List.getElem?_cons_zero, List.getElem?_cons_succ] at k0 k1
    generalize hgf : w5.heap.size + 1 = gF at *
    have d0 : decide ((m : Int) < 1) = false := by simp; omega
    have d1 : decide ((512 : Int) < (m : Int)) = false := by simp; omega
    go_wp2_with fail
    clear k0 k1 hF0 hgf
    go_loopw [13] (fun i wr => ∃ k : Nat, k ≤ m ∧ i = .int .i64 k ∧ Below w6.heap.size w6 wr) (fun i _ => m - (intOf i).toNat)
    case atStart => exact ⟨0, by omega, rfl, Below.refl _ _⟩
    case round =>
      obtain ⟨k, hk, rfl, hb⟩ := hrel
      by_cases hlt : k < m
      · have d2 : decide ((k : Int) < (m : Int)) = true := by simpa using hlt
        have hT := T.of_below hb
        have hlk1 := hlk k hlt
        have hCC : ∀ wq, Below wr.heap.size wr wq → wq.cell? ⟨gL, k, none⟩ = some (.int .i64 (nth 0 L k)) ∧ wq.cell? ⟨ge + 1, 0, none⟩ = some (.int .i64 y) := by
          intro wq hq
          have E4 : BlkL (Value.int .i64) wq gL L 3 := Blk.below (Blk.below hL hb) hq
          have E5 := Blk.below (Blk.below A5 hb) hq
          exact ⟨BlkL.at E4 (by omega), E5.cell 0⟩
        have hAA : ∀ wq, Below wr.heap.size wr wq → Blk wq ge v.cells 42 := fun wq hq => Blk.below (Blk.below A4 hb) hq
        have hPX : ∀ wq, Below wr.heap.size wr wq → Calls Try.prog 36 #[.pointer (some ⟨q, 0, none⟩), .agg v.cells, .int .i64 k, .int .i64 y] wq fun e w' => e = .returned (.int .i64 (nth 0 L k)) ∧ Below wq.heap.size wq w' := by
          intro wq hq
          have := ref17_Pixel (hT.of_below hq).y v k y (by omega) hy hvx hvy
          rw [← hlk1] at this
          exact this
        have HCC := Lib.hid hCC
        have HAA := Lib.hid hAA
        have HPX := Lib.hid hPX
        have i1 : (k : Int) < (m : Int) := by omega
        clear hCC hAA hPX hlk1
        generalize nth 0 L k = z at *
        go_wp2_with fail
        refine wp_region_under (by kernel_rfl) (by kernel_rfl) ?_
        iterate 5
          (refine wpQuiet_step (fun K hK => ?_)
           first
             | (refine hK _ ?_; clear hK K)
             | (apply Exists.intro
                refine ⟨fun wq hq => ?_, hK _ ?_⟩
                · obtain ⟨c0, c1⟩ := HCC.out wq hq
                  go_simp
                  first | exact ⟨rfl, rfl⟩ | exact rfl
                clear hK K)
           simp only [Act.put, List.setIfInBounds_toArray, List.set_cons_zero, List.set_cons_succ])
        refine wpQuiet_step (fun K hK => ?_)
        refine ⟨.agg v.cells, fun wq hq => quiet_load_row 42 _ rfl ge rfl 42 v.cells _ (HAA.out wq hq) Try.underlying42 rfl t4v, hK _ ?_⟩
        clear hK K
        simp only [Act.put, List.setIfInBounds_toArray, List.set_cons_zero, List.set_cons_succ]
        iterate 3
          (refine wpQuiet_step (fun K hK => ?_)
           first
             | (refine hK _ ?_; clear hK K)
             | (apply Exists.intro
                refine ⟨fun wq hq => ?_, hK _ ?_⟩
                · obtain ⟨c0, c1⟩ := HCC.out wq hq
                  go_simp
                  first | exact ⟨rfl, rfl⟩ | exact rfl
                clear hK K)
           simp only [Act.put, List.setIfInBounds_toArray, List.set_cons_zero, List.set_cons_succ])
        iterate 1
          (refine wpQuiet_step (fun K hK => ?_)
           first
             | (refine hK _ ?_; clear hK K)
             | (apply Exists.intro
                refine ⟨fun wq hq => ?_, hK _ ?_⟩
                · obtain ⟨c0, c1⟩ := HCC.out wq hq
                  go_simp
                  first | exact calls_under hq (HPX.out wq hq)
                clear hK K)
           simp only [Act.put, List.setIfInBounds_toArray, List.set_cons_zero, List.set_cons_succ])
        iterate 1
          (refine wpQuiet_step (fun K hK => ?_)
           first
             | (refine hK _ ?_; clear hK K)
             | (apply Exists.intro
                refine ⟨fun wq hq => ?_, hK _ ?_⟩
                · obtain ⟨c0, c1⟩ := HCC.out wq hq
                  go_simp
                  first | exact ⟨rfl, rfl⟩ | exact rfl
                clear hK K)
           simp only [Act.put, List.setIfInBounds_toArray, List.set_cons_zero, List.set_cons_succ])
        refine wpQuiet_nil ?_
        intro w7 hq7
        have hb7 := hb.trans (hq7.mono hb.size)
        have q4 : (z != z) = false := by simp
        go_wp2
        go_roundw
        case rel => exact ⟨k + 1, by omega, rfl, hb7⟩
        case measure => simp [intOf]; omega
      · obtain rfl : k = m := by omega
        have s1 := B1.size
        have B5 := B1.trans (hb.mono (by omega))
        rw [← hge] at B5
        have d2 : decide ((k : Int) < (k : Int)) = false := by simp
        go_wp2
        go_ret
        exact ⟨rfl, B5⟩
  · have hn2 : n < 1 ∨ 512 < n := by omega
    have hln := tiles_Line_no (w := w2) (pv := .pointer (some ⟨p, 0, none⟩)) v y n hn2
    unfold ViewV.val at hln
    refine hln.mono ?_; rintro e w3 ⟨rfl, b3⟩
    clear hln hn
    replace A5 := Blk.below A5 b3
    have s1 := B1.size
    replace B1 := B1.trans (b3.mono (by omega))
    clear b3 k0 k1 A4 T
    go_wp2_with fail
    have Z := Blk.new w3 #[Value.int .i64 0, Value.int .i64 12289, Value.int .i64 16, Value.int .i64 32896] 46
    have bz := (Below.refl w3.heap.size w3).alloc (Nat.le_refl _) (Obj.cells #[Value.int .i64 0, Value.int .i64 12289, Value.int .i64 16, Value.int .i64 32896] 46)
    replace A5 := Blk.below A5 bz
    have s1 := B1.size
    replace B1 := B1.trans (bz.mono (by omega))
    clear bz
    generalize hgz : w3.heap.size = gz at *
    generalize w3.alloc (Obj.cells #[Value.int .i64 0, Value.int .i64 12289, Value.int .i64 16, Value.int .i64 32896] 46) = w4 at *
    refine (law17_Made (some ⟨gz, 0, none⟩) 2 small2 (small2_at Z) small2_in (by decide)).mono ?_; rintro e w5 ⟨p', g', q', h', rfl, T'⟩
    replace A5 := Blk.below A5 T'.below
    have s1 := B1.size
    replace B1 := B1.trans (T'.below.mono (by omega))
    clear Z
    go_wp2_with fail
    have hln := tiles_Line T'.x.toWords ⟨32, 32, 0, 0⟩ 0 1 (by decide) (by decide)
    refine hln.mono ?_; rintro e w6 ⟨rfl, hF, b6⟩
    clear hln
    have hF0 := BlkL.at hF (i := 0) (by rw [lineK_length]; decide)
    rw [nth_lineK _ _ _ _ _ (by decide), small2_pixel _ _ rfl rfl] at hF0
    clear hF
    replace A5 := Blk.below A5 b6
    have s1 := B1.size
    replace B1 := B1.trans (b6.mono (by omega))
    clear b6 T'
    rw [← hge] at B1
    have k0 := A5.cell 0
    have k1 := A5.cell 1
    simp only [List.getElem?_toArray, List.getElem?_cons_zero, List.getElem?_cons_succ] at k0 k1
    generalize hgf : w5.heap.size + 1 = gF at *
    rcases (show n < 1 ∨ (¬ n < 1 ∧ 512 < n) by omega) with d0 | ⟨d0, d1⟩
    all_goals
      go_wp2
      go_ret
      exact ⟨rfl, B1⟩
end Go.Proofs.Ytlhnfllfankjhaa
