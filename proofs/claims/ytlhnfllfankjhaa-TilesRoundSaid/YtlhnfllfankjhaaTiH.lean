/- The walk of TilesEmpty. -/
import Derived.Test.YtlhnfllfankjhaaTiG
namespace Go.Proofs.Ytlhnfllfankjhaa
open Go Go.RowKit
set_option linter.unusedSimpArgs false
set_option linter.unusedVariables false
set_option maxRecDepth 100000

/-- The one word of a picture whose first cell is an empty tile. -/
def empty1 : List PokeV := [⟨0, 63487⟩]
theorem empty1_word (n : Int) : (madeOf empty1).word n = if n % 65536 = 0 then 63487 else 0 := by
  have hl : VS.new.W.length = 32768 := VS.Ok.new.len
  show (VS.new.poke 0 63487).word n = _
  by_cases h0 : n % 65536 = 0
  · rw [if_pos h0, VS.word_poke_eq _ hl 0 n 63487 (by omega), if_pos (by omega)]; rfl
  · rw [if_neg h0, VS.word_poke_ne _ _ _ _ (by omega)]; exact VS.word_new _
theorem pixV_zero (f : Int → Int) (cell q k : Int) (h0 : f (cell % 4096 * 16 + q % 8) = 0) (h1 : f (cell % 4096 * 16 + q % 8 + 8) = 0) : pixV f cell q k = 0 := by
  have hb : ∀ j, bitI 0 j = 0 := fun j => by unfold bitI; split <;> simp
  unfold pixV pixC
  rw [h0, h1, hb, hb]; rfl
theorem empty1_pixel (x : Int) (hx : 0 ≤ x ∧ x < 8) : pixel (madeOf empty1).word ⟨32, 32, 0, 0⟩ x 0 = 0 := by
  have hpx : ViewV.px ⟨32, 32, 0, 0⟩ x = x := by unfold ViewV.px; simp only; omega
  have hpy : ViewV.py ⟨32, 32, 0, 0⟩ 0 = 0 := by unfold ViewV.py; simp only; omega
  unfold pixel
  rw [if_pos (by unfold ViewV.Right; simp), hpx, hpy]
  simp only
  have h0 : (madeOf empty1).word (0 / 8 * 32 + x / 8) = 63487 := by rw [empty1_word, if_pos (by omega)]
  rw [h0]
  refine pixV_zero _ _ _ _ ?_ ?_
  · rw [empty1_word, if_neg (by decide)]
  · rw [empty1_word, if_neg (by decide)]
theorem empty1_at {w : World} {g : Nat} (h : Blk w g #[.int .i64 0, .int .i64 63487] 46) : PokesAt w (some ⟨g, 0, none⟩) empty1 := by
  intro i hi
  have hi2 : i < 1 := hi
  obtain rfl : i = 0 := by omega
  exact ⟨_, rfl, h.cell 0, h.cell 1⟩
theorem empty1_in : ∀ x ∈ empty1, x.In := by
  intro x hx
  simp [empty1] at hx
  subst hx; unfold PokeV.In; simp

set_option maxHeartbeats 2000000 in
theorem tilesEmpty_walk (a : Option Addr) (c : Nat) (xs : List PokeV) (v : ViewV) (y : Int) (w : World) (S : PokesAt w a xs) (hI : ∀ x ∈ xs, x.In) (hm : xs.length ≤ maxLen) :
    Calls Try.prog 11 #[.slice a xs.length c, v.val, .int .i64 y] w fun e w' => e = .returned (.bool true) ∧ Below w.heap.size w w' := by
  unfold ViewV.val
  have A4 := Blk.new w v.cells 42
  have B1 := (Below.refl w.heap.size w).alloc (Nat.le_refl _) (Obj.cells v.cells 42)
  go_enter Try.func11, Try.ntmps11
  go_wp2_with fail
  generalize w.alloc (Obj.cells v.cells 42) = w1 at *
  refine (law17_Made a c xs (S.below B1) hI hm).mono ?_; rintro e w2 ⟨p, g, q, h, rfl, T⟩
  replace A4 := Blk.below A4 T.below
  replace B1 := B1.trans (T.below.mono B1.size)
  clear S hI
  generalize hge : w.heap.size = ge at *
  go_wp2_with (refine wpList_load_row rfl 42 _ rfl ge rfl 42 v.cells (0, 0) _ A4 Try.underlying42 rfl t4v ?_)
  have hln := tiles_Line T.x.toWords v y 33 (by omega) (by omega)
  unfold ViewV.val at hln
  refine hln.mono ?_; rintro e w3 ⟨rfl, hL, b3⟩
  clear hln
  have hll := lineK_length (madeOf xs).word v y 33
  have hlk := nth_lineK (madeOf xs).word v y 33
  have hgl : w2.heap.size + 1 < w3.heap.size := Blk.lt hL
  generalize hgv : w2.heap.size + 1 = gL at *
  generalize lineK (madeOf xs).word v y 33 = L at *
  replace T := T.of_below b3
  replace A4 := Blk.below A4 b3
  have s1 := B1.size
  replace B1 := B1.trans (b3.mono (by omega))
  clear b3
  go_wp2_with fail
  go_loopw [10] (fun i wr => ∃ k : Nat, k ≤ 33 ∧ i = .int .i64 k ∧ Below w3.heap.size w3 wr) (fun i _ => 33 - (intOf i).toNat)
  case atStart => exact ⟨0, by omega, rfl, Below.refl _ _⟩
  case round =>
    obtain ⟨k, hk, rfl, hb⟩ := hrel
    by_cases hlt : k < 33
    · have d2 : decide ((k : Int) < 33) = true := by simp; omega
      have hT := T.of_below hb
      have hlk1 := hlk k hlt
      have hCC : ∀ wq, Below wr.heap.size wr wq → wq.cell? ⟨gL, k, none⟩ = some (.int .i64 (nth 0 L k)) := by
        intro wq hq
        have E4 : BlkL (Value.int .i64) wq gL L 3 := Blk.below (Blk.below hL hb) hq
        exact BlkL.at E4 (by omega)
      have hAA : ∀ wq, Below wr.heap.size wr wq → Blk wq ge v.cells 42 := fun wq hq => Blk.below (Blk.below A4 hb) hq
      have hPX : ∀ wq, Below wr.heap.size wr wq → Calls Try.prog 35 #[.pointer (some ⟨p, 0, none⟩), .agg v.cells, .int .i64 k, .int .i64 y] wq fun e w' => e = .returned (.int .i64 (nth 0 L k)) ∧ Below wq.heap.size wq w' := by
        intro wq hq
        have := tiles_Pixel (hT.of_below hq).x.toWords v k y
        rw [← hlk1] at this
        exact this
      have HCC := Lib.hid hCC
      have HAA := Lib.hid hAA
      have HPX := Lib.hid hPX
      have i1 : (k : Int) < 33 := by omega
      clear hCC hAA hPX hlk1
      generalize nth 0 L k = z at *
      go_wp2_with fail
      refine wp_region_under (by kernel_rfl) (by kernel_rfl) ?_
      iterate 5
        (refine wpQuiet_step (fun K hK => ?_)
         first
           | (refine hK _ ?_; clear hK K)
           | (apply Exists.intro
              refine ⟨fun wq hq => ?_, hK _ ?_⟩
              · have c0 := HCC.out wq hq
                go_simp
                first | exact ⟨rfl, rfl⟩ | exact rfl
              clear hK K)
         simp only [Act.put, List.setIfInBounds_toArray, List.set_cons_zero, List.set_cons_succ])
      refine wpQuiet_step (fun K hK => ?_)
      refine ⟨.agg v.cells, fun wq hq => quiet_load_row 42 _ rfl ge rfl 42 v.cells _ (HAA.out wq hq) Try.underlying42 rfl t4v, hK _ ?_⟩
      clear hK K
      simp only [Act.put, List.setIfInBounds_toArray, List.set_cons_zero, List.set_cons_succ]
      iterate 2
        (refine wpQuiet_step (fun K hK => ?_)
         first
           | (refine hK _ ?_; clear hK K)
           | (apply Exists.intro
              refine ⟨fun wq hq => ?_, hK _ ?_⟩
              · have c0 := HCC.out wq hq
                go_simp
                first | exact ⟨rfl, rfl⟩ | exact rfl
              clear hK K)
         simp only [Act.put, List.setIfInBounds_toArray, List.set_cons_zero, List.set_cons_succ])
      iterate 1
        (refine wpQuiet_step (fun K hK => ?_)
         first
           | (refine hK _ ?_; clear hK K)
           | (apply Exists.intro
              refine ⟨fun wq hq => ?_, hK _ ?_⟩
              · have c0 := HCC.out wq hq
                go_simp
                first | exact calls_under hq (HPX.out wq hq)
              clear hK K)
         simp only [Act.put, List.setIfInBounds_toArray, List.set_cons_zero, List.set_cons_succ])
      iterate 1
        (refine wpQuiet_step (fun K hK => ?_)
         first
           | (refine hK _ ?_; clear hK K)
           | (apply Exists.intro
              refine ⟨fun wq hq => ?_, hK _ ?_⟩
              · have c0 := HCC.out wq hq
                go_simp
                first | exact ⟨rfl, rfl⟩ | exact rfl
              clear hK K)
         simp only [Act.put, List.setIfInBounds_toArray, List.set_cons_zero, List.set_cons_succ])
      refine wpQuiet_nil ?_
      intro w7 hq7
      have hb7 := hb.trans (hq7.mono hb.size)
      have q4 : (z != z) = false := by simp
      go_wp2
      go_roundw
      case rel => exact ⟨k + 1, by omega, rfl, hb7⟩
      case measure => simp [intOf]; omega
    · obtain rfl : k = 33 := by omega
      have s1 := B1.size
      replace B1 := B1.trans (hb.mono (by omega))
      clear T hL hb A4
      go_wp2_with fail
      have Z := Blk.new wr #[Value.int .i64 0, Value.int .i64 63487] 46
      have bz := (Below.refl wr.heap.size wr).alloc (Nat.le_refl _) (Obj.cells #[Value.int .i64 0, Value.int .i64 63487] 46)
      have s1 := B1.size
      replace B1 := B1.trans (bz.mono (by omega))
      clear bz
      generalize hgz : wr.heap.size = gz at *
      generalize wr.alloc (Obj.cells #[Value.int .i64 0, Value.int .i64 63487] 46) = w4 at *
      refine (law17_Made (some ⟨gz, 0, none⟩) 1 empty1 (empty1_at Z) empty1_in (by decide)).mono ?_; rintro e w5 ⟨p', g', q', h', rfl, T'⟩
      have s1 := B1.size
      replace B1 := B1.trans (T'.below.mono (by omega))
      clear Z
      go_wp2_with fail
      have hln := tiles_Line T'.x.toWords ⟨32, 32, 0, 0⟩ 0 8 (by decide) (by decide)
      refine hln.mono ?_; rintro e w6 ⟨rfl, hF, b6⟩
      clear hln
      have hFk : ∀ k, k < 8 → w6.cell? ⟨w5.heap.size + 1, k, none⟩ = some (.int .i64 0) := fun k hk => by
        have := BlkL.at hF (i := k) (by rw [lineK_length]; exact hk)
        rw [nth_lineK _ _ _ _ _ hk, empty1_pixel _ (by omega)] at this
        exact this
      have HFk := Lib.hid hFk
      clear hF hFk
      have s1 := B1.size
      replace B1 := B1.trans (b6.mono (by omega))
      clear b6 T'
      rw [← hge] at B1
      generalize hgf : w5.heap.size + 1 = gF at *
      go_wp2_with fail
      go_loopw [14] (fun i wr => ∃ k : Nat, k ≤ 8 ∧ i = .int .i64 k ∧ w6 = wr) (fun i _ => 8 - (intOf i).toNat)
      case atStart => exact ⟨0, by omega, rfl, rfl⟩
      case round =>
        obtain ⟨k, hk, rfl, rfl⟩ := hrel
        by_cases hlt : k < 8
        · have d2 : decide ((k : Int) < 8) = true := by simp; omega
          have i1 : (k : Int) < 8 := by omega
          have c0 := HFk.out k hlt
          go_wp2
          go_roundw
          case rel => exact ⟨k + 1, by omega, rfl, trivial⟩
          case measure => simp [intOf]; omega
        · obtain rfl : k = 8 := by omega
          go_wp2
          go_ret
          exact ⟨rfl, B1⟩
end Go.Proofs.Ytlhnfllfankjhaa
