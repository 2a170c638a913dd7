/- The walk of TilesPalette. -/
import Derived.Test.YtlhnfllfankjhaaTiE
namespace Go.Proofs.Ytlhnfllfankjhaa
open Go Go.RowKit
set_option linter.unusedSimpArgs false
set_option linter.unusedVariables false
set_option maxRecDepth 100000

theorem pixel_range {w : World} {pv : Value} {f : Int → Int} (hW : Words w pv f) (v : ViewV) (x y : Int) : 0 ≤ pixel f v x y ∧ pixel f v x y < 256 := by
  unfold pixel
  split
  · exact pixV_range f _ _ _ (hW.range _)
  · omega
theorem palette_pixel {V V0 : VS} (hV : V.W.length = 32768) (ht : ∀ n : Int, n % 65536 ≠ 0 → V.word n = V0.word n) (k cell x : Int) (hk : 0 ≤ k ∧ k < 16) (hc : 1 ≤ cell ∧ cell < 4096) (hx : 0 ≤ x ∧ x < 8) :
    pixel (V.poke 0 (k * 4096 + cell)).word ⟨32, 32, 0, 0⟩ x 0 = if pixC V0.word cell 0 (7 - x) = 0 then 0 else k * 16 + pixC V0.word cell 0 (7 - x) := by
  have hpx : ViewV.px ⟨32, 32, 0, 0⟩ x = x := by unfold ViewV.px; simp only; omega
  have hpy : ViewV.py ⟨32, 32, 0, 0⟩ 0 = 0 := by unfold ViewV.py; simp only; omega
  have h0 : (V.poke 0 (k * 4096 + cell)).word (0 / 8 * 32 + x / 8) = k * 4096 + cell := by
    rw [VS.word_poke_eq V hV 0 _ _ (by omega), if_pos (by omega)]; omega
  have hw : ∀ n : Int, n % 65536 ≠ 0 → (V.poke 0 (k * 4096 + cell)).word n = V0.word n := fun n hn => by
    rw [VS.word_poke_ne _ _ _ _ (by omega), ht n hn]
  unfold pixel
  rw [if_pos (by unfold ViewV.Right; simp), hpx, hpy]
  simp only
  rw [h0, show x % 8 = x by omega]
  have e4 : (k * 4096 + cell) % 4096 = cell % 4096 := by omega
  have e5 : (k * 4096 + cell) / 4096 = k := by omega
  unfold pixV
  have hC : pixC (V.poke 0 (k * 4096 + cell)).word (k * 4096 + cell) 0 (7 - x) = pixC V0.word cell 0 (7 - x) := by
    unfold pixC
    rw [e4, hw (cell % 4096 * 16 + 0 % 8) (by omega), hw (cell % 4096 * 16 + 0 % 8 + 8) (by omega)]
  rw [hC, e5]

set_option maxHeartbeats 2000000 in
theorem tilesPalette_walk (a : Option Addr) (c : Nat) (xs : List PokeV) (cell0 at0 : Int) (w : World) (S : PokesAt w a xs) (hI : ∀ x ∈ xs, x.In) (hm : xs.length ≤ maxLen) :
    Calls Try.prog 8 #[.slice a xs.length c, .int .i64 cell0, .int .i64 at0] w fun e w' => e = .returned (.bool true) ∧ Below w.heap.size w w' := by
  go_enter Try.func8, Try.ntmps8
  go_wp2_with fail
  refine (law17_Made a c xs S hI hm).mono ?_; rintro e w2 ⟨p, g, q, h, rfl, T⟩
  clear S hI
  generalize hcell : cell0 % 4096 = cell at *
  generalize hat : at0 % 8 = x at *
  have c0 : 0 ≤ cell ∧ cell < 4096 := by omega
  have x0 : 0 ≤ x ∧ x < 8 := by omega
  clear hcell hat
  have Z := Blk.new w2 #[Value.int .i64 0, Value.int .i64 0, Value.int .i64 0, Value.int .i64 0] 42
  go_wp2_with (first
    | (refine wpList_store_row rfl 42 _ _ rfl w2.heap.size #[Value.int .i64 32, Value.int .i64 32, Value.int .i64 0, Value.int .i64 0] rfl rfl 42 _ Z (by kernel_rfl) rfl (by simp [Value.oneCell']) ?_))
  have hx0 : VAt 69 ((w2.alloc (Obj.cells #[Value.int .i64 0, Value.int .i64 0, Value.int .i64 0, Value.int .i64 0] 42)).setRow w2.heap.size #[Value.int .i64 32, Value.int .i64 32, Value.int .i64 0, Value.int .i64 0]) p g (madeOf xs) :=
    (T.x.below ((Below.refl _ _).alloc (Nat.le_refl _) _)).setRow _ (by have := T.x.lt; omega) (by have := T.x.lt; omega)
  have A0 := Blk.setRow Z #[Value.int .i64 32, Value.int .i64 32, Value.int .i64 0, Value.int .i64 0]
  have s2 := T.below.size
  have B0 := below_setRow (T.below.alloc s2 (Obj.cells #[Value.int .i64 0, Value.int .i64 0, Value.int .i64 0, Value.int .i64 0] 42)) s2 #[Value.int .i64 32, Value.int .i64 32, Value.int .i64 0, Value.int .i64 0]
  have hpg := T.x.lt
  have bp := T.bp
  have bg := T.bg
  generalize hV0 : madeOf xs = V0 at *
  clear Z T hV0
  generalize hgb : w2.heap.size = gb at *
  generalize ((w2.alloc (Obj.cells #[Value.int .i64 0, Value.int .i64 0, Value.int .i64 0, Value.int .i64 0] 42)).setRow gb #[Value.int .i64 32, Value.int .i64 32, Value.int .i64 0, Value.int .i64 0]) = w3 at *
  have hpix := fun (V : VS) (hV : V.W.length = 32768) (ht : ∀ n : Int, n % 65536 ≠ 0 → V.word n = V0.word n) (k : Int) (hk : 0 ≤ k ∧ k < 16) (hc : 1 ≤ cell ∧ cell < 4096) => palette_pixel hV ht k cell x hk hc x0
  have rC := pixC_range V0.word cell 0 (7 - x)
  generalize pixC V0.word cell 0 (7 - x) = C at *
  have HP := Lib.hid hpix
  clear hpix hgb
  go_loopw [10, 11] (fun fs i wr => ∃ k : Nat, k ≤ 16 ∧ i = .int .i64 k ∧ ∃ F : Int, fs = .int .i64 F ∧ Hid (F = if k = 0 then -1 else C) ∧ ∃ V, VAt 69 wr p g V ∧ Hid (∀ n : Int, n % 65536 ≠ 0 → V.word n = V0.word n) ∧ Blk wr gb #[Value.int .i64 32, Value.int .i64 32, Value.int .i64 0, Value.int .i64 0] 42 ∧ Below w.heap.size w wr) (fun _ i _ => 16 - (intOf i).toNat)
  case atStart => exact ⟨0, by omega, rfl, -1, rfl, Lib.hid rfl, V0, hx0, Lib.hid (fun _ _ => rfl), A0, B0⟩
  case round =>
    clear hx0 A0 B0
    obtain ⟨k, hk, rfl, F, rfl, hF, V, hv, hV, A, B⟩ := hrel
    by_cases hlt : k < 16
    · have d1 : decide ((k : Int) < 16) = true := by simp; omega
      have hor : bits .or .i64 ((k : Int) * 4096) cell = (k : Int) * 4096 + cell := or_join64 12 _ _ (by omega) (by omega) c0.1 (by simp; omega) (by omega) (by simp)
      go_wp2_with fail
      refine (vram_Poke hv 0 _).mono ?_; rintro e w4 ⟨rfl, hv4, t4⟩
      have A4 := A.tr t4 (by simp; omega)
      have B4 := Tr.below B t4 (Nat.le_refl _) (by simp; exact bg)
      have hV4 : Hid (∀ n : Int, n % 65536 ≠ 0 → (V.poke 0 ((k : Int) * 4096 + cell)).word n = V0.word n) := Lib.hid fun n hn => by
        rw [VS.word_poke_ne _ _ _ _ (by omega), hV.out n hn]
      go_wp2_with (refine wpList_load_row rfl 42 _ rfl gb rfl 42 _ (0, 0) _ A4 Try.underlying42 rfl (by kernel_rfl) ?_)
      refine (tiles_Pixel hv4.toWords ⟨32, 32, 0, 0⟩ x 0).mono ?_; rintro e w5 ⟨rfl, b5⟩
      have hv5 := hv4.below b5
      have A5 := Blk.below A4 b5
      have B5 := B4.trans (b5.mono B4.size)
      have rp := pixel_range hv4.toWords ⟨32, 32, 0, 0⟩ x 0
      by_cases hcell : cell = 0
      · have hcb : (cell == 0) = true := by simpa using hcell
        generalize pixel (V.poke 0 ((k : Int) * 4096 + cell)).word ⟨32, 32, 0, 0⟩ x 0 = P at *
        clear hv hv4 hv5 hV hV4 hor HP
        go_wp2
        go_ret
        exact ⟨rfl, B5⟩
      · have hpe := HP.out V hv.ok.len hV.out k (by omega) (by omega)
        rw [hpe]
        have hcb : (cell == 0) = false := by simpa using hcell
        clear hpe rp hv hv4 hV hor HP
        by_cases hC : C = 0
        · rw [if_pos hC]
          subst hC
          by_cases hk0 : k = 0
          · subst hk0
            obtain rfl : F = -1 := by rw [hF.out, if_pos rfl]
            go_wp2
            go_roundw
            case rel => exact ⟨1, by omega, rfl, _, rfl, Lib.hid (by simp), _, hv5, hV4, A5, B5⟩
            case measure => simp [intOf]
          · have hF1 := hF.out
            rw [if_neg hk0] at hF1
            subst hF1
            go_wp2
            go_roundw
            case rel => exact ⟨k + 1, by omega, rfl, _, rfl, Lib.hid (by rw [if_neg (by omega)]), _, hv5, hV4, A5, B5⟩
            case measure => simp [intOf]; omega
        · rw [if_neg hC]
          have q1 : ((k : Int) * 16 + C) % 16 = C := by omega
          have q2 : ((k : Int) * 16 + C) / 16 = k := by omega
          have q3 : ((k : Int) * 16 + C != 0) = true := by simp; omega
          have q4 : (C != C) = false := by simp
          have q5 : ((k : Int) != k) = false := by simp
          have q6 : decide (C < 0) = false := by simp; omega
          by_cases hk0 : k = 0
          · subst hk0
            obtain rfl : F = -1 := by rw [hF.out, if_pos rfl]
            have q7 : C % 16 = C := by omega
            have q8 : C / 16 = 0 := by omega
            have q9 : (C != 0) = true := by simpa using hC
            clear q1 q2 q3 q5
            go_wp2
            go_roundw
            case rel => exact ⟨1, by omega, rfl, _, rfl, Lib.hid (by simp), _, hv5, hV4, A5, B5⟩
            case measure => simp [intOf]
          · have hF1 := hF.out
            rw [if_neg hk0] at hF1
            subst hF1
            go_wp2
            go_roundw
            case rel => exact ⟨k + 1, by omega, rfl, _, rfl, Lib.hid (by rw [if_neg (by omega)]), _, hv5, hV4, A5, B5⟩
            case measure => simp [intOf]; omega
    · obtain rfl : k = 16 := by omega
      clear HP
      go_wp2_with fail
      have Z := Blk.new wr #[Value.int .i64 0, Value.int .i64 12289, Value.int .i64 16, Value.int .i64 32896] 46
      have bz := (Below.refl wr.heap.size wr).alloc (Nat.le_refl _) (Obj.cells #[Value.int .i64 0, Value.int .i64 12289, Value.int .i64 16, Value.int .i64 32896] 46)
      replace A := Blk.below A bz
      replace B := B.trans (bz.mono B.size)
      clear bz hv hV
      generalize hgz : wr.heap.size = gz at *
      generalize wr.alloc (Obj.cells #[Value.int .i64 0, Value.int .i64 12289, Value.int .i64 16, Value.int .i64 32896] 46) = w4 at *
      refine (law17_Made (some ⟨gz, 0, none⟩) 2 small2 (small2_at Z) small2_in (by decide)).mono ?_; rintro e w5 ⟨p', g', q', h', rfl, T'⟩
      replace A := Blk.below A T'.below
      replace B := B.trans (T'.below.mono B.size)
      clear Z hgz
      go_wp2_with (refine wpList_load_row rfl 42 _ rfl gb rfl 42 _ (0, 0) _ A Try.underlying42 rfl (by kernel_rfl) ?_)
      have hp := tiles_Pixel T'.x.toWords ⟨32, 32, 0, 0⟩ 0 0
      rw [small2_pixel 0 0 rfl rfl] at hp
      refine hp.mono ?_; rintro e w6 ⟨rfl, b6⟩
      clear hp
      replace B := B.trans (b6.mono B.size)
      go_wp2
      go_ret
      exact ⟨rfl, B⟩
end Go.Proofs.Ytlhnfllfankjhaa
