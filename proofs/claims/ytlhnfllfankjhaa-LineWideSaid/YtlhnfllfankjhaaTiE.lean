/- The walk of TilesPixel. -/
import Derived.Test.YtlhnfllfankjhaaMade
import Derived.Test.YtlhnfllfankjhaaQb
namespace Go.Proofs.Ytlhnfllfankjhaa
open Go Go.RowKit
set_option linter.unusedSimpArgs false
set_option linter.unusedVariables false
set_option maxRecDepth 100000

/-- Two words of the statements' small picture. -/
def small2 : List PokeV := [⟨0, 12289⟩, ⟨16, 32896⟩]
theorem small2_word (n : Int) : (madeOf small2).word n = if n % 65536 = 0 then 12289 else if n % 65536 = 16 then 32896 else 0 := by
  have hl : VS.new.W.length = 32768 := VS.Ok.new.len
  have h1 := (VS.Ok.new.poke 0 12289).len
  show ((VS.new.poke 0 12289).poke 16 32896).word n = _
  by_cases h0 : n % 65536 = 0
  · rw [if_pos h0, VS.word_poke_ne _ _ _ _ (by omega), VS.word_poke_eq _ hl 0 n 12289 (by omega), if_pos (by omega)]; rfl
  · rw [if_neg h0]
    by_cases h6 : n % 65536 = 16
    · rw [if_pos h6, VS.word_poke_eq _ h1 16 n 32896 (by omega), if_pos (by omega)]; rfl
    · rw [if_neg h6, VS.word_poke_ne _ _ _ _ (by omega), VS.word_poke_ne _ _ _ _ (by omega)]; exact VS.word_new _
theorem small2_pixel (x y : Int) (hx : x % 256 = 0) (hy : y % 256 = 0) : pixel (madeOf small2).word ⟨32, 32, 0, 0⟩ x y = 51 := by
  have hpx : ViewV.px ⟨32, 32, 0, 0⟩ x = 0 := by unfold ViewV.px; simp only; omega
  have hpy : ViewV.py ⟨32, 32, 0, 0⟩ y = 0 := by unfold ViewV.py; simp only; omega
  have e0 : (madeOf small2).word 0 = 12289 := by rw [small2_word]; rfl
  have e1 : (madeOf small2).word 16 = 32896 := by rw [small2_word]; rfl
  have e2 : (madeOf small2).word 24 = 0 := by rw [small2_word]; rfl
  unfold pixel
  rw [if_pos (by unfold ViewV.Right; simp), hpx, hpy]
  simp only [Int.zero_ediv, Int.zero_mul, Int.add_zero, Int.zero_emod, Int.sub_zero, e0]
  unfold pixV pixC
  simp only [Int.zero_emod, Int.add_zero]
  rw [show (12289 : Int) % 4096 * 16 = 16 from rfl, show (16 : Int) + 8 = 24 from rfl, e1, e2]
  decide

/-- The two words, as a slice of the call's own. -/
theorem small2_at {w : World} {g : Nat} (h : Blk w g #[.int .i64 0, .int .i64 12289, .int .i64 16, .int .i64 32896] 46) : PokesAt w (some ⟨g, 0, none⟩) small2 := by
  intro i hi
  have hi2 : i < 2 := hi
  rcases (show i = 0 ∨ i = 1 by omega) with rfl | rfl
  · exact ⟨_, rfl, h.cell 0, h.cell 1⟩
  · exact ⟨_, rfl, h.cell 2, h.cell 3⟩
theorem small2_in : ∀ x ∈ small2, x.In := by
  intro x hx
  simp [small2] at hx
  rcases hx with rfl | rfl <;> unfold PokeV.In <;> simp

set_option maxHeartbeats 4000000 in
theorem tilesPixel_walk (a : Option Addr) (c : Nat) (xs : List PokeV) (v : ViewV) (x y : Int) (w : World) (S : PokesAt w a xs) (hI : ∀ x ∈ xs, x.In) (hm : xs.length ≤ maxLen) (hx : -9223372036854775808 ≤ x ∧ x ≤ 9223372036854775807) (hy : -9223372036854775808 ≤ y ∧ y ≤ 9223372036854775807)
    (hvx : -9223372036854775808 ≤ v.x ∧ v.x ≤ 9223372036854775807) (hvy : -9223372036854775808 ≤ v.y ∧ v.y ≤ 9223372036854775807) :
    Calls Try.prog 7 #[.slice a xs.length c, v.val, .agg #[.int .i64 x, .int .i64 y]] w fun e w' => e = .returned (.bool true) ∧ Below w.heap.size w w' := by
  obtain ⟨wd, hg, vx, vy⟩ := v
  unfold ViewV.val ViewV.cells
  simp only at hvx hvy ⊢
  go_enter Try.func7, Try.ntmps7
  go_wp2_with fail
  have A4 := Blk.alloc (Blk.new w #[Value.int .i64 wd, Value.int .i64 hg, Value.int .i64 vx, Value.int .i64 vy] 42) (Obj.cells #[Value.int .i64 x, Value.int .i64 y] 29)
  have A5 := Blk.new' (w.alloc (Obj.cells #[Value.int .i64 wd, Value.int .i64 hg, Value.int .i64 vx, Value.int .i64 vy] 42)) #[Value.int .i64 x, Value.int .i64 y] 29 (n := w.heap.size + 1) (by simp)
  have B1 := ((Below.refl w.heap.size w).alloc (Nat.le_refl _) (Obj.cells #[Value.int .i64 wd, Value.int .i64 hg, Value.int .i64 vx, Value.int .i64 vy] 42)).alloc (by simp) (Obj.cells #[Value.int .i64 x, Value.int .i64 y] 29)
  generalize (w.alloc (Obj.cells #[Value.int .i64 wd, Value.int .i64 hg, Value.int .i64 vx, Value.int .i64 vy] 42)).alloc (Obj.cells #[Value.int .i64 x, Value.int .i64 y] 29) = w1 at *
  refine (law17_Made a c xs (S.below B1) hI hm).mono ?_; rintro e w2 ⟨p, g, q, h, rfl, T⟩
  replace A4 := Blk.below A4 T.below
  replace A5 := Blk.below A5 T.below
  replace B1 := B1.trans (T.below.mono B1.size)
  clear S hI
  go_wp2_with fail
  have Z := Blk.new w2 #[Value.int .i64 0, Value.int .i64 12289, Value.int .i64 16, Value.int .i64 32896] 46
  have bz := (Below.refl w2.heap.size w2).alloc (Nat.le_refl _) (Obj.cells #[Value.int .i64 0, Value.int .i64 12289, Value.int .i64 16, Value.int .i64 32896] 46)
  replace T := T.of_below bz
  replace A4 := Blk.below A4 bz
  replace A5 := Blk.below A5 bz
  replace B1 := B1.trans (bz.mono B1.size)
  clear bz
  generalize hgz : w2.heap.size = gz at *
  generalize w2.alloc (Obj.cells #[Value.int .i64 0, Value.int .i64 12289, Value.int .i64 16, Value.int .i64 32896] 46) = w3 at *
  refine (law17_Made (some ⟨gz, 0, none⟩) 2 small2 (small2_at Z) small2_in (by decide)).mono ?_; rintro e w4 ⟨p', g', q', h', rfl, T'⟩
  replace T := T.of_below T'.below
  replace A4 := Blk.below A4 T'.below
  replace A5 := Blk.below A5 T'.below
  replace B1 := B1.trans (T'.below.mono B1.size)
  clear Z hgz
  generalize hge : w.heap.size = ge at *
  go_wp2_with fail
  have CC : ∀ wq, Below w4.heap.size w4 wq → wq.cell? ⟨ge, 0, none⟩ = some (.int .i64 wd) ∧ wq.cell? ⟨ge, 1, none⟩ = some (.int .i64 hg) ∧ wq.cell? ⟨ge, 2, none⟩ = some (.int .i64 vx) ∧ wq.cell? ⟨ge, 3, none⟩ = some (.int .i64 vy) ∧ wq.cell? ⟨ge + 1, 0, none⟩ = some (.int .i64 x) ∧ wq.cell? ⟨ge + 1, 1, none⟩ = some (.int .i64 y) := by
    intro wq hq
    have E4 := Blk.below A4 hq
    have E5 := Blk.below A5 hq
    exact ⟨E4.cell 0, E4.cell 1, E4.cell 2, E4.cell 3, E5.cell 0, E5.cell 1⟩
  have C1 : ∀ wq, Below w4.heap.size w4 wq → Calls Try.prog 35 #[.pointer (some ⟨p, 0, none⟩), .agg #[.int .i64 wd, .int .i64 hg, .int .i64 vx, .int .i64 vy], .int .i64 x, .int .i64 y] wq fun e w' => e = .returned (.int .i64 (pixel (madeOf xs).word ⟨wd, hg, vx, vy⟩ x y)) ∧ Below wq.heap.size wq w' :=
    fun wq hq => tiles_Pixel ((T.of_below hq).x.toWords) ⟨wd, hg, vx, vy⟩ x y
  have C2 : ∀ wq, Below w4.heap.size w4 wq → Calls Try.prog 36 #[.pointer (some ⟨q, 0, none⟩), .agg #[.int .i64 wd, .int .i64 hg, .int .i64 vx, .int .i64 vy], .int .i64 x, .int .i64 y] wq fun e w' => e = .returned (.int .i64 (pixel (madeOf xs).word ⟨wd, hg, vx, vy⟩ x y)) ∧ Below wq.heap.size wq w' :=
    fun wq hq => ref17_Pixel (T.of_below hq).y ⟨wd, hg, vx, vy⟩ x y hx hy hvx hvy
  have C3 : ∀ wq, Below w4.heap.size w4 wq → Calls Try.prog 35 #[.pointer (some ⟨p', 0, none⟩), .agg #[.int .i64 32, .int .i64 32, .int .i64 0, .int .i64 0], .int .i64 0, .int .i64 0] wq fun e w' => e = .returned (.int .i64 51) ∧ Below wq.heap.size wq w' :=
    fun wq hq => by
      have := tiles_Pixel ((T'.of_below hq).x.toWords) ⟨32, 32, 0, 0⟩ 0 0
      rw [small2_pixel 0 0 rfl rfl] at this
      exact this
  have C4 : ∀ wq, Below w4.heap.size w4 wq → Calls Try.prog 32 #[.pointer (some ⟨q', 0, none⟩), .int .i64 0] wq fun e w' => e = .returned (.int .i64 12289) ∧ wq = w' :=
    fun wq hq => by
      have := ref13_Word (T'.of_below hq).y 0 (by omega)
      rw [small2_word] at this
      exact this
  have HCC := Lib.hid CC
  have H1 := Lib.hid C1
  have H2 := Lib.hid C2
  have H3 := Lib.hid C3
  have H4 := Lib.hid C4
  clear CC C1 C2 C3 C4
  generalize pixel (madeOf xs).word ⟨wd, hg, vx, vy⟩ x y = P at *
  refine wp_region_under (by kernel_rfl) (by kernel_rfl) ?_
  iterate 6
    (refine wpQuiet_step (fun K hK => ?_)
     first
       | (refine hK _ ?_; clear hK K)
       | (apply Exists.intro
          refine ⟨fun wq hq => ?_, hK _ ?_⟩
          · obtain ⟨c0, c1, c2, c3, c4, c5⟩ := HCC.out wq hq
            go_simp
            first | exact ⟨rfl, rfl⟩ | exact rfl
          clear hK K)
     simp only [Act.put, List.setIfInBounds_toArray, List.set_cons_zero, List.set_cons_succ])
  iterate 1
    (refine wpQuiet_step (fun K hK => ?_)
     first
       | (refine hK _ ?_; clear hK K)
       | (apply Exists.intro
          refine ⟨fun wq hq => ?_, hK _ ?_⟩
          · obtain ⟨c0, c1, c2, c3, c4, c5⟩ := HCC.out wq hq
            go_simp
            first | exact calls_under hq (H1.out wq hq)
          clear hK K)
     simp only [Act.put, List.setIfInBounds_toArray, List.set_cons_zero, List.set_cons_succ])
  iterate 6
    (refine wpQuiet_step (fun K hK => ?_)
     first
       | (refine hK _ ?_; clear hK K)
       | (apply Exists.intro
          refine ⟨fun wq hq => ?_, hK _ ?_⟩
          · obtain ⟨c0, c1, c2, c3, c4, c5⟩ := HCC.out wq hq
            go_simp
            first | exact ⟨rfl, rfl⟩ | exact rfl
          clear hK K)
     simp only [Act.put, List.setIfInBounds_toArray, List.set_cons_zero, List.set_cons_succ])
  iterate 1
    (refine wpQuiet_step (fun K hK => ?_)
     first
       | (refine hK _ ?_; clear hK K)
       | (apply Exists.intro
          refine ⟨fun wq hq => ?_, hK _ ?_⟩
          · obtain ⟨c0, c1, c2, c3, c4, c5⟩ := HCC.out wq hq
            go_simp
            first | exact calls_under hq (H2.out wq hq)
          clear hK K)
     simp only [Act.put, List.setIfInBounds_toArray, List.set_cons_zero, List.set_cons_succ])
  iterate 4
    (refine wpQuiet_step (fun K hK => ?_)
     first
       | (refine hK _ ?_; clear hK K)
       | (apply Exists.intro
          refine ⟨fun wq hq => ?_, hK _ ?_⟩
          · obtain ⟨c0, c1, c2, c3, c4, c5⟩ := HCC.out wq hq
            go_simp
            first | exact ⟨rfl, rfl⟩ | exact rfl
          clear hK K)
     simp only [Act.put, List.setIfInBounds_toArray, List.set_cons_zero, List.set_cons_succ])
  iterate 1
    (refine wpQuiet_step (fun K hK => ?_)
     first
       | (refine hK _ ?_; clear hK K)
       | (apply Exists.intro
          refine ⟨fun wq hq => ?_, hK _ ?_⟩
          · obtain ⟨c0, c1, c2, c3, c4, c5⟩ := HCC.out wq hq
            go_simp
            first | exact calls_under hq (H3.out wq hq)
          clear hK K)
     simp only [Act.put, List.setIfInBounds_toArray, List.set_cons_zero, List.set_cons_succ])
  iterate 4
    (refine wpQuiet_step (fun K hK => ?_)
     first
       | (refine hK _ ?_; clear hK K)
       | (apply Exists.intro
          refine ⟨fun wq hq => ?_, hK _ ?_⟩
          · obtain ⟨c0, c1, c2, c3, c4, c5⟩ := HCC.out wq hq
            go_simp
            first | exact ⟨rfl, rfl⟩ | exact rfl
          clear hK K)
     simp only [Act.put, List.setIfInBounds_toArray, List.set_cons_zero, List.set_cons_succ])
  iterate 1
    (refine wpQuiet_step (fun K hK => ?_)
     first
       | (refine hK _ ?_; clear hK K)
       | (apply Exists.intro
          refine ⟨fun wq hq => ?_, hK _ ?_⟩
          · obtain ⟨c0, c1, c2, c3, c4, c5⟩ := HCC.out wq hq
            go_simp
            first | exact calls_under_same hq (H4.out wq hq)
          clear hK K)
     simp only [Act.put, List.setIfInBounds_toArray, List.set_cons_zero, List.set_cons_succ])
  iterate 3
    (refine wpQuiet_step (fun K hK => ?_)
     first
       | (refine hK _ ?_; clear hK K)
       | (apply Exists.intro
          refine ⟨fun wq hq => ?_, hK _ ?_⟩
          · obtain ⟨c0, c1, c2, c3, c4, c5⟩ := HCC.out wq hq
            go_simp
            first | exact ⟨rfl, rfl⟩ | exact rfl
          clear hK K)
     simp only [Act.put, List.setIfInBounds_toArray, List.set_cons_zero, List.set_cons_succ])
  refine wpQuiet_nil ?_
  intro w5 hq5
  go_wp2
  go_ret
  have s1 := B1.size
  have B5 := B1.trans (hq5.mono (show ge ≤ w4.heap.size by omega))
  rw [← hge] at B5
  exact ⟨rfl, B5⟩
end Go.Proofs.Ytlhnfllfankjhaa
