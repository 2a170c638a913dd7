/- The walk of SpritesFlip. -/
import Derived.Test.YtlhnfllfankjhaaSpG
namespace Go.Proofs.Ytlhnfllfankjhaa
open Go Go.RowKit
set_option linter.unusedSimpArgs false
set_option linter.unusedVariables false
set_option maxRecDepth 100000

theorem and_low (k : Nat) (hk : k ≤ 62) (n : Int) (m : Nat) (hm : m < 2 ^ k) : bits .and .i64 n (m : Int) = (((n % 2 ^ k).toNat &&& m : Nat) : Int) := by
  have hp : (2 : Nat) ^ k ≤ 2 ^ 62 := Nat.pow_le_pow_right (by omega) hk
  have h1 : (BitVec.ofInt 64 (m : Int)).toNat = m := by rw [ofInt64_toNat _ (by omega) (by omega)]; omega
  have key : (BitVec.ofInt 64 n &&& BitVec.ofInt 64 (m : Int)).toNat = (n % ((2 ^ 64 : Nat) : Int)).toNat &&& m := by
    rw [BitVec.toNat_and, BitVec.toNat_ofInt, h1]
  have e1 : (n % ((2 ^ 64 : Nat) : Int)).toNat &&& m = (n % 2 ^ k).toNat &&& m := by
    have e2 : m = (2 ^ k - 1) &&& m := by rw [Nat.and_comm, Nat.and_two_pow_sub_one_eq_mod, Nat.mod_eq_of_lt hm]
    have e3 : (n % ((2 ^ 64 : Nat) : Int)).toNat % 2 ^ k = (n % 2 ^ k).toNat := by
      have hd : (n % ((2 ^ 64 : Nat) : Int)) % (2 ^ k) = n % 2 ^ k := by
        rw [Int.emod_emod_of_dvd]
        have : (2 : Int) ^ 64 = 2 ^ k * 2 ^ (64 - k) := by rw [← Int.pow_add]; congr 1; omega
        exact ⟨2 ^ (64 - k), by simpa using this⟩
      have hnn : 0 ≤ n % ((2 ^ 64 : Nat) : Int) := Int.emod_nonneg _ (by decide)
      rw [← hd]
      generalize n % ((2 ^ 64 : Nat) : Int) = z at *
      obtain ⟨q, rfl⟩ := Int.eq_ofNat_of_zero_le hnn
      have cst : ((2 : Int) ^ k) = ((2 ^ k : Nat) : Int) := by simp
      rw [cst]
      simp only [Int.toNat_natCast]
      rw [← Int.natCast_emod, Int.toNat_natCast]
    rw [e2, ← Nat.and_assoc, ← Nat.and_assoc, Nat.and_two_pow_sub_one_eq_mod, Nat.and_two_pow_sub_one_eq_mod, e3]
    congr 1
    exact (Nat.mod_eq_of_lt (by
      have := Int.emod_lt_of_pos n (show (0 : Int) < 2 ^ k from Int.pow_pos (by decide))
      have := Int.emod_nonneg n (show (2 : Int) ^ k ≠ 0 from Int.pow_ne_zero (by decide))
      have cst : ((2 : Int) ^ k) = ((2 ^ k : Nat) : Int) := by simp
      omega)).symm
  show IntKind.i64.wrap ((BitVec.ofInt 64 n &&& BitVec.ofInt 64 (m : Int)).toNat : Nat) = _
  rw [key, e1, IntKind.wrap_i64]
  have hle : (n % 2 ^ k).toNat &&& m ≤ m := Nat.and_le_right
  omega
theorem attr_and (n : Int) : bits .and .i64 n 12799 = n % 512 + n / 4096 % 4 * 4096 := by
  have h := and_low 14 (by decide) n 12799 (by decide)
  have h2 : ∀ x : Nat, x &&& 12799 = x % 512 + x / 4096 % 4 * 4096 := by
    intro x
    have e1 : (12799 : Nat) = 12288 ||| 511 := by decide
    have e2 : x &&& 511 = x % 512 := Nat.and_two_pow_sub_one_eq_mod x 9
    have e3 : x &&& 12288 = x / 4096 % 4 * 4096 := by
      have e4 : (12288 : Nat) = 3 <<< 12 := by decide
      have e5 : x / 4096 % 4 = (x >>> 12) &&& 3 := by rw [Nat.shiftRight_eq_div_pow]; exact (Nat.and_two_pow_sub_one_eq_mod (x / 2 ^ 12) 2).symm
      rw [e4, e5, show (4096 : Nat) = 2 ^ 12 from rfl, ← Nat.shiftLeft_eq]
      apply Nat.eq_of_testBit_eq
      intro k
      simp only [Nat.testBit_and, Nat.testBit_shiftLeft, Nat.testBit_shiftRight]
      by_cases hk : 12 ≤ k
      · rw [show 12 + (k - 12) = k by omega]; simp [hk]
      · simp [hk]
    rw [e1, Nat.and_or_distrib_left, e2, e3, nat_join 12 _ _ (by omega) (by omega)]
    omega
  rw [show (12799 : Int) = ((12799 : Nat) : Int) from rfl, h, show (2 : Int) ^ 14 = 16384 from rfl, h2]
  omega
theorem attr_x (u v : Int) (hu : 0 ≤ u ∧ u < 512) (hv : 0 ≤ v ∧ v < 4) : bits .or .i64 (u + v * 4096) 2048 = u + v * 4096 + 2048 := by
  have h1 : bits .or .i64 (v * 4096) u = v * 4096 + u := or_join64 12 _ _ (by omega) (by omega) hu.1 (by simp; omega) (by decide) (by simp)
  have h2 : bits .or .i64 2048 u = 2048 + u := or_join64 11 _ _ (by omega) (by omega) hu.1 (by simp; omega) (by decide) (by decide)
  have h3 : bits .or .i64 (v * 4096) (2048 + u) = v * 4096 + (2048 + u) := or_join64 12 _ _ (by omega) (by omega) (by omega) (by simp; omega) (by decide) (by simp)
  have n1 := (bits_nat (v * 4096) u (by omega) (by omega) hu.1 (by omega)).2.1
  have n2 := (bits_nat 2048 u (by omega) (by omega) hu.1 (by omega)).2.1
  have n3 := (bits_nat (v * 4096) (2048 + u) (by omega) (by omega) (by omega) (by omega)).2.1
  have n4 := (bits_nat (u + v * 4096) 2048 (by omega) (by omega) (by omega) (by omega)).2.1
  rw [n4]
  have e1 : (u + v * 4096).toNat = (v * 4096).toNat ||| u.toNat := by
    have : (((v * 4096).toNat ||| u.toNat : Nat) : Int) = v * 4096 + u := by rw [← n1, h1]
    omega
  have e2 : (2048 + u).toNat = (2048 : Int).toNat ||| u.toNat := by
    have : (((2048 : Int).toNat ||| u.toNat : Nat) : Int) = 2048 + u := by rw [← n2, h2]
    omega
  rw [e1, Nat.or_assoc, Nat.or_comm u.toNat, ← e2, ← n3, h3]
  omega
theorem attr_y (u v : Int) (hu : 0 ≤ u ∧ u < 512) (hv : 0 ≤ v ∧ v < 4) : bits .or .i64 (u + v * 4096) 32768 = u + v * 4096 + 32768 := by
  rw [or_comm64, or_join64 15 32768 (u + v * 4096) (by decide) (by decide) (by omega) (by simp; omega) (by decide) (by decide)]
  omega
/-- A table of one sprite. -/
def flipT (c a : Int) : List Int := ((((zeros 256).set 0 64).set 1 32).set 2 c).set 3 a
theorem flipT_length (c a : Int) : (flipT c a).length = 256 := by simp [flipT, zeros_length]
theorem flip_one (c a : Int) : spOf (flipT c a) 0 = spW 64 32 c a := by
  have e0 : nth 0 (flipT c a) 0 = 64 := by unfold flipT; rw [nth_set_ne (by decide), nth_set_ne (by decide), nth_set_ne (by decide), nth_set_eq (by rw [zeros_length]; decide)]
  have e1 : nth 0 (flipT c a) 1 = 32 := by unfold flipT; rw [nth_set_ne (by decide), nth_set_ne (by decide), nth_set_eq (by simp [zeros_length])]
  have e2 : nth 0 (flipT c a) 2 = c := by unfold flipT; rw [nth_set_ne (by decide), nth_set_eq (by simp [zeros_length])]
  have e3 : nth 0 (flipT c a) 3 = a := by unfold flipT; rw [nth_set_eq (by simp [zeros_length])]
  unfold spOf
  rw [show 4 * 0 = 0 from rfl, e0, show 0 + 1 = 1 from rfl, e1, show 0 + 2 = 2 from rfl, e2, show 0 + 3 = 3 from rfl, e3]
theorem flip_rest (c a y : Int) (hy : 0 ≤ y) (j : Nat) (h1 : 1 ≤ j) : ¬ (spOf (flipT c a) j).on y := by
  refine spOf_zero _ _ _ hy fun i h2 h3 => ?_
  unfold flipT
  rw [nth_set_ne (by omega), nth_set_ne (by omega), nth_set_ne (by omega), nth_set_ne (by omega)]
  exact nth_zeros 256 i
theorem flip_words (c u v : Int) (hu : 0 ≤ u ∧ u < 512) (hv : 0 ≤ v ∧ v < 4) : ∃ s : SpV, s.X = 0 ∧ s.Y = 0 ∧ s.fx = false ∧ s.fy = false ∧ spW 64 32 c (u + v * 4096) = s ∧ spW 64 32 c (u + v * 4096 + 2048) = { s with fx := true } ∧ spW 64 32 c (u + v * 4096 + 32768) = { s with fy := true } := by
  have e1 : (u + v * 4096 + 2048) / 4096 % 4 = (u + v * 4096) / 4096 % 4 := by omega
  have e2 : (u + v * 4096 + 2048) / 256 % 2 = (u + v * 4096) / 256 % 2 := by omega
  have e3 : (u + v * 4096 + 2048) % 16 = (u + v * 4096) % 16 := by omega
  have e4 : (u + v * 4096 + 2048) / 128 % 2 = (u + v * 4096) / 128 % 2 := by omega
  have e5 : (u + v * 4096 + 2048) / 2048 % 2 = 1 := by omega
  have e6 : (u + v * 4096 + 2048) / 32768 % 2 = 0 := by omega
  have d1 : (u + v * 4096 + 32768) / 4096 % 4 = (u + v * 4096) / 4096 % 4 := by omega
  have d2 : (u + v * 4096 + 32768) / 256 % 2 = (u + v * 4096) / 256 % 2 := by omega
  have d3 : (u + v * 4096 + 32768) % 16 = (u + v * 4096) % 16 := by omega
  have d4 : (u + v * 4096 + 32768) / 128 % 2 = (u + v * 4096) / 128 % 2 := by omega
  have d5 : (u + v * 4096 + 32768) / 2048 % 2 = 0 := by omega
  have d6 : (u + v * 4096 + 32768) / 32768 % 2 = 1 := by omega
  have f5 : (u + v * 4096) / 2048 % 2 = 0 := by omega
  have f6 : (u + v * 4096) / 32768 % 2 = 0 := by omega
  refine ⟨spW 64 32 c (u + v * 4096), rfl, rfl, by unfold spW; simp only [f5]; rfl, by unfold spW; simp only [f6]; rfl, rfl, ?_, ?_⟩
  · unfold spW sCell sWide sHigh
    simp only [e1, e2, e3, e4, e5, e6, f6]; rfl
  · unfold spW sCell sWide sHigh
    simp only [d1, d2, d3, d4, d5, d6, f5]; rfl
theorem flip_cols (f : Int → Int) (t : List Int) (s : SpV) (hs : spOf t 0 = s) (hX : s.X = 0) (y : Int) (hy : s.on y) (hr : ∀ j, 1 ≤ j → j < 64 → ¬ (spOf t j).on y) (x : Nat) (hx : x < 64) :
    nth 0 (sprLine f 64 t y).1.cols x = if (x : Int) < s.W ∧ s.px f y x ≠ 0 then 16 * s.P + s.px f y x else 0 := by
  subst hs
  have hin := spOf_in t 0
  rw [sprLine_one f 64 t y hy hr, (SS.sp_is (SS.Ok.zero 64) f 0 (by decide) hin y (spOf t 0).W.toNat).cols x hx, zero_cols]
  have hW := hin.W
  unfold SpV.at
  rw [hX]
  by_cases h1 : (x : Int) < (spOf t 0).W
  · rw [if_pos (show (0 : Int) ≤ x ∧ (x : Int) < 0 + ((spOf t 0).W.toNat : Int) by omega), Int.sub_zero]
    by_cases h2 : (spOf t 0).px f y x = 0
    · rw [if_neg (fun h => h.2 h2), if_neg (fun h => h.2 h2)]
    · rw [if_pos ⟨rfl, h2⟩, if_pos ⟨h1, h2⟩]
  · rw [if_neg (show ¬ ((0 : Int) ≤ x ∧ (x : Int) < 0 + ((spOf t 0).W.toNat : Int)) by omega), if_neg (fun h => h.2 rfl), if_neg (fun h => h1 h.1)]
/-- The three lines. -/
theorem flip_lines (f : Int → Int) (c u v : Int) (hu : 0 ≤ u ∧ u < 512) (hv : 0 ≤ v ∧ v < 4) (y : Int) (W H : Int) (hW : (spOf (flipT c (u + v * 4096)) 0).W = W) (hH : (spOf (flipT c (u + v * 4096)) 0).H = H) (hy : 0 ≤ y ∧ y < H) :
    (∀ x : Nat, (x : Int) < W → x < 64 → nth 0 (sprLine f 64 (flipT c (u + v * 4096)) y).1.cols x = nth 0 (sprLine f 64 (flipT c (u + v * 4096 + 2048)) y).1.cols (W - 1 - x).toNat) ∧
    (∀ x : Nat, ¬ (x : Int) < W → x < 64 → nth 0 (sprLine f 64 (flipT c (u + v * 4096)) y).1.cols x = 0) ∧
    (∀ x : Nat, x < 64 → nth 0 (sprLine f 64 (flipT c (u + v * 4096)) y).1.cols x = nth 0 (sprLine f 64 (flipT c (u + v * 4096 + 32768)) (H - 1 - y)).1.cols x) := by
  have hin := spOf_in (flipT c (u + v * 4096)) 0
  obtain ⟨s, hX, hY, hfx, hfy, e1, e2, e3⟩ := flip_words c u v hu hv
  rw [flip_one, e1] at hW hH hin
  have hinW := hin.W
  have hinH := hin.H
  subst hW hH
  have o1 : s.on y := ⟨by omega, by omega⟩
  have o2 : (SpV.on { s with fx := true } y) := o1
  have o3 : (SpV.on { s with fy := true } (s.H - 1 - y)) := ⟨by show s.Y ≤ _; omega, by show _ < s.Y + s.H; omega⟩
  have c1 := flip_cols f (flipT c (u + v * 4096)) s ((flip_one _ _).trans e1) hX y o1 (fun j h1 _ => flip_rest _ _ y hy.1 j h1)
  have c2 := flip_cols f (flipT c (u + v * 4096 + 2048)) _ ((flip_one _ _).trans e2) hX y o2 (fun j h1 _ => flip_rest _ _ y hy.1 j h1)
  have c3 := flip_cols f (flipT c (u + v * 4096 + 32768)) _ ((flip_one _ _).trans e3) hX (s.H - 1 - y) o3 (fun j h1 _ => flip_rest _ _ _ (by omega) j h1)
  have p1 : ∀ x : Int, s.px f y x = s.dot f y x := fun x => by
    unfold SpV.px SpV.row SpV.col
    rw [hfx, hfy, if_neg (by decide), if_neg (by decide), hY, Int.sub_zero]
  have p2 : ∀ x : Int, SpV.px f { s with fx := true } y x = s.dot f y (s.W - 1 - x) := fun x => by
    unfold SpV.px SpV.row SpV.col
    simp only [hfy, hY, Int.sub_zero, if_true]
    rw [if_neg (by decide)]; rfl
  have p3 : ∀ x : Int, SpV.px f { s with fy := true } (s.H - 1 - y) x = s.dot f y x := fun x => by
    unfold SpV.px SpV.row SpV.col
    simp only [hfx, hY, Int.sub_zero, if_true]
    rw [if_neg (by decide), show s.H - 1 - (s.H - 1 - y) = y by omega]; rfl
  refine ⟨fun x hx h6 => ?_, fun x hx h6 => ?_, fun x h6 => ?_⟩
  · rw [c1 x h6, c2 _ (by omega), p1, p2]
    have ex : (((s.W - 1 - x).toNat : Nat) : Int) = s.W - 1 - x := by omega
    rw [ex, show s.W - 1 - (s.W - 1 - (x : Int)) = x by omega]
    have h7 : (s.W - 1 - (x : Int)) < s.W := by omega
    by_cases hd : s.dot f y x = 0
    · rw [if_neg (fun h => h.2 hd), if_neg (fun h => h.2 hd)]
    · rw [if_pos ⟨hx, hd⟩, if_pos ⟨h7, hd⟩]
  · rw [c1 x h6, if_neg (fun h => hx h.1)]
  · rw [c1 x h6, c3 x h6, p1, p3]

theorem flip_build (c a : Int) : ((((cellsI (zeros 256)).setIfInBounds 0 (.int .i64 64)).setIfInBounds 1 (.int .i64 32)).setIfInBounds 2 (.int .i64 c)).setIfInBounds 3 (.int .i64 a) = cellsI (flipT c a) := by
  simp [cellsI, flipT, List.map_set]
theorem flip_size (c a : Int) : (Try.prog.info? 37).map (·.size) = some (((((cellsI (zeros 256)).setIfInBounds 0 (.int .i64 64)).setIfInBounds 1 (.int .i64 32)).setIfInBounds 2 (.int .i64 c)).setIfInBounds 3 (.int .i64 a)).size := by
  rw [flip_build, cellsI_size, flipT_length]; exact size256
theorem flip_size2 (c a : Int) : (cellsI (zeros 256)).size = (((((cellsI (zeros 256)).setIfInBounds 0 (.int .i64 64)).setIfInBounds 1 (.int .i64 32)).setIfInBounds 2 (.int .i64 c)).setIfInBounds 3 (.int .i64 a)).size := by
  rw [flip_build, cellsI_size, cellsI_size, flipT_length, zeros_length]
theorem flip_cells (c a : Int) : (((((cellsI (zeros 256)).setIfInBounds 0 (.int .i64 64)).setIfInBounds 1 (.int .i64 32)).setIfInBounds 2 (.int .i64 c)).setIfInBounds 3 (.int .i64 a)).all (·.oneCell') = true := by
  rw [flip_build]; exact cellsI_one _

set_option maxHeartbeats 4000000 in
theorem spritesFlip_walk (a : Option Addr) (c : Nat) (xs : List PokeV) (cell0 attr0 : Int) (w : World) (S : PokesAt w a xs) (hI : ∀ x ∈ xs, x.In) (hm : xs.length ≤ maxLen) :
    Calls Try.prog 19 #[.slice a xs.length c, .int .i64 cell0, .int .i64 attr0] w fun e w' => e = .returned (.bool true) ∧ Below w.heap.size w w' := by
  have HZ := Lib.hid zero256
  have hat := attr_and attr0
  obtain ⟨u, v, huv, hu, hv⟩ : ∃ u v : Int, bits .and .i64 attr0 12799 = u + v * 4096 ∧ (0 ≤ u ∧ u < 512) ∧ (0 ≤ v ∧ v < 4) := ⟨attr0 % 512, attr0 / 4096 % 4, hat, by omega, by omega⟩
  have hox := attr_x u v hu hv
  have hoy := attr_y u v hu hv
  obtain ⟨cl, hcl, hc0⟩ : ∃ cl : Int, cell0 % 2048 = cl ∧ 0 ≤ cl ∧ cl < 2048 := ⟨cell0 % 2048, rfl, by omega, by omega⟩
  have HUV := Lib.hid huv
  have HOX := Lib.hid hox
  have HOY := Lib.hid hoy
  clear hat huv hox hoy
  go_enter Try.func19, Try.ntmps19
  go_wp2_with fail
  refine (law17_Made a c xs S hI hm).mono ?_; rintro e w2 ⟨p, g, q, h, rfl, T⟩
  have B1 := T.below
  have hx := T.x
  clear S hI T
  generalize hge : w.heap.size = ge at *
  have lx := hx.lt
  go_upto_region 5 with (fail)
  rw [HUV.out]
  clear HUV

  have Z := Blk.new w2 (cellsI (zeros 256)) 37
  have hz := HZ.out
  go_upto_region 6 with (refine wpList_store_row rfl 37 _ _ rfl w2.heap.size (((((cellsI (zeros 256)).setIfInBounds 0 (.int .i64 64)).setIfInBounds 1 (.int .i64 32)).setIfInBounds 2 (.int .i64 cl)).setIfInBounds 3 (.int .i64 (u + v * 4096))) rfl rfl 37 (cellsI (zeros 256)) Z (flip_size cl (u + v * 4096)) (flip_size2 cl (u + v * 4096)) (flip_cells cl (u + v * 4096)) ?_)
  clear hz
  rw [flip_build]
  have A9 : BlkL (Value.int .i64) _ w2.heap.size (flipT cl (u + v * 4096)) _ := Blk.setRow Z (cellsI (flipT cl (u + v * 4096)))
  have b4 : Below w2.heap.size w2 ((w2.alloc (Obj.cells (cellsI (zeros 256)) 37)).setRow w2.heap.size (cellsI (flipT cl (u + v * 4096)))) := below_setRow ((Below.refl _ _).alloc (Nat.le_refl _) _) (Nat.le_refl _) _
  replace hx := hx.below b4
  have s1 := B1.size
  replace B1 := B1.trans (b4.mono (by omega))
  generalize hg9 : w2.heap.size = g9 at *
  generalize (w2.alloc (Obj.cells (cellsI (zeros 256)) 37)).setRow g9 (cellsI (flipT cl (u + v * 4096))) = w3 at *
  clear b4 Z
  have Z := Blk.new w3 (cellsI (zeros 256)) 37
  have hz := HZ.out
  have ho := HOX.out
  go_upto_region 7 with (refine wpList_store_row rfl 37 _ _ rfl w3.heap.size (((((cellsI (zeros 256)).setIfInBounds 0 (.int .i64 64)).setIfInBounds 1 (.int .i64 32)).setIfInBounds 2 (.int .i64 cl)).setIfInBounds 3 (.int .i64 (u + v * 4096 + 2048))) rfl rfl 37 (cellsI (zeros 256)) Z (flip_size cl (u + v * 4096 + 2048)) (flip_size2 cl (u + v * 4096 + 2048)) (flip_cells cl (u + v * 4096 + 2048)) ?_)
  clear hz
  rw [flip_build]
  have A10 : BlkL (Value.int .i64) _ w3.heap.size (flipT cl (u + v * 4096 + 2048)) _ := Blk.setRow Z (cellsI (flipT cl (u + v * 4096 + 2048)))
  have b4 : Below w3.heap.size w3 ((w3.alloc (Obj.cells (cellsI (zeros 256)) 37)).setRow w3.heap.size (cellsI (flipT cl (u + v * 4096 + 2048)))) := below_setRow ((Below.refl _ _).alloc (Nat.le_refl _) _) (Nat.le_refl _) _
  replace hx := hx.below b4
  have s1 := B1.size
  replace B1 := B1.trans (b4.mono (by omega))
  replace A9 : BlkL (Value.int .i64) _ _ _ _ := Blk.below A9 b4
  generalize hg10 : w3.heap.size = g10 at *
  generalize (w3.alloc (Obj.cells (cellsI (zeros 256)) 37)).setRow g10 (cellsI (flipT cl (u + v * 4096 + 2048))) = w4 at *
  clear b4 Z
  have Z := Blk.new w4 (cellsI (zeros 256)) 37
  have hz := HZ.out
  have ho := HOY.out
  go_upto_region 8 with (refine wpList_store_row rfl 37 _ _ rfl w4.heap.size (((((cellsI (zeros 256)).setIfInBounds 0 (.int .i64 64)).setIfInBounds 1 (.int .i64 32)).setIfInBounds 2 (.int .i64 cl)).setIfInBounds 3 (.int .i64 (u + v * 4096 + 32768))) rfl rfl 37 (cellsI (zeros 256)) Z (flip_size cl (u + v * 4096 + 32768)) (flip_size2 cl (u + v * 4096 + 32768)) (flip_cells cl (u + v * 4096 + 32768)) ?_)
  clear hz
  rw [flip_build]
  have A11 : BlkL (Value.int .i64) _ w4.heap.size (flipT cl (u + v * 4096 + 32768)) _ := Blk.setRow Z (cellsI (flipT cl (u + v * 4096 + 32768)))
  have b4 : Below w4.heap.size w4 ((w4.alloc (Obj.cells (cellsI (zeros 256)) 37)).setRow w4.heap.size (cellsI (flipT cl (u + v * 4096 + 32768)))) := below_setRow ((Below.refl _ _).alloc (Nat.le_refl _) _) (Nat.le_refl _) _
  replace hx := hx.below b4
  have s1 := B1.size
  replace B1 := B1.trans (b4.mono (by omega))
  replace A9 : BlkL (Value.int .i64) _ _ _ _ := Blk.below A9 b4
  replace A10 : BlkL (Value.int .i64) _ _ _ _ := Blk.below A10 b4
  generalize hg11 : w4.heap.size = g11 at *
  generalize (w4.alloc (Obj.cells (cellsI (zeros 256)) 37)).setRow g11 (cellsI (flipT cl (u + v * 4096 + 32768))) = w5 at *
  clear b4 Z
  clear hcl
  have hin := spOf_in (flipT cl (u + v * 4096)) 0
  have hfl := fun y W H hW hH hy => flip_lines (madeOf xs).word cl u v hu hv y W H hW hH hy
  have HFL := Lib.hid hfl
  clear hfl
  have l1 := flipT_length cl (u + v * 4096)
  have l2 := flipT_length cl (u + v * 4096 + 2048)
  have l3 := flipT_length cl (u + v * 4096 + 32768)
  have hof := fun w => sprites_Of_in (flipT cl (u + v * 4096)) l1 0 (by decide) w
  change ∀ w, Calls _ _ _ w (fun e w' => e = .returned (.agg (spOf (flipT cl (u + v * 4096)) 0).cells) ∧ _) at hof
  have E2 : Hid ((spOf (flipT cl (u + v * 4096)) 0).cells.all (·.oneCell') = true) := Lib.hid (oneV_one _ _ _ _)
  obtain ⟨s, hs⟩ : ∃ s, spOf (flipT cl (u + v * 4096)) 0 = s := ⟨_, rfl⟩
  rw [hs] at hof hin E2 HFL
  have HOF := Lib.hid hof
  clear hof hs HOX HOY
  clear ho
  have HI : ∀ l : List Int, l.length = 256 → (Try.prog.info? 37).map (·.size) = some (cellsI l).size := fun l hl => by rw [cellsI_size, hl]; exact size256
  have H1 := Lib.hid (HI _ l1)
  have H2 := Lib.hid (HI _ l2)
  have H3 := Lib.hid (HI _ l3)
  clear HI
  generalize flipT cl (u + v * 4096) = t1 at *
  generalize flipT cl (u + v * 4096 + 2048) = t2 at *
  generalize flipT cl (u + v * 4096 + 32768) = t3 at *
  go_wp2_with (refine wpList_load_row rfl 37 _ rfl g9 rfl 37 (cellsI t1) (0, 0) _ A9 Try.underlying37 rfl H1.out ?_)
  refine (HOF.out _).mono ?_; rintro e w6 ⟨rfl, b6⟩
  replace hx := hx.below b6
  replace A9 : BlkL (Value.int .i64) _ _ _ _ := Blk.below A9 b6
  replace A10 : BlkL (Value.int .i64) _ _ _ _ := Blk.below A10 b6
  replace A11 : BlkL (Value.int .i64) _ _ _ _ := Blk.below A11 b6
  have s1 := B1.size
  replace B1 := B1.trans (b6.mono (by omega))
  clear b6 HOF
  have Z := Blk.new w6 one0 88
  have E1 : Hid ((Try.prog.info? 88).map (·.size) = some s.cells.size) := Lib.hid t9o
  go_upto_region 9 with (refine wpList_store_row rfl 88 _ _ rfl w6.heap.size s.cells rfl rfl 88 one0 Z E1.out rfl E2.out ?_)
  have A12 : Blk ((w6.alloc (Obj.cells one0 88)).setRow w6.heap.size s.cells) w6.heap.size s.cells 88 := Blk.setRow Z _
  have b4 : Below w6.heap.size w6 ((w6.alloc (Obj.cells one0 88)).setRow w6.heap.size s.cells) := below_setRow ((Below.refl _ _).alloc (Nat.le_refl _) _) (Nat.le_refl _) _
  change Code.wp _ _ _ _ ((w6.alloc (Obj.cells one0 88)).setRow w6.heap.size s.cells)
  replace hx := hx.below b4
  replace A9 : BlkL (Value.int .i64) _ _ _ _ := Blk.below A9 b4
  replace A10 : BlkL (Value.int .i64) _ _ _ _ := Blk.below A10 b4
  replace A11 : BlkL (Value.int .i64) _ _ _ _ := Blk.below A11 b4
  have s1 := B1.size
  replace B1 := B1.trans (b4.mono (by omega))
  generalize hg12 : w6.heap.size = g12 at *
  generalize (w6.alloc (Obj.cells one0 88)).setRow g12 s.cells = w7 at *
  clear b4 Z E1 E2
  have k3 : s.cells[3]? = some (.int .i64 s.W) := rfl
  have k4 : s.cells[4]? = some (.int .i64 s.H) := rfl
  have c3 := (Blk.cell A12 3).trans k3
  have c4 := (Blk.cell A12 4).trans k4
  have hH := hin.H
  have hwW := hin.W
  obtain ⟨hh, hhh⟩ : ∃ hh : Nat, s.H = hh := ⟨s.H.toNat, by omega⟩
  have HHH := Lib.hid hhh
  have hh1 : 16 ≤ (hh : Int) ∧ (hh : Int) ≤ 64 := by omega
  rw [hhh] at c4 k4
  clear hhh hH hin
  have q1 : decide ((hh : Int) < 16) = false := by simp; omega
  have q2 : decide ((hh : Int) > 64) = false := by simp; omega
  rcases hwW with hwe | hwe
  · have HFW := fun (j : Nat) (hj : j < hh) => HFL.out (j : Int) 16 (hh : Int) hwe HHH.out ⟨by omega, by omega⟩
    have HF := Lib.hid HFW
    clear HFW HFL
    rw [hwe] at c3 k3
    clear hwe
    go_wp2_with fail
    clear c3 c4 q1 q2
    go_loopw [13] (fun i wr => ∃ j : Nat, j ≤ hh ∧ i = .int .i64 j ∧ VAt 69 wr p g (madeOf xs) ∧ BlkL (Value.int .i64) wr g9 t1 37 ∧ BlkL (Value.int .i64) wr g10 t2 37 ∧ BlkL (Value.int .i64) wr g11 t3 37 ∧ Blk wr g12 s.cells 88 ∧ Below ge w wr) (fun i _ => hh - (intOf i).toNat)
    case atStart => exact ⟨0, by omega, rfl, hx, A9, A10, A11, A12, B1⟩
    case round =>
      clear hx A9 A10 A11 A12 B1
      obtain ⟨j, hj, rfl, hx, A9, A10, A11, A12, B1⟩ := hrel
      have c4 := (Blk.cell A12 4).trans k4
      by_cases hlt : j < hh
      · have d1 : decide ((j : Int) < (hh : Int)) = true := by simpa using hlt
        have j1 : (j : Int) < (hh : Int) := by omega
        have ok1 := sprLine_ok (madeOf xs).word 64 t1 j
        have ok2 := sprLine_ok (madeOf xs).word 64 t2 j
        have ok3 := sprLine_ok (madeOf xs).word 64 t3 ((hh : Int) - 1 - j)
        have hW := hx.toWords
        have F := Lib.hid (HF.out j hlt)
        have hL1 := fun w pv (hW : Words w pv (madeOf xs).word) => sprites_Line hW t1 l1 j 64 (by decide) (by decide)
        have hL2 := fun w pv (hW : Words w pv (madeOf xs).word) => sprites_Line hW t2 l2 j 64 (by decide) (by decide)
        have hL3 := fun w pv (hW : Words w pv (madeOf xs).word) => sprites_Line hW t3 l3 ((hh : Int) - 1 - j) 64 (by decide) (by decide)
        rw [aggI_eq] at hL1 hL2 hL3
        have o1 := ok1.cols
        have o2 := ok2.cols
        have o3 := ok3.cols
        clear ok1 ok2 ok3
        generalize sprLine (madeOf xs).word 64 t1 j = L1 at *
        generalize sprLine (madeOf xs).word 64 t2 j = L2 at *
        generalize sprLine (madeOf xs).word 64 t3 ((hh : Int) - 1 - j) = L3 at *
        go_wp2_with (refine wpList_load_row rfl 37 _ rfl g9 rfl 37 (cellsI t1) (0, 0) _ A9 Try.underlying37 rfl H1.out ?_)
        refine (hL1 _ _ hW).mono ?_; rintro e v1 ⟨e1, f1, rfl, hC1, _, _, _, b8⟩
        replace hx := hx.below b8
        replace hW := hW.below b8
        replace A9 : BlkL (Value.int .i64) _ _ _ _ := Blk.below A9 b8
        replace A10 : BlkL (Value.int .i64) _ _ _ _ := Blk.below A10 b8
        replace A11 : BlkL (Value.int .i64) _ _ _ _ := Blk.below A11 b8
        replace A12 := Blk.below A12 b8
        have s1 := B1.size
        replace B1 := B1.trans (b8.mono (by omega))
        clear b8 hL1
        have P1 := Blk.new v1 #[.slice (some ⟨e1, 0, none⟩) 64 64, .slice (some ⟨f1, 0, none⟩) 64 64] 80
        have bz := (Below.refl v1.heap.size v1).alloc (Nat.le_refl _) (Obj.cells #[.slice (some ⟨e1, 0, none⟩) 64 64, .slice (some ⟨f1, 0, none⟩) 64 64] 80)
        replace hx := hx.below bz
        replace hW := hW.below bz
        replace A9 : BlkL (Value.int .i64) _ _ _ _ := Blk.below A9 bz
        replace A10 : BlkL (Value.int .i64) _ _ _ _ := Blk.below A10 bz
        replace A11 : BlkL (Value.int .i64) _ _ _ _ := Blk.below A11 bz
        replace A12 := Blk.below A12 bz
        have s1 := B1.size
        replace B1 := B1.trans (bz.mono (by omega))
        replace hC1 : BlkL (Value.int .i64) _ _ _ _ := Blk.below hC1 bz
        clear bz
        have c4 := (Blk.cell A12 4).trans k4
        go_upto_region 15 with (fail)
        generalize hggA : v1.heap.size = gA at *
        generalize v1.alloc (Obj.cells #[.slice (some ⟨e1, 0, none⟩) 64 64, .slice (some ⟨f1, 0, none⟩) 64 64] 80) = u1 at *
        go_wp2_with (refine wpList_load_row rfl 37 _ rfl g10 rfl 37 (cellsI t2) (0, 0) _ A10 Try.underlying37 rfl H2.out ?_)
        refine (hL2 _ _ hW).mono ?_; rintro e v2 ⟨e2, f2, rfl, hC2, _, _, _, b8⟩
        replace hx := hx.below b8
        replace hW := hW.below b8
        replace A9 : BlkL (Value.int .i64) _ _ _ _ := Blk.below A9 b8
        replace A10 : BlkL (Value.int .i64) _ _ _ _ := Blk.below A10 b8
        replace A11 : BlkL (Value.int .i64) _ _ _ _ := Blk.below A11 b8
        replace A12 := Blk.below A12 b8
        have s1 := B1.size
        replace B1 := B1.trans (b8.mono (by omega))
        replace hC1 : BlkL (Value.int .i64) _ _ _ _ := Blk.below hC1 b8
        replace P1 := Blk.below P1 b8
        clear b8 hL2
        have P2 := Blk.new v2 #[.slice (some ⟨e2, 0, none⟩) 64 64, .slice (some ⟨f2, 0, none⟩) 64 64] 80
        have bz := (Below.refl v2.heap.size v2).alloc (Nat.le_refl _) (Obj.cells #[.slice (some ⟨e2, 0, none⟩) 64 64, .slice (some ⟨f2, 0, none⟩) 64 64] 80)
        replace hx := hx.below bz
        replace hW := hW.below bz
        replace A9 : BlkL (Value.int .i64) _ _ _ _ := Blk.below A9 bz
        replace A10 : BlkL (Value.int .i64) _ _ _ _ := Blk.below A10 bz
        replace A11 : BlkL (Value.int .i64) _ _ _ _ := Blk.below A11 bz
        replace A12 := Blk.below A12 bz
        have s1 := B1.size
        replace B1 := B1.trans (bz.mono (by omega))
        replace hC1 : BlkL (Value.int .i64) _ _ _ _ := Blk.below hC1 bz
        replace P1 := Blk.below P1 bz
        replace hC2 : BlkL (Value.int .i64) _ _ _ _ := Blk.below hC2 bz
        clear bz
        have c4 := (Blk.cell A12 4).trans k4
        go_upto_region 16 with (fail)
        generalize hggB : v2.heap.size = gB at *
        generalize v2.alloc (Obj.cells #[.slice (some ⟨e2, 0, none⟩) 64 64, .slice (some ⟨f2, 0, none⟩) 64 64] 80) = u2 at *
        go_wp2_with (refine wpList_load_row rfl 37 _ rfl g11 rfl 37 (cellsI t3) (0, 0) _ A11 Try.underlying37 rfl H3.out ?_)
        refine (hL3 _ _ hW).mono ?_; rintro e v3 ⟨e3, f3, rfl, hC3, _, _, _, b8⟩
        replace hx := hx.below b8
        replace hW := hW.below b8
        replace A9 : BlkL (Value.int .i64) _ _ _ _ := Blk.below A9 b8
        replace A10 : BlkL (Value.int .i64) _ _ _ _ := Blk.below A10 b8
        replace A11 : BlkL (Value.int .i64) _ _ _ _ := Blk.below A11 b8
        replace A12 := Blk.below A12 b8
        have s1 := B1.size
        replace B1 := B1.trans (b8.mono (by omega))
        replace hC1 : BlkL (Value.int .i64) _ _ _ _ := Blk.below hC1 b8
        replace P1 := Blk.below P1 b8
        replace hC2 : BlkL (Value.int .i64) _ _ _ _ := Blk.below hC2 b8
        replace P2 := Blk.below P2 b8
        clear b8 hL3
        have P3 := Blk.new v3 #[.slice (some ⟨e3, 0, none⟩) 64 64, .slice (some ⟨f3, 0, none⟩) 64 64] 80
        have bz := (Below.refl v3.heap.size v3).alloc (Nat.le_refl _) (Obj.cells #[.slice (some ⟨e3, 0, none⟩) 64 64, .slice (some ⟨f3, 0, none⟩) 64 64] 80)
        replace hx := hx.below bz
        replace hW := hW.below bz
        replace A9 : BlkL (Value.int .i64) _ _ _ _ := Blk.below A9 bz
        replace A10 : BlkL (Value.int .i64) _ _ _ _ := Blk.below A10 bz
        replace A11 : BlkL (Value.int .i64) _ _ _ _ := Blk.below A11 bz
        replace A12 := Blk.below A12 bz
        have s1 := B1.size
        replace B1 := B1.trans (bz.mono (by omega))
        replace hC1 : BlkL (Value.int .i64) _ _ _ _ := Blk.below hC1 bz
        replace P1 := Blk.below P1 bz
        replace hC2 : BlkL (Value.int .i64) _ _ _ _ := Blk.below hC2 bz
        replace P2 := Blk.below P2 bz
        replace hC3 : BlkL (Value.int .i64) _ _ _ _ := Blk.below hC3 bz
        clear bz
        have c4 := (Blk.cell A12 4).trans k4
        have p1 := Blk.cell P1 0
        have p2 := Blk.cell P2 0
        have p3 := Blk.cell P3 0
        simp only [List.getElem?_toArray, List.getElem?_cons_zero, List.getElem?_cons_succ] at p1 p2 p3
        go_wp2_with fail
        clear p1 p2 p3 c4 hW
        generalize hggC : v3.heap.size = gC at *
        generalize v3.alloc (Obj.cells #[.slice (some ⟨e3, 0, none⟩) 64 64, .slice (some ⟨f3, 0, none⟩) 64 64] 80) = u3 at *
        go_loopw [23] (fun i wr => ∃ x : Nat, x ≤ 64 ∧ i = .int .i64 x ∧ Below u3.heap.size u3 wr) (fun i _ => 64 - (intOf i).toNat)
        case atStart => exact ⟨0, by omega, rfl, Below.refl _ _⟩
        case round =>
          obtain ⟨x, hx6, rfl, hb⟩ := hrel
          by_cases hxl : x < 64
          · have r0 := (Blk.cell (Blk.below A12 hb) 3).trans k3
            have r1 : wr.cell? ⟨gA, 0, none⟩ = some (.slice (some ⟨e1, 0, none⟩) 64 64) := Blk.cell (Blk.below P1 hb) 0
            have r2 : wr.cell? ⟨gB, 0, none⟩ = some (.slice (some ⟨e2, 0, none⟩) 64 64) := Blk.cell (Blk.below P2 hb) 0
            have r3 : wr.cell? ⟨gC, 0, none⟩ = some (.slice (some ⟨e3, 0, none⟩) 64 64) := Blk.cell (Blk.below P3 hb) 0
            have r4 : wr.cell? ⟨e1, x, none⟩ = some (.int .i64 (nth 0 L1.1.cols x)) := BlkL.at (w := wr) (Blk.below hC1 hb) (by omega)
            have r6 : wr.cell? ⟨e3, x, none⟩ = some (.int .i64 (nth 0 L3.1.cols x)) := BlkL.at (w := wr) (Blk.below hC3 hb) (by omega)
            obtain ⟨F1, F2, F3⟩ := F.out
            rw [← F3 x hxl] at r6
            have i1 : (x : Int) < 64 := by omega
            have i2 : decide ((x : Int) < 64) = true := by simp; omega
            by_cases hxw : (x : Int) < 16
            · have r5 : wr.cell? ⟨e2, (16 - 1 - (x : Int)).toNat, none⟩ = some (.int .i64 (nth 0 L2.1.cols (16 - 1 - (x : Int)).toNat)) := BlkL.at (w := wr) (Blk.below hC2 hb) (by omega)
              rw [← F1 x hxw hxl] at r5
              rw [show (16 - 1 - (x : Int)) = 15 - (x : Int) by omega] at r5
              have qx : decide ((x : Int) < 16) = true := by simpa using hxw
              have qy : decide ((x : Int) ≥ 16) = false := by simp; omega
              obtain ⟨yy, hyy⟩ : ∃ yy : Nat, 15 - (x : Int) = yy := ⟨(15 - (x : Int)).toNat, by omega⟩
              have i3 : (yy : Int) < 64 := by omega
              have i4 : IntKind.i64.wrap (15 - (x : Int)) = (yy : Int) := by rw [IntWalk.i64_in _ (by omega)]; exact hyy
              have i5 : IntKind.i64.wrap (16 - 1) = 15 := by decide
              rw [hyy, Int.toNat_natCast] at r5
              clear F1 F2 F3
              generalize nth 0 L1.1.cols x = z at *
              have qz : (z != z) = false := by simp
              go_wp2_with fail
              go_quiet (fail)
              go_wp2
              go_roundw
              case rel => exact ⟨x + 1, by omega, rfl, below_drewN hb nq⟩
              case measure => simp [intOf]; omega
            · rw [F2 x (by omega) hxl] at r4 r6
              have qx : decide ((x : Int) < 16) = false := by simp; omega
              have qy : decide ((x : Int) ≥ 16) = true := by simp; omega
              clear F1 F2 F3
              go_wp2_with fail
              go_quiet (fail)
              go_wp2
              go_roundw
              case rel => exact ⟨x + 1, by omega, rfl, below_drewN hb nq⟩
              case measure => simp [intOf]; omega
          · obtain rfl : x = 64 := by omega
            have s1 := B1.size
            go_wp2
            go_roundw
            case rel => exact ⟨j + 1, by omega, rfl, hx.below hb, Blk.below A9 hb, Blk.below A10 hb, Blk.below A11 hb, Blk.below A12 hb, B1.trans (hb.mono (by omega))⟩
            case measure => simp [intOf]; omega
      · obtain rfl : j = hh := by omega
        have d1 : decide ((j : Int) < (j : Int)) = false := by simp
        rw [← hge] at B1
        go_wp2
        go_ret
        exact ⟨rfl, B1⟩
  · have HFW := fun (j : Nat) (hj : j < hh) => HFL.out (j : Int) 32 (hh : Int) hwe HHH.out ⟨by omega, by omega⟩
    have HF := Lib.hid HFW
    clear HFW HFL
    rw [hwe] at c3 k3
    clear hwe
    go_wp2_with fail
    clear c3 c4 q1 q2
    go_loopw [13] (fun i wr => ∃ j : Nat, j ≤ hh ∧ i = .int .i64 j ∧ VAt 69 wr p g (madeOf xs) ∧ BlkL (Value.int .i64) wr g9 t1 37 ∧ BlkL (Value.int .i64) wr g10 t2 37 ∧ BlkL (Value.int .i64) wr g11 t3 37 ∧ Blk wr g12 s.cells 88 ∧ Below ge w wr) (fun i _ => hh - (intOf i).toNat)
    case atStart => exact ⟨0, by omega, rfl, hx, A9, A10, A11, A12, B1⟩
    case round =>
      clear hx A9 A10 A11 A12 B1
      obtain ⟨j, hj, rfl, hx, A9, A10, A11, A12, B1⟩ := hrel
      have c4 := (Blk.cell A12 4).trans k4
      by_cases hlt : j < hh
      · have d1 : decide ((j : Int) < (hh : Int)) = true := by simpa using hlt
        have j1 : (j : Int) < (hh : Int) := by omega
        have ok1 := sprLine_ok (madeOf xs).word 64 t1 j
        have ok2 := sprLine_ok (madeOf xs).word 64 t2 j
        have ok3 := sprLine_ok (madeOf xs).word 64 t3 ((hh : Int) - 1 - j)
        have hW := hx.toWords
        have F := Lib.hid (HF.out j hlt)
        have hL1 := fun w pv (hW : Words w pv (madeOf xs).word) => sprites_Line hW t1 l1 j 64 (by decide) (by decide)
        have hL2 := fun w pv (hW : Words w pv (madeOf xs).word) => sprites_Line hW t2 l2 j 64 (by decide) (by decide)
        have hL3 := fun w pv (hW : Words w pv (madeOf xs).word) => sprites_Line hW t3 l3 ((hh : Int) - 1 - j) 64 (by decide) (by decide)
        rw [aggI_eq] at hL1 hL2 hL3
        have o1 := ok1.cols
        have o2 := ok2.cols
        have o3 := ok3.cols
        clear ok1 ok2 ok3
        generalize sprLine (madeOf xs).word 64 t1 j = L1 at *
        generalize sprLine (madeOf xs).word 64 t2 j = L2 at *
        generalize sprLine (madeOf xs).word 64 t3 ((hh : Int) - 1 - j) = L3 at *
        go_wp2_with (refine wpList_load_row rfl 37 _ rfl g9 rfl 37 (cellsI t1) (0, 0) _ A9 Try.underlying37 rfl H1.out ?_)
        refine (hL1 _ _ hW).mono ?_; rintro e v1 ⟨e1, f1, rfl, hC1, _, _, _, b8⟩
        replace hx := hx.below b8
        replace hW := hW.below b8
        replace A9 : BlkL (Value.int .i64) _ _ _ _ := Blk.below A9 b8
        replace A10 : BlkL (Value.int .i64) _ _ _ _ := Blk.below A10 b8
        replace A11 : BlkL (Value.int .i64) _ _ _ _ := Blk.below A11 b8
        replace A12 := Blk.below A12 b8
        have s1 := B1.size
        replace B1 := B1.trans (b8.mono (by omega))
        clear b8 hL1
        have P1 := Blk.new v1 #[.slice (some ⟨e1, 0, none⟩) 64 64, .slice (some ⟨f1, 0, none⟩) 64 64] 80
        have bz := (Below.refl v1.heap.size v1).alloc (Nat.le_refl _) (Obj.cells #[.slice (some ⟨e1, 0, none⟩) 64 64, .slice (some ⟨f1, 0, none⟩) 64 64] 80)
        replace hx := hx.below bz
        replace hW := hW.below bz
        replace A9 : BlkL (Value.int .i64) _ _ _ _ := Blk.below A9 bz
        replace A10 : BlkL (Value.int .i64) _ _ _ _ := Blk.below A10 bz
        replace A11 : BlkL (Value.int .i64) _ _ _ _ := Blk.below A11 bz
        replace A12 := Blk.below A12 bz
        have s1 := B1.size
        replace B1 := B1.trans (bz.mono (by omega))
        replace hC1 : BlkL (Value.int .i64) _ _ _ _ := Blk.below hC1 bz
        clear bz
        have c4 := (Blk.cell A12 4).trans k4
        go_upto_region 15 with (fail)
        generalize hggA : v1.heap.size = gA at *
        generalize v1.alloc (Obj.cells #[.slice (some ⟨e1, 0, none⟩) 64 64, .slice (some ⟨f1, 0, none⟩) 64 64] 80) = u1 at *
        go_wp2_with (refine wpList_load_row rfl 37 _ rfl g10 rfl 37 (cellsI t2) (0, 0) _ A10 Try.underlying37 rfl H2.out ?_)
        refine (hL2 _ _ hW).mono ?_; rintro e v2 ⟨e2, f2, rfl, hC2, _, _, _, b8⟩
        replace hx := hx.below b8
        replace hW := hW.below b8
        replace A9 : BlkL (Value.int .i64) _ _ _ _ := Blk.below A9 b8
        replace A10 : BlkL (Value.int .i64) _ _ _ _ := Blk.below A10 b8
        replace A11 : BlkL (Value.int .i64) _ _ _ _ := Blk.below A11 b8
        replace A12 := Blk.below A12 b8
        have s1 := B1.size
        replace B1 := B1.trans (b8.mono (by omega))
        replace hC1 : BlkL (Value.int .i64) _ _ _ _ := Blk.below hC1 b8
        replace P1 := Blk.below P1 b8
        clear b8 hL2
        have P2 := Blk.new v2 #[.slice (some ⟨e2, 0, none⟩) 64 64, .slice (some ⟨f2, 0, none⟩) 64 64] 80
        have bz := (Below.refl v2.heap.size v2).alloc (Nat.le_refl _) (Obj.cells #[.slice (some ⟨e2, 0, none⟩) 64 64, .slice (some ⟨f2, 0, none⟩) 64 64] 80)
        replace hx := hx.below bz
        replace hW := hW.below bz
        replace A9 : BlkL (Value.int .i64) _ _ _ _ := Blk.below A9 bz
        replace A10 : BlkL (Value.int .i64) _ _ _ _ := Blk.below A10 bz
        replace A11 : BlkL (Value.int .i64) _ _ _ _ := Blk.below A11 bz
        replace A12 := Blk.below A12 bz
        have s1 := B1.size
        replace B1 := B1.trans (bz.mono (by omega))
        replace hC1 : BlkL (Value.int .i64) _ _ _ _ := Blk.below hC1 bz
        replace P1 := Blk.below P1 bz
        replace hC2 : BlkL (Value.int .i64) _ _ _ _ := Blk.below hC2 bz
        clear bz
        have c4 := (Blk.cell A12 4).trans k4
        go_upto_region 16 with (fail)
        generalize hggB : v2.heap.size = gB at *
        generalize v2.alloc (Obj.cells #[.slice (some ⟨e2, 0, none⟩) 64 64, .slice (some ⟨f2, 0, none⟩) 64 64] 80) = u2 at *
        go_wp2_with (refine wpList_load_row rfl 37 _ rfl g11 rfl 37 (cellsI t3) (0, 0) _ A11 Try.underlying37 rfl H3.out ?_)
        refine (hL3 _ _ hW).mono ?_; rintro e v3 ⟨e3, f3, rfl, hC3, _, _, _, b8⟩
        replace hx := hx.below b8
        replace hW := hW.below b8
        replace A9 : BlkL (Value.int .i64) _ _ _ _ := Blk.below A9 b8
        replace A10 : BlkL (Value.int .i64) _ _ _ _ := Blk.below A10 b8
        replace A11 : BlkL (Value.int .i64) _ _ _ _ := Blk.below A11 b8
        replace A12 := Blk.below A12 b8
        have s1 := B1.size
        replace B1 := B1.trans (b8.mono (by omega))
        replace hC1 : BlkL (Value.int .i64) _ _ _ _ := Blk.below hC1 b8
        replace P1 := Blk.below P1 b8
        replace hC2 : BlkL (Value.int .i64) _ _ _ _ := Blk.below hC2 b8
        replace P2 := Blk.below P2 b8
        clear b8 hL3
        have P3 := Blk.new v3 #[.slice (some ⟨e3, 0, none⟩) 64 64, .slice (some ⟨f3, 0, none⟩) 64 64] 80
        have bz := (Below.refl v3.heap.size v3).alloc (Nat.le_refl _) (Obj.cells #[.slice (some ⟨e3, 0, none⟩) 64 64, .slice (some ⟨f3, 0, none⟩) 64 64] 80)
        replace hx := hx.below bz
        replace hW := hW.below bz
        replace A9 : BlkL (Value.int .i64) _ _ _ _ := Blk.below A9 bz
        replace A10 : BlkL (Value.int .i64) _ _ _ _ := Blk.below A10 bz
        replace A11 : BlkL (Value.int .i64) _ _ _ _ := Blk.below A11 bz
        replace A12 := Blk.below A12 bz
        have s1 := B1.size
        replace B1 := B1.trans (bz.mono (by omega))
        replace hC1 : BlkL (Value.int .i64) _ _ _ _ := Blk.below hC1 bz
        replace P1 := Blk.below P1 bz
        replace hC2 : BlkL (Value.int .i64) _ _ _ _ := Blk.below hC2 bz
        replace P2 := Blk.below P2 bz
        replace hC3 : BlkL (Value.int .i64) _ _ _ _ := Blk.below hC3 bz
        clear bz
        have c4 := (Blk.cell A12 4).trans k4
        have p1 := Blk.cell P1 0
        have p2 := Blk.cell P2 0
        have p3 := Blk.cell P3 0
        simp only [List.getElem?_toArray, List.getElem?_cons_zero, List.getElem?_cons_succ] at p1 p2 p3
        go_wp2_with fail
        clear p1 p2 p3 c4 hW
        generalize hggC : v3.heap.size = gC at *
        generalize v3.alloc (Obj.cells #[.slice (some ⟨e3, 0, none⟩) 64 64, .slice (some ⟨f3, 0, none⟩) 64 64] 80) = u3 at *
        go_loopw [23] (fun i wr => ∃ x : Nat, x ≤ 64 ∧ i = .int .i64 x ∧ Below u3.heap.size u3 wr) (fun i _ => 64 - (intOf i).toNat)
        case atStart => exact ⟨0, by omega, rfl, Below.refl _ _⟩
        case round =>
          obtain ⟨x, hx6, rfl, hb⟩ := hrel
          by_cases hxl : x < 64
          · have r0 := (Blk.cell (Blk.below A12 hb) 3).trans k3
            have r1 : wr.cell? ⟨gA, 0, none⟩ = some (.slice (some ⟨e1, 0, none⟩) 64 64) := Blk.cell (Blk.below P1 hb) 0
            have r2 : wr.cell? ⟨gB, 0, none⟩ = some (.slice (some ⟨e2, 0, none⟩) 64 64) := Blk.cell (Blk.below P2 hb) 0
            have r3 : wr.cell? ⟨gC, 0, none⟩ = some (.slice (some ⟨e3, 0, none⟩) 64 64) := Blk.cell (Blk.below P3 hb) 0
            have r4 : wr.cell? ⟨e1, x, none⟩ = some (.int .i64 (nth 0 L1.1.cols x)) := BlkL.at (w := wr) (Blk.below hC1 hb) (by omega)
            have r6 : wr.cell? ⟨e3, x, none⟩ = some (.int .i64 (nth 0 L3.1.cols x)) := BlkL.at (w := wr) (Blk.below hC3 hb) (by omega)
            obtain ⟨F1, F2, F3⟩ := F.out
            rw [← F3 x hxl] at r6
            have i1 : (x : Int) < 64 := by omega
            have i2 : decide ((x : Int) < 64) = true := by simp; omega
            by_cases hxw : (x : Int) < 32
            · have r5 : wr.cell? ⟨e2, (32 - 1 - (x : Int)).toNat, none⟩ = some (.int .i64 (nth 0 L2.1.cols (32 - 1 - (x : Int)).toNat)) := BlkL.at (w := wr) (Blk.below hC2 hb) (by omega)
              rw [← F1 x hxw hxl] at r5
              rw [show (32 - 1 - (x : Int)) = 31 - (x : Int) by omega] at r5
              have qx : decide ((x : Int) < 32) = true := by simpa using hxw
              have qy : decide ((x : Int) ≥ 32) = false := by simp; omega
              obtain ⟨yy, hyy⟩ : ∃ yy : Nat, 31 - (x : Int) = yy := ⟨(31 - (x : Int)).toNat, by omega⟩
              have i3 : (yy : Int) < 64 := by omega
              have i4 : IntKind.i64.wrap (31 - (x : Int)) = (yy : Int) := by rw [IntWalk.i64_in _ (by omega)]; exact hyy
              have i5 : IntKind.i64.wrap (32 - 1) = 31 := by decide
              rw [hyy, Int.toNat_natCast] at r5
              clear F1 F2 F3
              generalize nth 0 L1.1.cols x = z at *
              have qz : (z != z) = false := by simp
              go_wp2_with fail
              go_quiet (fail)
              go_wp2
              go_roundw
              case rel => exact ⟨x + 1, by omega, rfl, below_drewN hb nq⟩
              case measure => simp [intOf]; omega
            · rw [F2 x (by omega) hxl] at r4 r6
              have qx : decide ((x : Int) < 32) = false := by simp; omega
              have qy : decide ((x : Int) ≥ 32) = true := by simp; omega
              clear F1 F2 F3
              go_wp2_with fail
              go_quiet (fail)
              go_wp2
              go_roundw
              case rel => exact ⟨x + 1, by omega, rfl, below_drewN hb nq⟩
              case measure => simp [intOf]; omega
          · obtain rfl : x = 64 := by omega
            have s1 := B1.size
            go_wp2
            go_roundw
            case rel => exact ⟨j + 1, by omega, rfl, hx.below hb, Blk.below A9 hb, Blk.below A10 hb, Blk.below A11 hb, Blk.below A12 hb, B1.trans (hb.mono (by omega))⟩
            case measure => simp [intOf]; omega
      · obtain rfl : j = hh := by omega
        have d1 : decide ((j : Int) < (j : Int)) = false := by simp
        rw [← hge] at B1
        go_wp2
        go_ret
        exact ⟨rfl, B1⟩
end Go.Proofs.Ytlhnfllfankjhaa
