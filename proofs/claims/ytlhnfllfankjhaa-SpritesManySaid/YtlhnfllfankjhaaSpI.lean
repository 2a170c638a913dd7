/- The walk of SpritesMany. -/
import Derived.Test.YtlhnfllfankjhaaSpG
namespace Go.Proofs.Ytlhnfllfankjhaa
open Go Go.RowKit
set_option linter.unusedSimpArgs false
set_option linter.unusedVariables false
set_option maxRecDepth 100000

/-- A table of k small sprites side by side. -/
def manyT : Nat → List Int
  | 0 => zeros 256
  | k + 1 => (((manyT k).set (4 * k) 64).set (4 * k + 1) (32 + 16 * (k : Int))).set (4 * k + 3) 1
theorem manyT_length : ∀ k, (manyT k).length = 256
  | 0 => zeros_length 256
  | k + 1 => by simp [manyT, manyT_length k]
theorem nth_manyT : ∀ (k j : Nat), k ≤ 64 → j < 256 → nth 0 (manyT k) j = if j < 4 * k then (if j % 4 = 0 then 64 else if j % 4 = 1 then 32 + 16 * ((j / 4 : Nat) : Int) else if j % 4 = 3 then 1 else 0) else 0
  | 0, j, _, hj => by rw [if_neg (by omega)]; exact nth_zeros 256 j
  | k + 1, j, hk, hj => by
    have ih := nth_manyT k j (by omega) hj
    have hl := manyT_length k
    show nth 0 ((((manyT k).set (4 * k) 64).set (4 * k + 1) (32 + 16 * (k : Int))).set (4 * k + 3) 1) j = _
    by_cases h3 : j = 4 * k + 3
    · subst h3
      rw [nth_set_eq (by simp; omega), if_pos (by omega), if_neg (by omega), if_neg (by omega), if_pos (by omega)]
    · rw [nth_set_ne (Ne.symm h3)]
      by_cases h1 : j = 4 * k + 1
      · subst h1
        rw [nth_set_eq (by simp; omega), if_pos (by omega), if_neg (by omega), if_pos (by omega)]
        omega
      · rw [nth_set_ne (Ne.symm h1)]
        by_cases h0 : j = 4 * k
        · subst h0
          rw [nth_set_eq (by omega), if_pos (by omega), if_pos (by omega)]
        · rw [nth_set_ne (Ne.symm h0), ih]
          by_cases h2 : j = 4 * k + 2
          · subst h2
            rw [if_neg (by omega), if_pos (by omega), if_neg (by omega), if_neg (by omega), if_neg (by omega)]
          · by_cases hlt : j < 4 * k
            · rw [if_pos hlt]; exact (if_pos (show j < 4 * (k + 1) by omega)).symm
            · rw [if_neg hlt, if_neg (by omega)]
theorem many_one (n k : Nat) (hn : n ≤ 32) (hk : k < n) : spOf (manyT n) k = ⟨16 * k, 0, 0, 16, 16, 1, false, false, false⟩ := by
  unfold spOf
  rw [nth_manyT n _ (by omega) (by omega), nth_manyT n _ (by omega) (by omega), nth_manyT n _ (by omega) (by omega), nth_manyT n _ (by omega) (by omega)]
  rw [if_pos (by omega), if_pos (by omega), if_pos (by omega), if_neg (by omega), if_pos (by omega), if_pos (by omega), if_neg (by omega), if_neg (by omega), if_neg (by omega), if_pos (by omega), if_neg (by omega), if_neg (by omega), if_pos (by omega)]
  unfold spW
  have e1 : (32 + 16 * (((4 * k + 1) / 4 : Nat) : Int)) % 1024 - 32 = 16 * (k : Int) := by
    rw [show (4 * k + 1) / 4 = k by omega]; omega
  rw [e1]
  rfl
theorem many_off (n k : Nat) (y : Int) (hy : 0 ≤ y) (hn : n ≤ 32) (hk : n ≤ k) : ¬ (spOf (manyT n) k).on y := by
  refine spOf_zero _ _ _ hy fun j h1 h2 => ?_
  by_cases hj : j < 256
  · rw [nth_manyT n j (by omega) hj, if_neg (by omega)]
  · rw [nth_ge (by rw [manyT_length]; omega)]
/-- The one word of the picture of full rows. -/
def row1 (y : Int) : List PokeV := [⟨y, 65535⟩]
theorem row1_word (y : Int) (hy : 0 ≤ y ∧ y < 16) (n : Int) : (madeOf (row1 y)).word n = if n % 65536 = y then 65535 else 0 := by
  have hl : VS.new.W.length = 32768 := VS.Ok.new.len
  show (VS.new.poke y 65535).word n = _
  by_cases h0 : n % 65536 = y
  · rw [if_pos h0, VS.word_poke_eq _ hl y n 65535 (by omega), if_pos (by omega)]; rfl
  · rw [if_neg h0, VS.word_poke_ne _ _ _ _ (by omega)]; exact VS.word_new _
theorem bit_full (j : Int) (h : 0 ≤ j ∧ j ≤ 15) : bitI 65535 j = 1 := by
  rcases (show j = 0 ∨ j = 1 ∨ j = 2 ∨ j = 3 ∨ j = 4 ∨ j = 5 ∨ j = 6 ∨ j = 7 ∨ j = 8 ∨ j = 9 ∨ j = 10 ∨ j = 11 ∨ j = 12 ∨ j = 13 ∨ j = 14 ∨ j = 15 by omega) with rfl | rfl | rfl | rfl | rfl | rfl | rfl | rfl | rfl | rfl | rfl | rfl | rfl | rfl | rfl | rfl <;> decide
theorem many_at (n k : Nat) (hn : n ≤ 32) (hk : k < n) (y : Int) (hy : 0 ≤ y ∧ y < 16) (x : Nat) : (spOf (manyT n) k).at (madeOf (row1 y)).word y 16 x = if 16 * k ≤ x ∧ x < 16 * k + 16 then 1 else 0 := by
  rw [many_one n k hn hk]
  unfold SpV.at
  by_cases h : 16 * k ≤ x ∧ x < 16 * k + 16
  · rw [if_pos h, if_pos (by simp only; omega)]
    simp only
    generalize hi : (x : Int) - 16 * k = i
    have hi2 : 0 ≤ i ∧ i < 16 := by omega
    have e0 : (madeOf (row1 y)).word y = 65535 := by rw [row1_word y hy, if_pos (by omega)]
    have e1 : (madeOf (row1 y)).word (y + 16 * 1) = 0 := by rw [row1_word y hy, if_neg (by omega)]
    have e2 : (madeOf (row1 y)).word (y + 16 * 2) = 0 := by rw [row1_word y hy, if_neg (by omega)]
    have e3 : (madeOf (row1 y)).word (y + 16 * 3) = 0 := by rw [row1_word y hy, if_neg (by omega)]
    generalize (madeOf (row1 y)).word = f at *
    have hz : ∀ j, bitI 0 j = 0 := fun j => by unfold bitI; split <;> simp
    have hp : (⟨16 * k, 0, 0, 16, 16, 1, false, false, false⟩ : SpV).place (y - 0) (i / 16) = y := by
      unfold SpV.place; simp only; omega
    show (((0 + 2 ^ 0 * bitI (f ((⟨16 * k, 0, 0, 16, 16, 1, false, false, false⟩ : SpV).place (y - 0) (i / 16) + 16 * (0 : Nat))) (15 - i % 16)) + 2 ^ 1 * bitI (f ((⟨16 * k, 0, 0, 16, 16, 1, false, false, false⟩ : SpV).place (y - 0) (i / 16) + 16 * (1 : Nat))) (15 - i % 16)) + 2 ^ 2 * bitI (f ((⟨16 * k, 0, 0, 16, 16, 1, false, false, false⟩ : SpV).place (y - 0) (i / 16) + 16 * (2 : Nat))) (15 - i % 16)) + 2 ^ 3 * bitI (f ((⟨16 * k, 0, 0, 16, 16, 1, false, false, false⟩ : SpV).place (y - 0) (i / 16) + 16 * (3 : Nat))) (15 - i % 16) = 1
    rw [hp]
    rw [show y + 16 * ((0 : Nat) : Int) = y by omega, show y + 16 * ((1 : Nat) : Int) = y + 16 * 1 by omega, show y + 16 * ((2 : Nat) : Int) = y + 16 * 2 by omega, show y + 16 * ((3 : Nat) : Int) = y + 16 * 3 by omega]
    rw [e0, e1, e2, e3, hz, bit_full _ (by omega)]
    decide
  · rw [if_neg h, if_neg (by simp only; omega)]
structure ManyIs (k : Nat) (S : SS) : Prop where
  ok : S.Ok 512
  cols : ∀ x, x < 512 → nth 0 S.cols x = if x < 16 * k then 17 else 0
  first : ∀ x, x < 512 → nth false S.first x = (decide (0 < k) && decide (x < 16))
  hit : S.hit = false
theorem ManyIs.next {k n : Nat} {S : SS} (h : ManyIs k S) (hn : n ≤ 32) (hk : k < n) (y : Int) (hy : 0 ≤ y ∧ y < 16) : ManyIs (k + 1) (S.sp (madeOf (row1 y)).word 512 k (spOf (manyT n) k) y 16) := by
  have hin := spOf_in (manyT n) k
  have hi := SS.sp_is h.ok (madeOf (row1 y)).word (k : Int) (by omega) hin y 16
  have hat := many_at n k hn hk y hy
  have hP : (spOf (manyT n) k).P = 1 := by rw [many_one n k hn hk]
  refine ⟨h.ok.sp _ _ hin _ _, fun x hx => ?_, fun x hx => ?_, ?_⟩
  · rw [hi.cols x hx, hat x, h.cols x hx, hP]
    by_cases h1 : x < 16 * k
    · rw [if_pos h1, if_neg (by omega), if_pos (by omega)]
    · rw [if_neg h1]
      by_cases h2 : 16 * k ≤ x ∧ x < 16 * k + 16
      · rw [if_pos h2, if_pos (by decide), if_pos (by omega)]; decide
      · rw [if_neg h2, if_neg (by decide), if_neg (by omega)]
  · rw [hi.first x hx, hat x, h.first x hx]
    by_cases hk0 : k = 0
    · subst hk0
      by_cases h2 : x < 16
      · simp [h2]
      · simp [h2]
    · have : ((k : Int) == 0) = false := by simpa using hk0
      rw [this]
      simp
      omega
  · rcases hh : (S.sp (madeOf (row1 y)).word 512 k (spOf (manyT n) k) y 16).hit
    · rfl
    · rcases hi.hit.1 hh with h1 | ⟨h1, x, h2, h3, h4⟩
      · rw [h.hit] at h1; cases h1
      · rw [hat x] at h3
        rw [h.first x h2] at h4
        simp at h4
        by_cases h5 : 16 * k ≤ x ∧ x < 16 * k + 16
        · omega
        · rw [if_neg h5] at h3; exact absurd rfl h3
theorem many_scan (n : Nat) (hn : n ≤ 32) (y : Int) (hy : 0 ≤ y ∧ y < 16) : ∀ (d k : Nat) (S : SS), k + d = min n 16 → ManyIs k S → ∃ R, scan (madeOf (row1 y)).word 512 (manyT n) y (64 - k) k S k = (R, decide (16 < n)) ∧ ManyIs (min n 16) R
  | 0, k, S, hd, h => by
    refine ⟨S, ?_, by rw [← hd]; exact h⟩
    by_cases h16 : n ≤ 16
    · rw [scan_none _ _ _ _ _ _ _ _ (fun j h1 h2 => many_off n j y hy.1 hn (by omega))]
      rw [show decide (16 < n) = false by simp; omega]
    · obtain rfl : k = 16 := by omega
      have hon : (spOf (manyT n) 16).on y := by rw [many_one n 16 hn (by omega)]; exact ⟨hy.1, by show y < 0 + 16; omega⟩
      have hov : 16 < ((16 : Nat) : Int) + (spOf (manyT n) 16).W / 16 := by rw [many_one n 16 hn (by omega)]; decide
      rw [show 64 - 16 = 47 + 1 from rfl, scan_over _ _ _ _ _ _ _ _ hon hov]
      rw [show decide (16 < n) = true by simp; omega]
  | d + 1, k, S, hd, h => by
    have hkn : k < n := by omega
    have hon : (spOf (manyT n) k).on y := by rw [many_one n k hn hkn]; exact ⟨hy.1, by show y < 0 + 16; omega⟩
    have hW : (spOf (manyT n) k).W = 16 := by rw [many_one n k hn hkn]
    have hov : ¬ 16 < (k : Int) + (spOf (manyT n) k).W / 16 := by rw [hW]; omega
    obtain ⟨R, h1, h2⟩ := many_scan n hn y hy d (k + 1) _ (by omega) (h.next hn hkn y hy)
    refine ⟨R, ?_, h2⟩
    rw [show 64 - k = (63 - k) + 1 by omega, scan_on _ _ _ _ _ _ _ _ hon hov, hW]
    rw [show 64 - (k + 1) = 63 - k by omega] at h1
    rw [← h1]
    congr 1
theorem many_line (n : Nat) (hn : n ≤ 32) (y : Int) (hy : 0 ≤ y ∧ y < 16) : (sprLine (madeOf (row1 y)).word 512 (manyT n) y).2 = decide (16 < n) ∧ (sprLine (madeOf (row1 y)).word 512 (manyT n) y).1.hit = false ∧ (sprLine (madeOf (row1 y)).word 512 (manyT n) y).1.cols.length = 512 ∧
    ∀ x, x < 512 → nth 0 (sprLine (madeOf (row1 y)).word 512 (manyT n) y).1.cols x = if x < 16 * min n 16 then 17 else 0 := by
  have h0 : ManyIs 0 (SS.zero 512) := ⟨SS.Ok.zero 512, fun x _ => by rw [zero_cols, if_neg (by omega)], fun x _ => by rw [zero_first]; rfl, rfl⟩
  obtain ⟨R, h1, h2⟩ := many_scan n hn y hy (min n 16) 0 _ (by omega) h0
  have e : sprLine (madeOf (row1 y)).word 512 (manyT n) y = (R, decide (16 < n)) := h1
  rw [e]
  exact ⟨rfl, h2.hit, h2.ok.cols, h2.cols⟩
theorem row1_at {w : World} {g : Nat} {y : Int} (h : Blk w g #[.int .i64 y, .int .i64 65535] 46) : PokesAt w (some ⟨g, 0, none⟩) (row1 y) := by
  intro i hi
  have hi2 : i < 1 := hi
  obtain rfl : i = 0 := by omega
  exact ⟨_, rfl, h.cell 0, h.cell 1⟩
theorem row1_in {y : Int} (hy : 0 ≤ y ∧ y < 16) : ∀ x ∈ row1 y, x.In := by
  intro x hx
  simp [row1] at hx
  subst hx; unfold PokeV.In; simp; omega

set_option maxHeartbeats 4000000 in
theorem spritesMany_walk (n0 y0 : Int) (w : World) :
    Calls Try.prog 20 #[.int .i64 n0, .int .i64 y0] w fun e w' => e = .returned (.bool true) ∧ Below w.heap.size w w' := by
  have HZ := Lib.hid zero256
  obtain ⟨n, hn, hnl⟩ : ∃ n : Nat, n0 % 32 = n ∧ n < 32 := ⟨(n0 % 32).toNat, by omega, by omega⟩
  obtain ⟨y, hy, hyl⟩ : ∃ y : Int, y0 % 16 = y ∧ 0 ≤ y ∧ y < 16 := ⟨y0 % 16, rfl, by omega, by omega⟩
  have HN := Lib.hid hn
  have HY := Lib.hid hy
  clear hn hy
  go_enter Try.func20, Try.ntmps20
  go_wp2_with fail
  rw [HY.out, HN.out]
  have Y := Blk.new w #[Value.int .i64 y, Value.int .i64 65535] 46
  have B1 := (Below.refl w.heap.size w).alloc (Nat.le_refl _) (Obj.cells #[Value.int .i64 y, Value.int .i64 65535] 46)
  generalize hge : w.heap.size = ge at *
  generalize w.alloc (Obj.cells #[Value.int .i64 y, Value.int .i64 65535] 46) = w1 at *
  refine (law17_Made (some ⟨ge, 0, none⟩) 1 (row1 y) (row1_at Y) (row1_in hyl) (by show 1 ≤ maxLen; decide)).mono ?_; rintro e w2 ⟨p, g, q, h, rfl, T⟩
  have s1 := B1.size
  replace B1 := B1.trans (T.below.mono (by omega))
  have hx := T.x
  clear T Y HN HY
  have lx := hx.lt
  have hz := HZ.out
  go_wp2_with fail
  clear hz
  have A7 : BlkL (Value.int .i64) _ w2.heap.size (manyT 0) 37 := Blk.new w2 (cellsI (zeros 256)) 37
  have bz := (Below.refl w2.heap.size w2).alloc (Nat.le_refl _) (Obj.cells (cellsI (zeros 256)) 37)
  replace hx := hx.below bz
  have s1 := B1.size
  replace B1 := B1.trans (bz.mono (by omega))
  clear bz
  have bge : ge ≤ w2.heap.size := by omega
  generalize hg7 : w2.heap.size = g7 at *
  generalize w2.alloc (Obj.cells (cellsI (zeros 256)) 37) = w3 at *
  go_loopw [8] (fun i wr => ∃ k : Nat, k ≤ n ∧ i = .int .i64 k ∧ BlkL (Value.int .i64) wr g7 (manyT k) 37 ∧ VAt 69 wr p g (madeOf (row1 y)) ∧ Below ge w wr) (fun i _ => n - (intOf i).toNat)
  case atStart => exact ⟨0, by omega, rfl, A7, hx, B1⟩
  case round =>
    clear A7 hx B1
    obtain ⟨k, hk, rfl, A7, hx, B1⟩ := hrel
    by_cases hlt : k < n
    · have d1 : decide ((k : Int) < (n : Int)) = true := by simpa using hlt
      have j1 : (k : Int) < (n : Int) := by omega
      have j2 : (k : Int) < 32 := by omega
      have hl := manyT_length k
      have i0 : (4 * (k : Int)).toNat = 4 * k := by omega
      have i1 : (4 * (k : Int) + 1).toNat = 4 * k + 1 := by omega
      have i3 : (4 * (k : Int) + 3).toNat = 4 * k + 3 := by omega
      have c0 := BlkL.at A7 (i := 4 * k) (by omega)
      have c1 := BlkL.at A7 (i := 4 * k + 1) (by omega)
      have c3 := BlkL.at A7 (i := 4 * k + 3) (by omega)
      have f0 := Blk.free A7 (4 * k)
      have f1 := Blk.free A7 (4 * k + 1)
      have f3 := Blk.free A7 (4 * k + 3)
      have T7 := (((Tr.refl [g7] wr).setCell (b := g7) (4 * k) (by simp) (.int .i64 64)).setCell (b := g7) (4 * k + 1) (by simp) (.int .i64 (32 + 16 * (k : Int)))).setCell (b := g7) (4 * k + 3) (by simp) (.int .i64 1)
      have hx2 := hx.tr T7 (by simp; omega) (by simp; omega)
      have A72 : BlkL (Value.int .i64) _ g7 (manyT (k + 1)) _ := BlkL.set (i := 4 * k + 3) (BlkL.set (i := 4 * k + 1) (BlkL.set (i := 4 * k) A7 64) (32 + 16 * (k : Int))) 1
      have B2 := Tr.below B1 T7 (by omega) (by simp; omega)
      clear hl A7 hx T7 B1
      go_wp2
      go_roundw
      case rel => exact ⟨k + 1, by omega, rfl, A72, hx2, B2⟩
      case measure => simp [intOf]; omega
    · obtain rfl : k = n := by omega
      have d1 : decide ((k : Int) < (k : Int)) = false := by simp
      have hl := manyT_length k
      have hsz : (Try.prog.info? 37).map (·.size) = some (cellsI (manyT k)).size := by rw [cellsI_size, hl]; exact size256
      have HSZ := Lib.hid hsz
      clear hsz
      go_wp2_with (refine wpList_load_row rfl 37 _ rfl g7 rfl 37 (cellsI (manyT k)) (0, 0) _ A7 Try.underlying37 rfl HSZ.out ?_)
      have hL1 := sprites_Line hx.toWords (manyT k) hl y 512 (by decide) (by decide)
      rw [aggI_eq] at hL1
      obtain ⟨m1, m2, m3, m4⟩ := many_line k (by omega) y hyl
      rw [m1, m2] at hL1
      refine hL1.mono ?_; rintro e w8 ⟨gc, gf, rfl, hC, hF, gcb, gfb, b8⟩
      clear hL1 m1 m2
      generalize (sprLine (madeOf (row1 y)).word 512 (manyT k) y).1.cols = CL at *
      have s1 := B1.size
      replace B1 := B1.trans (b8.mono (by omega))
      clear b8 A7 hx hF
      have M4 := Lib.hid m4
      clear m4
      obtain ⟨ov, hov1, hov2, hov3⟩ : ∃ ov, decide (16 < k) = ov ∧ decide ((k : Int) > 16) = ov ∧ decide ((16 : Int) < (k : Int)) = ov := by
        by_cases h : 16 < k
        · exact ⟨true, by simpa using h, by simp; omega, by simp; omega⟩
        · exact ⟨false, by simpa using h, by simp; omega, by simp; omega⟩
      rw [hov1]
      have q1 : (ov != ov) = false := by simp
      clear hov1
      have hlc : gc < w8.heap.size := Blk.lt hC
      go_wp2_with fail
      have Z := Blk.new w8 #[.slice (some ⟨gc, 0, none⟩) 512 512, .slice (some ⟨gf, 0, none⟩) 512 512] 80
      have bz := (Below.refl w8.heap.size w8).alloc (Nat.le_refl _) (Obj.cells #[.slice (some ⟨gc, 0, none⟩) 512 512, .slice (some ⟨gf, 0, none⟩) 512 512] 80)
      replace hC : BlkL (Value.int .i64) _ _ _ _ := Blk.below hC bz
      have s1 := B1.size
      replace B1 := B1.trans (bz.mono (by omega))
      clear bz hov2 hov3 q1
      rw [← hge] at B1
      generalize hgz : w8.heap.size = gz at *
      generalize w8.alloc (Obj.cells #[.slice (some ⟨gc, 0, none⟩) 512 512, .slice (some ⟨gf, 0, none⟩) 512 512] 80) = w9 at *
      go_loopw [12] (fun i wr => ∃ x : Nat, x ≤ 512 ∧ i = .int .i64 x ∧ w9 = wr) (fun i _ => 512 - (intOf i).toNat)
      case atStart => exact ⟨0, by omega, rfl, rfl⟩
      case round =>
        obtain ⟨x, hx5, rfl, rfl⟩ := hrel
        by_cases hx : x < 512
        · have d2 : decide ((x : Int) < 512) = true := by simp; omega
          have i2 : (x : Int) < 512 := by omega
          have r0 := Blk.cell Z 0
          simp only [List.getElem?_toArray, List.getElem?_cons_zero, List.getElem?_cons_succ] at r0
          have r4 := BlkL.at hC (i := x) (by omega)
          rw [M4.out x hx] at r4
          obtain ⟨m, hm, hm2⟩ : ∃ m : Nat, m = min k 16 ∧ (m : Int) = min (k : Int) 16 := ⟨min k 16, rfl, by omega⟩
          rw [← hm] at r4
          by_cases hlt : x < 16 * m
          · rw [if_pos hlt] at r4
            go_wp2_with fail
            exact ⟨⟨x + 1, by omega, rfl, trivial⟩, by simp [intOf]; omega⟩
          · rw [if_neg hlt] at r4
            go_wp2_with fail
            exact ⟨⟨x + 1, by omega, rfl, trivial⟩, by simp [intOf]; omega⟩
        · obtain rfl : x = 512 := by omega
          go_wp2
          go_ret
          exact ⟨rfl, B1⟩
end Go.Proofs.Ytlhnfllfankjhaa
