/- The walk of SpritesLine. -/
import Derived.Test.YtlhnfllfankjhaaSpF
import Derived.Test.YtlhnfllfankjhaaSpL
import Derived.Test.YtlhnfllfankjhaaMade
namespace Go.Proofs.Ytlhnfllfankjhaa
open Go Go.RowKit
set_option linter.unusedSimpArgs false
set_option linter.unusedVariables false
set_option maxRecDepth 100000

theorem table_range (xs : List Int) (k : Nat) (hx : ∀ x ∈ xs, -9223372036854775808 ≤ x ∧ x ≤ 9223372036854775807) (i : Nat) : -9223372036854775808 ≤ nth 0 (table xs k) i ∧ nth 0 (table xs k) i ≤ 9223372036854775807 := by
  by_cases hi : i < 256
  · rw [nth_table xs k i hi]
    split
    · by_cases hl : i < xs.length
      · exact hx _ (nth_mem hl)
      · rw [nth_ge (by omega)]; omega
    · omega
  · rw [nth_ge (by rw [table_length]; omega)]; omega

/-- Lines that are none. -/
theorem sprites_Line_no {w : World} {pv : Value} (t : List Int) (y n : Int) (hn : n < 1 ∨ 512 < n) : Calls Try.prog 51 #[pv, aggI t, .int .i64 y, .int .i64 n] w fun e w' =>
    e = .returned (.tuple #[.agg #[.slice none 0 0, .slice none 0 0], .bool false, .bool false]) ∧ Below w.heap.size w w' := by
  rw [aggI_eq]
  have hcase : n < 1 ∨ (¬ n < 1 ∧ 512 < n) := by omega
  clear hn
  generalize cellsI t = tc
  rcases hcase with h1 | ⟨h1, h2⟩
  all_goals
    have B1 := ((((Below.refl w.heap.size w).alloc (Nat.le_refl _) (Obj.cells tc 37)).alloc (by simp) (Obj.cells #[Value.int .i64 n] 3)).alloc (by simp; omega) (Obj.cells #[Value.slice none 0 0, Value.slice none 0 0] 80)).alloc (by simp; omega) (Obj.cells #[Value.bool false] 4)
    have A8 : Blk _ (w.heap.size + 1 + 1) _ _ := Blk.alloc (Blk.new' ((w.alloc (Obj.cells tc 37)).alloc (Obj.cells #[Value.int .i64 n] 3)) (n := w.heap.size + 1 + 1) #[Value.slice none 0 0, Value.slice none 0 0] 80 (by simp)) (Obj.cells #[Value.bool false] 4)
    have A10 := Blk.new' (((w.alloc (Obj.cells tc 37)).alloc (Obj.cells #[Value.int .i64 n] 3)).alloc (Obj.cells #[Value.slice none 0 0, Value.slice none 0 0] 80)) (n := w.heap.size + 1 + 1 + 1) #[Value.bool false] 4 (by simp)
    go_enter Try.func51, Try.ntmps51
    go_wp2_with fail
    go_step3
    go_wp2_with fail
    rw [Exit.noGoto_ret]
    generalize ((((w.alloc (Obj.cells tc 37)).alloc (Obj.cells #[Value.int .i64 n] 3)).alloc (Obj.cells #[Value.slice none 0 0, Value.slice none 0 0] 80)).alloc (Obj.cells #[Value.bool false] 4)) = w6 at *
    have p1 := Blk.cell A8 0
    have p2 := Blk.cell A8 1
    have p3 := Blk.cell A10 0
    simp only [List.getElem?_toArray, List.getElem?_cons_zero, List.getElem?_cons_succ] at p1 p2 p3
    exact bodyPost_ret (v := .tuple #[.agg #[.slice none 0 0, .slice none 0 0], .bool false, .bool false]) (by simp [results, Try.results51, go_sem, p1, p2, p3]) rfl ⟨rfl, B1⟩
theorem ref18_Line_no {w : World} {pv : Value} (t : List Int) (y n : Int) (hn : n < 1 ∨ 512 < n) : Calls Try.prog 52 #[pv, aggI t, .int .i64 y, .int .i64 n] w fun e w' =>
    e = .returned (.tuple #[.slice none 0 0, .slice none 0 0, .bool false, .bool false]) ∧ Below w.heap.size w w' := by
  rw [aggI_eq]
  have hcase : n < 1 ∨ (¬ n < 1 ∧ 512 < n) := by omega
  clear hn
  generalize cellsI t = tc
  rcases hcase with h1 | ⟨h1, h2⟩
  all_goals
    have B1 := (Below.refl w.heap.size w).alloc (Nat.le_refl _) (Obj.cells tc 37)
    go_enter Try.func52, Try.ntmps52
    go_wp2_with fail
    exact bodyPost_ret (v := .tuple #[.slice none 0 0, .slice none 0 0, .bool false, .bool false]) (by simp [results, Try.results52, go_sem]) rfl ⟨rfl, B1⟩

/-- The statements' small picture of one sprite's pixel. -/
def dot1 : List PokeV := [⟨0, 32768⟩]
theorem dot1_word (n : Int) : (madeOf dot1).word n = if n % 65536 = 0 then 32768 else 0 := by
  have hl : VS.new.W.length = 32768 := VS.Ok.new.len
  show (VS.new.poke 0 32768).word n = _
  by_cases h0 : n % 65536 = 0
  · rw [if_pos h0, VS.word_poke_eq _ hl 0 n 32768 (by omega), if_pos (by omega)]; rfl
  · rw [if_neg h0, VS.word_poke_ne _ _ _ _ (by omega)]; exact VS.word_new _
theorem dot1_at {w : World} {g : Nat} (h : Blk w g #[.int .i64 0, .int .i64 32768] 46) : PokesAt w (some ⟨g, 0, none⟩) dot1 := by
  intro i hi
  have hi2 : i < 1 := hi
  obtain rfl : i = 0 := by omega
  exact ⟨_, rfl, h.cell 0, h.cell 1⟩
theorem dot1_in : ∀ x ∈ dot1, x.In := by
  intro x hx
  simp [dot1] at hx
  subst hx; unfold PokeV.In; simp
def tab1 : List Int := table [64, 32, 0, 3] 4
theorem tab1_nth (i : Nat) (hi : 4 ≤ i) : nth 0 tab1 i = 0 := by
  by_cases h : i < 256
  · unfold tab1; rw [nth_table _ _ _ h, if_neg (by omega)]
  · rw [nth_ge (by unfold tab1; rw [table_length]; omega)]
theorem tab1_one : spOf tab1 0 = ⟨0, 0, 0, 16, 16, 3, false, false, false⟩ := by
  unfold spOf tab1
  rw [nth_table _ _ _ (by decide), nth_table _ _ _ (by decide), nth_table _ _ _ (by decide), nth_table _ _ _ (by decide)]
  rfl
theorem dot1_line : (sprLine (madeOf dot1).word 1 tab1 0).1.cols.length = 1 ∧ nth 0 (sprLine (madeOf dot1).word 1 tab1 0).1.cols 0 = 49 := by
  have hon : (spOf tab1 0).on 0 := by rw [tab1_one]; exact ⟨by decide, by decide⟩
  have h := sprLine_one (madeOf dot1).word 1 tab1 0 hon (fun j h1 h2 => spOf_zero tab1 j 0 (by decide) (fun i hi1 hi2 => tab1_nth i (by omega)))
  refine ⟨(sprLine_ok _ _ _ _).cols, ?_⟩
  rw [h]
  have hi := (SS.sp_is (SS.Ok.zero 1) (madeOf dot1).word 0 (by decide) (spOf_in tab1 0) 0 (spOf tab1 0).W.toNat).cols 0 (by decide)
  have hat : (spOf tab1 0).at (madeOf dot1).word 0 (spOf tab1 0).W.toNat 0 = 1 := by
    rw [tab1_one]
    unfold SpV.at
    rw [if_pos (by decide)]
    show pxTo _ 4 = 1
    have e0 : (madeOf dot1).word 0 = 32768 := by rw [dot1_word]; rfl
    have e1 : (madeOf dot1).word 16 = 0 := by rw [dot1_word]; rfl
    have e2 : (madeOf dot1).word 32 = 0 := by rw [dot1_word]; rfl
    have e3 : (madeOf dot1).word 48 = 0 := by rw [dot1_word]; rfl
    show (((0 + 2 ^ 0 * bitI ((madeOf dot1).word 0) 15) + 2 ^ 1 * bitI ((madeOf dot1).word 16) 15) + 2 ^ 2 * bitI ((madeOf dot1).word 32) 15) + 2 ^ 3 * bitI ((madeOf dot1).word 48) 15 = 1
    rw [e0, e1, e2, e3]; decide
  rw [hi, hat, zero_cols, if_pos (by decide), tab1_one]
  decide

set_option maxHeartbeats 4000000 in
theorem spritesLine_walk (a : Option Addr) (c : Nat) (xs : List PokeV) (b : Option Addr) (d : Nat) (ys : List Int) (y n : Int) (w : World) (S : PokesAt w a xs) (hI : ∀ x ∈ xs, x.In) (hm : xs.length ≤ maxLen) (hmb : ys.length ≤ maxLen) (S2 : SlAt (Value.int .i64) 0 w b ys) (hyr : ∀ x ∈ ys, -9223372036854775808 ≤ x ∧ x ≤ 9223372036854775807) :
    Calls Try.prog 17 #[.slice a xs.length c, .slice b ys.length d, .agg #[.int .i64 y, .int .i64 n]] w fun e w' => e = .returned (.bool true) ∧ Below w.heap.size w w' := by
  have A5 := Blk.new w #[Value.int .i64 y, Value.int .i64 n] 29
  have B1 := (Below.refl w.heap.size w).alloc (Nat.le_refl _) (Obj.cells #[Value.int .i64 y, Value.int .i64 n] 29)
  have S3 := S2.below B1
  have hz := zero256
  have HZ := Lib.hid hz
  clear hz
  go_enter Try.func17, Try.ntmps17
  go_wp2_with fail
  generalize w.alloc (Obj.cells #[Value.int .i64 y, Value.int .i64 n] 29) = w1 at *
  refine (law17_Made a c xs (S.below B1) hI hm).mono ?_; rintro e w2 ⟨p, g, q, h, rfl, T⟩
  replace A5 := Blk.below A5 T.below
  replace S3 := S3.below T.below
  replace B1 := B1.trans (T.below.mono B1.size)
  clear S hI S2
  generalize hge : w.heap.size = ge at *
  go_wp2_with fail
  refine (law18_Table b d ys w2 hmb S3).mono ?_; rintro e w3 ⟨rfl, b3⟩
  have htl := table_length ys (min ys.length 256)
  have htr := table_range ys (min ys.length 256) hyr
  generalize table ys (min ys.length 256) = t at *
  replace T := T.of_below b3
  replace A5 := Blk.below A5 b3
  have s1 := B1.size
  replace B1 := B1.trans (b3.mono (by omega))
  clear b3 S3
  have Z := Blk.new w3 (cellsI (zeros 256)) 37
  have hz := HZ.out
  have H1 : Hid ((Try.prog.info? 37).map (·.size) = some (cellsI t).size) := Lib.hid (by rw [cellsI_size, htl]; exact size256)
  have H2 : Hid ((cellsI (zeros 256)).size = (cellsI t).size) := Lib.hid (by rw [cellsI_size, cellsI_size, htl, zeros_length])
  go_upto_region 3 with (refine wpList_store_row rfl 37 _ _ rfl w3.heap.size (cellsI t) rfl rfl 37 (cellsI (zeros 256)) Z H1.out H2.out (cellsI_one _) ?_)
  clear hz
  have A9 : Blk _ w3.heap.size (cellsI t) _ := Blk.setRow Z (cellsI t)
  have b4 : Below w3.heap.size w3 ((w3.alloc (Obj.cells (cellsI (zeros 256)) 37)).setRow w3.heap.size (cellsI t)) := below_setRow ((Below.refl _ _).alloc (Nat.le_refl _) _) (Nat.le_refl _) _
  replace T := T.of_below b4
  replace A5 := Blk.below A5 b4
  have s1 := B1.size
  replace B1 := B1.trans (b4.mono (by omega))
  generalize hg9 : w3.heap.size = g9 at *
  generalize (w3.alloc (Obj.cells (cellsI (zeros 256)) 37)).setRow g9 (cellsI t) = w4 at *
  have k0 := A5.cell 0
  have k1 := A5.cell 1
  simp only [List.getElem?_toArray, List.getElem?_cons_zero, List.getElem?_cons_succ] at k0 k1
  clear b4 Z H2
  go_wp2_with (refine wpList_load_row rfl 37 _ rfl g9 rfl 37 (cellsI t) (0, 0) _ A9 Try.underlying37 rfl H1.out ?_)
  clear k0 k1
  have lv := T.below.size
  by_cases hn : 1 ≤ n ∧ n ≤ 512
  · obtain ⟨m, rfl⟩ : ∃ m : Nat, n = m := ⟨n.toNat, by omega⟩
    have hL1 := sprites_Line T.x.toWords t htl y m (by omega) (by omega)
    rw [aggI_eq] at hL1
    refine hL1.mono ?_; rintro e w5 ⟨gc, gf, rfl, hC, hF, gcb, gfb, b5⟩
    clear hL1
    have ok := sprLine_ok (madeOf xs).word m t y
    have okc := ok.cols
    have okf := ok.front
    have HLN : Hid (sprLine (madeOf xs).word m t y = sprLine (madeOf xs).word m t y) := Lib.hid rfl
    replace T := T.of_below b5
    replace A5 := Blk.below A5 b5
    replace A9 := Blk.below A9 b5
    have s1 := B1.size
    replace B1 := B1.trans (b5.mono (by omega))
    clear b5
    have Z := Blk.new w5 #[.slice (some ⟨gc, 0, none⟩) m m, .slice (some ⟨gf, 0, none⟩) m m] 80
    have bz := (Below.refl w5.heap.size w5).alloc (Nat.le_refl _) (Obj.cells #[.slice (some ⟨gc, 0, none⟩) m m, .slice (some ⟨gf, 0, none⟩) m m] 80)
    have k0 := (Blk.below A5 bz).cell 0
    have k1 := (Blk.below A5 bz).cell 1
    simp only [List.getElem?_toArray, List.getElem?_cons_zero, List.getElem?_cons_succ] at k0 k1
    have A9z := Blk.below A9 bz
    obtain ⟨ov, hov⟩ : ∃ ov, (sprLine (madeOf xs).word m t y).2 = ov := ⟨_, rfl⟩
    obtain ⟨ht, hht⟩ : ∃ ht, (sprLine (madeOf xs).word m t y).1.hit = ht := ⟨_, rfl⟩
    obtain ⟨CL, hCL⟩ : ∃ CL, (sprLine (madeOf xs).word m t y).1.cols = CL := ⟨_, rfl⟩
    obtain ⟨FL, hFL⟩ : ∃ FL, (sprLine (madeOf xs).word m t y).1.front = FL := ⟨_, rfl⟩
    rw [hov, hht]
    rw [hCL] at hC okc
    rw [hFL] at hF okf
    have HOV := Lib.hid hov
    have HHT := Lib.hid hht
    have HCL := Lib.hid hCL
    have HFL := Lib.hid hFL
    clear hov hht hCL hFL HLN ok
    go_wp2_with (refine wpList_load_row rfl 37 _ rfl g9 rfl 37 (cellsI t) (0, 0) _ A9z Try.underlying37 rfl H1.out ?_)
    clear k0 k1 A9z
    replace T := T.of_below bz
    replace A5 := Blk.below A5 bz
    replace A9 := Blk.below A9 bz
    replace hC : BlkL (Value.int .i64) _ _ _ _ := Blk.below hC bz
    replace hF : BlkL Value.bool _ _ _ _ := Blk.below hF bz
    have s1 := B1.size
    replace B1 := B1.trans (bz.mono (by omega))
    clear bz
    generalize hgz : w5.heap.size = gz at *
    generalize w5.alloc (Obj.cells #[.slice (some ⟨gc, 0, none⟩) m m, .slice (some ⟨gf, 0, none⟩) m m] 80) = w6 at *
    have hL2 := ref18_Line T.y t htl htr y m (by omega) (by omega)
    rw [aggI_eq, HOV.out, HHT.out, HCL.out, HFL.out] at hL2
    refine hL2.mono ?_; rintro e w7 ⟨hc, hf, rfl, hC2, hF2, hcb, hfb, b7⟩
    clear hL2 HOV HHT HCL HFL
    replace A5 := Blk.below A5 b7
    replace A9 := Blk.below A9 b7
    replace Z := Blk.below Z b7
    replace hC : BlkL (Value.int .i64) _ _ _ _ := Blk.below hC b7
    replace hF : BlkL Value.bool _ _ _ _ := Blk.below hF b7
    have s1 := B1.size
    replace B1 := B1.trans (b7.mono (by omega))
    clear b7 T A5 A9
    go_wp2_with fail
    have Y := Blk.new w7 #[Value.int .i64 0, Value.int .i64 32768] 46
    have by_ := (Below.refl w7.heap.size w7).alloc (Nat.le_refl _) (Obj.cells #[Value.int .i64 0, Value.int .i64 32768] 46)
    replace Z := Blk.below Z by_
    replace hC : BlkL (Value.int .i64) _ _ _ _ := Blk.below hC by_
    replace hF : BlkL Value.bool _ _ _ _ := Blk.below hF by_
    replace hC2 : BlkL (Value.int .i64) _ _ _ _ := Blk.below hC2 by_
    replace hF2 : BlkL Value.bool _ _ _ _ := Blk.below hF2 by_
    have s1 := B1.size
    replace B1 := B1.trans (by_.mono (by omega))
    clear by_
    generalize hgy : w7.heap.size = gy at *
    generalize w7.alloc (Obj.cells #[Value.int .i64 0, Value.int .i64 32768] 46) = w8 at *
    refine (law17_Made (some ⟨gy, 0, none⟩) 1 dot1 (dot1_at Y) dot1_in (by decide)).mono ?_; rintro e w9 ⟨p', g', q', h', rfl, T'⟩
    replace Z := Blk.below Z T'.below
    replace hC : BlkL (Value.int .i64) _ _ _ _ := Blk.below hC T'.below
    replace hF : BlkL Value.bool _ _ _ _ := Blk.below hF T'.below
    replace hC2 : BlkL (Value.int .i64) _ _ _ _ := Blk.below hC2 T'.below
    replace hF2 : BlkL Value.bool _ _ _ _ := Blk.below hF2 T'.below
    have s1 := B1.size
    replace B1 := B1.trans (T'.below.mono (by omega))
    clear Y
    go_wp2_with fail
    have Y : BlkL (Value.int .i64) _ w9.heap.size [64, 32, 0, 3] 3 := Blk.new w9 #[Value.int .i64 64, Value.int .i64 32, Value.int .i64 0, Value.int .i64 3] 3
    have by_ := (Below.refl w9.heap.size w9).alloc (Nat.le_refl _) (Obj.cells #[Value.int .i64 64, Value.int .i64 32, Value.int .i64 0, Value.int .i64 3] 3)
    replace T' := T'.of_below by_
    replace Z := Blk.below Z by_
    replace hC : BlkL (Value.int .i64) _ _ _ _ := Blk.below hC by_
    replace hF : BlkL Value.bool _ _ _ _ := Blk.below hF by_
    replace hC2 : BlkL (Value.int .i64) _ _ _ _ := Blk.below hC2 by_
    replace hF2 : BlkL Value.bool _ _ _ _ := Blk.below hF2 by_
    have s1 := B1.size
    replace B1 := B1.trans (by_.mono (by omega))
    clear by_
    generalize hgy2 : w9.heap.size = gy2 at *
    generalize w9.alloc (Obj.cells #[Value.int .i64 64, Value.int .i64 32, Value.int .i64 0, Value.int .i64 3] 3) = w10 at *
    refine (law18_Table (some ⟨gy2, 0, none⟩) 4 [64, 32, 0, 3] w10 (by decide) (SlAt.of_blkL Y)).mono ?_; rintro e w11 ⟨rfl, b11⟩
    replace T' := T'.of_below b11
    replace Z := Blk.below Z b11
    replace hC : BlkL (Value.int .i64) _ _ _ _ := Blk.below hC b11
    replace hF : BlkL Value.bool _ _ _ _ := Blk.below hF b11
    replace hC2 : BlkL (Value.int .i64) _ _ _ _ := Blk.below hC2 b11
    replace hF2 : BlkL Value.bool _ _ _ _ := Blk.below hF2 b11
    have s1 := B1.size
    replace B1 := B1.trans (b11.mono (by omega))
    clear b11 Y
    go_wp2_with fail
    have hL1 : Calls _ _ _ w11 _ := sprites_Line T'.x.toWords tab1 (table_length _ _) 0 1 (by decide) (by decide)
    refine hL1.mono ?_; rintro e w12 ⟨oc, of, rfl, hO, hO2, ocb, ofb, b12⟩
    clear hL1 hO2
    have hO0 := BlkL.at hO (i := 0) (by rw [dot1_line.1]; decide)
    rw [dot1_line.2] at hO0
    clear hO
    replace Z := Blk.below Z b12
    replace hC : BlkL (Value.int .i64) _ _ _ _ := Blk.below hC b12
    replace hF : BlkL Value.bool _ _ _ _ := Blk.below hF b12
    replace hC2 : BlkL (Value.int .i64) _ _ _ _ := Blk.below hC2 b12
    replace hF2 : BlkL Value.bool _ _ _ _ := Blk.below hF2 b12
    have s1 := B1.size
    replace B1 := B1.trans (b12.mono (by omega))
    clear b12 T'
    have p0 := Blk.cell Z 0
    have p1 := Blk.cell Z 1
    simp only [List.getElem?_toArray, List.getElem?_cons_zero, List.getElem?_cons_succ] at p0 p1
    generalize (sprLine (madeOf dot1).word 1 tab1 0).2 = ov1 at *
    generalize (sprLine (madeOf dot1).word 1 tab1 0).1.hit = ht1 at *
    have lz := Blk.lt Z
    have hZ : ∀ o, Blk (w12.alloc o) gz _ _ := fun o => Blk.alloc Z o
    have p0' : ∀ o, (w12.alloc o).cell? ⟨gz, 0, none⟩ = _ := fun o => (Blk.cell (hZ o) 0)
    have p1' : ∀ o, (w12.alloc o).cell? ⟨gz, 1, none⟩ = _ := fun o => (Blk.cell (hZ o) 1)
    simp only [List.getElem?_toArray, List.getElem?_cons_zero, List.getElem?_cons_succ] at p0' p1'
    have lo := World.block_lt_of_cell? w12 _ hO0
    have o0 : ∀ o, (w12.alloc o).cell? ⟨oc, 0, none⟩ = some (.int .i64 49) := fun o => (World.cell?_alloc_past _ _ _ lo).trans hO0
    clear hZ
    have qo : (ov != ov) = false := by simp
    have qh : (ht != ht) = false := by simp
    have qm : ((m : Int) != (m : Int)) = false := by simp
    go_wp2_with fail
    clear p0 p1 p0' p1' o0 hO0
    have bo := (Below.refl w12.heap.size w12).alloc (Nat.le_refl _) (Obj.cells #[.slice (some ⟨oc, 0, none⟩) 1 1, .slice (some ⟨of, 0, none⟩) 1 1] 80)
    replace Z := Blk.below Z bo
    replace hC : BlkL (Value.int .i64) _ _ _ _ := Blk.below hC bo
    replace hF : BlkL Value.bool _ _ _ _ := Blk.below hF bo
    replace hC2 : BlkL (Value.int .i64) _ _ _ _ := Blk.below hC2 bo
    replace hF2 : BlkL Value.bool _ _ _ _ := Blk.below hF2 bo
    have s1 := B1.size
    replace B1 := B1.trans (bo.mono (by omega))
    clear bo
    generalize w12.alloc (Obj.cells #[.slice (some ⟨oc, 0, none⟩) 1 1, .slice (some ⟨of, 0, none⟩) 1 1] 80) = w13 at *
    go_loopw [22] (fun i wr => ∃ k : Nat, k ≤ m ∧ i = .int .i64 k ∧ Below w13.heap.size w13 wr) (fun i _ => m - (intOf i).toNat)
    case atStart => exact ⟨0, by omega, rfl, Below.refl _ _⟩
    case round =>
      obtain ⟨k, hk, rfl, hb⟩ := hrel
      by_cases hlt : k < m
      · have d2 : decide ((k : Int) < (m : Int)) = true := by simpa using hlt
        have i1 : (k : Int) < (m : Int) := by omega
        have r0 : wr.cell? ⟨gz, 0, none⟩ = some (.slice (some ⟨gc, 0, none⟩) m m) := Blk.cell (Blk.below Z hb) 0
        have r1 : wr.cell? ⟨gz, 1, none⟩ = some (.slice (some ⟨gf, 0, none⟩) m m) := Blk.cell (Blk.below Z hb) 1
        have r2 : wr.cell? ⟨gc, k, none⟩ = some (.int .i64 (nth 0 CL k)) := BlkL.at (w := wr) (Blk.below hC hb) (by omega)
        have r3 : wr.cell? ⟨hc, k, none⟩ = some (.int .i64 (nth 0 CL k)) := BlkL.at (w := wr) (Blk.below hC2 hb) (by omega)
        have r4 : wr.cell? ⟨gf, k, none⟩ = some (.bool (nth false FL k)) := BlkL.cell (f := Value.bool) (w := wr) (Blk.below hF hb) false (by omega)
        have r5 : wr.cell? ⟨hf, k, none⟩ = some (.bool (nth false FL k)) := BlkL.cell (f := Value.bool) (w := wr) (Blk.below hF2 hb) false (by omega)
        generalize nth 0 CL k = z at *
        generalize nth false FL k = fb at *
        have q4 : (z != z) = false := by simp
        have q5 : (fb != fb) = false := by simp
        go_wp2_with fail
        go_quiet (fail)
        go_wp2
        go_roundw
        case rel => exact ⟨k + 1, by omega, rfl, below_drewN hb nq⟩
        case measure => simp [intOf]; omega
      · obtain rfl : k = m := by omega
        have d2 : decide ((k : Int) < (k : Int)) = false := by simp
        have s1 := B1.size
        replace B1 := B1.trans (hb.mono (by omega))
        rw [← hge] at B1
        go_wp2
        go_ret
        exact ⟨rfl, B1⟩
  · have hn2 : n < 1 ∨ 512 < n := by omega
    have hL1 : Calls _ _ _ w4 _ := sprites_Line_no (pv := .pointer (some ⟨p, 0, none⟩)) t y n hn2
    refine hL1.mono ?_; rintro e w5 ⟨rfl, b5⟩
    clear hL1
    replace T := T.of_below b5
    replace A5 := Blk.below A5 b5
    replace A9 := Blk.below A9 b5
    have s1 := B1.size
    replace B1 := B1.trans (b5.mono (by omega))
    clear b5
    have Z := Blk.new w5 #[.slice none 0 0, .slice none 0 0] 80
    have bz := (Below.refl w5.heap.size w5).alloc (Nat.le_refl _) (Obj.cells #[.slice none 0 0, .slice none 0 0] 80)
    have k0 := (Blk.below A5 bz).cell 0
    have k1 := (Blk.below A5 bz).cell 1
    simp only [List.getElem?_toArray, List.getElem?_cons_zero, List.getElem?_cons_succ] at k0 k1
    have A9z := Blk.below A9 bz
    go_wp2_with (refine wpList_load_row rfl 37 _ rfl g9 rfl 37 (cellsI t) (0, 0) _ A9z Try.underlying37 rfl H1.out ?_)
    clear k0 k1 A9z
    replace T := T.of_below bz
    replace A5 := Blk.below A5 bz
    replace A9 := Blk.below A9 bz
    have s1 := B1.size
    replace B1 := B1.trans (bz.mono (by omega))
    clear bz
    generalize hgz : w5.heap.size = gz at *
    generalize w5.alloc (Obj.cells #[.slice none 0 0, .slice none 0 0] 80) = w6 at *
    have hL2 : Calls _ _ _ w6 _ := ref18_Line_no (pv := .pointer (some ⟨q, 0, none⟩)) t y n hn2
    refine hL2.mono ?_; rintro e w7 ⟨rfl, b7⟩
    clear hL2
    replace A5 := Blk.below A5 b7
    replace A9 := Blk.below A9 b7
    replace Z := Blk.below Z b7
    have s1 := B1.size
    replace B1 := B1.trans (b7.mono (by omega))
    clear b7 T A5 A9
    go_wp2_with fail
    have Y := Blk.new w7 #[Value.int .i64 0, Value.int .i64 32768] 46
    have by_ := (Below.refl w7.heap.size w7).alloc (Nat.le_refl _) (Obj.cells #[Value.int .i64 0, Value.int .i64 32768] 46)
    replace Z := Blk.below Z by_
    have s1 := B1.size
    replace B1 := B1.trans (by_.mono (by omega))
    clear by_
    generalize hgy : w7.heap.size = gy at *
    generalize w7.alloc (Obj.cells #[Value.int .i64 0, Value.int .i64 32768] 46) = w8 at *
    refine (law17_Made (some ⟨gy, 0, none⟩) 1 dot1 (dot1_at Y) dot1_in (by decide)).mono ?_; rintro e w9 ⟨p', g', q', h', rfl, T'⟩
    replace Z := Blk.below Z T'.below
    have s1 := B1.size
    replace B1 := B1.trans (T'.below.mono (by omega))
    clear Y
    go_wp2_with fail
    have Y : BlkL (Value.int .i64) _ w9.heap.size [64, 32, 0, 3] 3 := Blk.new w9 #[Value.int .i64 64, Value.int .i64 32, Value.int .i64 0, Value.int .i64 3] 3
    have by_ := (Below.refl w9.heap.size w9).alloc (Nat.le_refl _) (Obj.cells #[Value.int .i64 64, Value.int .i64 32, Value.int .i64 0, Value.int .i64 3] 3)
    replace T' := T'.of_below by_
    replace Z := Blk.below Z by_
    have s1 := B1.size
    replace B1 := B1.trans (by_.mono (by omega))
    clear by_
    generalize hgy2 : w9.heap.size = gy2 at *
    generalize w9.alloc (Obj.cells #[Value.int .i64 64, Value.int .i64 32, Value.int .i64 0, Value.int .i64 3] 3) = w10 at *
    refine (law18_Table (some ⟨gy2, 0, none⟩) 4 [64, 32, 0, 3] w10 (by decide) (SlAt.of_blkL Y)).mono ?_; rintro e w11 ⟨rfl, b11⟩
    replace T' := T'.of_below b11
    replace Z := Blk.below Z b11
    have s1 := B1.size
    replace B1 := B1.trans (b11.mono (by omega))
    clear b11 Y
    go_wp2_with fail
    have hL1 : Calls _ _ _ w11 _ := sprites_Line T'.x.toWords tab1 (table_length _ _) 0 1 (by decide) (by decide)
    refine hL1.mono ?_; rintro e w12 ⟨oc, of, rfl, hO, hO2, ocb, ofb, b12⟩
    clear hL1 hO2
    have hO0 := BlkL.at hO (i := 0) (by rw [dot1_line.1]; decide)
    rw [dot1_line.2] at hO0
    clear hO
    replace Z := Blk.below Z b12
    have s1 := B1.size
    replace B1 := B1.trans (b12.mono (by omega))
    clear b12 T'
    have p0 := Blk.cell Z 0
    have p1 := Blk.cell Z 1
    simp only [List.getElem?_toArray, List.getElem?_cons_zero, List.getElem?_cons_succ] at p0 p1
    generalize (sprLine (madeOf dot1).word 1 tab1 0).2 = ov1 at *
    generalize (sprLine (madeOf dot1).word 1 tab1 0).1.hit = ht1 at *
    have lz := Blk.lt Z
    have hZ : ∀ o, Blk (w12.alloc o) gz _ _ := fun o => Blk.alloc Z o
    have p0' : ∀ o, (w12.alloc o).cell? ⟨gz, 0, none⟩ = _ := fun o => (Blk.cell (hZ o) 0)
    have p1' : ∀ o, (w12.alloc o).cell? ⟨gz, 1, none⟩ = _ := fun o => (Blk.cell (hZ o) 1)
    simp only [List.getElem?_toArray, List.getElem?_cons_zero, List.getElem?_cons_succ] at p0' p1'
    have lo := World.block_lt_of_cell? w12 _ hO0
    have o0 : ∀ o, (w12.alloc o).cell? ⟨oc, 0, none⟩ = some (.int .i64 49) := fun o => (World.cell?_alloc_past _ _ _ lo).trans hO0
    clear hZ
    go_wp2_with fail
    have B2 := B1.alloc (by have := B1.size; omega) (Obj.cells #[.slice (some ⟨oc, 0, none⟩) 1 1, .slice (some ⟨of, 0, none⟩) 1 1] 80)
    clear p0 p1 p0' p1' o0 hO0 B1
    generalize w12.alloc (Obj.cells #[.slice (some ⟨oc, 0, none⟩) 1 1, .slice (some ⟨of, 0, none⟩) 1 1] 80) = w13 at *
    rw [← hge] at B2
    go_loopw [22] (fun i wr => i = .int .i64 0 ∧ wr = w13) (fun i _ => 0)
    case atStart => exact ⟨rfl, rfl⟩
    case round =>
      obtain ⟨rfl, rfl⟩ := hrel
      go_wp2
      go_ret
      exact ⟨rfl, B2⟩
end Go.Proofs.Ytlhnfllfankjhaa
