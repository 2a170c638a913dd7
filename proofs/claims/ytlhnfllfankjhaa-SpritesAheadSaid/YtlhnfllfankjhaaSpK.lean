/- The walk of SpritesAhead. -/
import Derived.Test.YtlhnfllfankjhaaSpG
namespace Go.Proofs.Ytlhnfllfankjhaa
open Go Go.RowKit
set_option linter.unusedSimpArgs false
set_option linter.unusedVariables false
set_option maxRecDepth 100000

theorem scan_keeps (f : Int → Int) (n : Nat) (t : List Int) (y : Int) (x : Nat) (hx : x < n) : ∀ (m k : Nat) (S : SS) (tk : Int), S.Ok n → nth 0 S.cols x ≠ 0 → nth 0 (scan f n t y m k S tk).1.cols x = nth 0 S.cols x ∧ nth false (scan f n t y m k S tk).1.front x = nth false S.front x
  | 0, _, _, _, _, _ => ⟨rfl, rfl⟩
  | m + 1, k, S, tk, h, hz => by
    rw [scan]
    split
    · split
      · exact ⟨rfl, rfl⟩
      · have hin := spOf_in t k
        have hi := SS.sp_is h f (k : Int) (by omega) hin y (spOf t k).W.toNat
        have e1 := hi.cols x hx
        have e2 := hi.front x hx
        rw [if_neg (fun h => hz h.1)] at e1 e2
        have ih := scan_keeps f n t y x hx m (k + 1) _ (tk + (spOf t k).W / 16) (h.sp f k hin y _) (by rw [e1]; exact hz)
        rw [e1, e2] at ih
        exact ih
    · exact scan_keeps f n t y x hx m (k + 1) S tk h hz
theorem scan_nohit (f : Int → Int) (n : Nat) (t : List Int) (y : Int) : ∀ (m k : Nat) (S : SS) (tk : Int), 1 ≤ k → S.Ok n → (∀ x, x < n → nth false S.first x = false) → S.hit = false → (scan f n t y m k S tk).1.hit = false
  | 0, _, _, _, _, _, _, h => h
  | m + 1, k, S, tk, hk, h, hf, hh => by
    rw [scan]
    split
    · split
      · exact hh
      · have hin := spOf_in t k
        have hi := SS.sp_is h f (k : Int) (by omega) hin y (spOf t k).W.toNat
        refine scan_nohit f n t y m (k + 1) _ _ (by omega) (h.sp f k hin y _) (fun x hx => ?_) ?_
        · rw [hi.first x hx, hf x hx]
          have : ((k : Int) == 0) = false := by simp; omega
          rw [this]; rfl
        · rcases hq : (S.sp f n k (spOf t k) y (spOf t k).W.toNat).hit
          · rfl
          · rcases hi.hit.1 hq with h1 | ⟨_, x, h2, _, h4⟩
            · rw [hh] at h1; cases h1
            · rw [hf x h2] at h4; cases h4
    · exact scan_nohit f n t y m (k + 1) S tk (by omega) h hf hh
theorem scan_same (f : Int → Int) (n : Nat) (t u : List Int) (y : Int) (x : Nat) (hx : x < n) : ∀ (m k : Nat) (S T : SS) (tk tl : Int), (∀ j, k ≤ j → j < k + m → spOf t j = spOf u j) → S.Ok n → T.Ok n → nth 0 S.cols x = nth 0 T.cols x → nth false S.front x = nth false T.front x → tl ≤ tk → (scan f n t y m k S tk).2 = false →
    nth 0 (scan f n t y m k S tk).1.cols x = nth 0 (scan f n u y m k T tl).1.cols x ∧ nth false (scan f n t y m k S tk).1.front x = nth false (scan f n u y m k T tl).1.front x
  | 0, _, _, _, _, _, _, _, _, hc, hf, _, _ => ⟨hc, hf⟩
  | m + 1, k, S, T, tk, tl, hj, hS, hT, hc, hf, hle, ho => by
    have hr := fun S T tk tl => scan_same f n t u y x hx m (k + 1) S T tk tl (fun j h1 h2 => hj j (by omega) (by omega))
    have hsame := hj k (Nat.le_refl _) (by omega)
    by_cases hon : (spOf t k).on y
    · have hon' : (spOf u k).on y := by rw [← hsame]; exact hon
      by_cases hov : 16 < tk + (spOf t k).W / 16
      · rw [scan_over f n t y m k S tk hon hov] at ho; cases ho
      · have hov' : ¬ 16 < tl + (spOf u k).W / 16 := by rw [← hsame]; omega
        rw [scan_on f n t y m k S tk hon hov] at ho ⊢
        rw [scan_on f n u y m k T tl hon' hov']
        have hin := spOf_in t k
        rw [← hsame]
        have h1 := SS.sp_is hS f (k : Int) (by omega) hin y (spOf t k).W.toNat
        have h2 := SS.sp_is hT f (k : Int) (by omega) hin y (spOf t k).W.toNat
        exact hr _ _ _ _ (hS.sp f k hin y _) (hT.sp f k hin y _) (by rw [h1.cols x hx, h2.cols x hx, hc]) (by rw [h1.front x hx, h2.front x hx, hc, hf]) (by omega) ho
    · have hon' : ¬ (spOf u k).on y := by rw [← hsame]; exact hon
      rw [scan_off f n t y m k S tk hon] at ho ⊢
      rw [scan_off f n u y m k T tl hon']
      exact hr _ _ _ _ hS hT hc hf hle ho
/-- The first sprite's words alone. -/
def aloneT (t : List Int) : List Int := ((((zeros 256).set 0 (nth 0 t 0)).set 1 (nth 0 t 1)).set 2 (nth 0 t 2)).set 3 (nth 0 t 3)
theorem aloneT_length (t : List Int) : (aloneT t).length = 256 := by simp [aloneT, zeros_length]
theorem alone_one (t : List Int) : spOf (aloneT t) 0 = spOf t 0 := by
  refine spOf_congr _ _ 0 fun i h1 h2 => ?_
  unfold aloneT
  rcases (show i = 0 ∨ i = 1 ∨ i = 2 ∨ i = 3 by omega) with rfl | rfl | rfl | rfl
  · rw [nth_set_ne (by decide), nth_set_ne (by decide), nth_set_ne (by decide), nth_set_eq (by rw [zeros_length]; decide)]
  · rw [nth_set_ne (by decide), nth_set_ne (by decide), nth_set_eq (by simp [zeros_length])]
  · rw [nth_set_ne (by decide), nth_set_eq (by simp [zeros_length])]
  · rw [nth_set_eq (by simp [zeros_length])]
theorem alone_rest (t : List Int) (y : Int) (hy : 0 ≤ y) (j : Nat) (h1 : 1 ≤ j) : ¬ (spOf (aloneT t) j).on y := by
  refine spOf_zero _ _ _ hy fun i h2 h3 => ?_
  unfold aloneT
  rw [nth_set_ne (by omega), nth_set_ne (by omega), nth_set_ne (by omega), nth_set_ne (by omega)]
  exact nth_zeros 256 i
theorem ahead_lines (f : Int → Int) (n : Nat) (t : List Int) (ht : t.length = 256) (y : Int) (hy : 0 ≤ y ∧ y < 256) :
    (sprLine f n (aloneT t) y).2 = false ∧ (sprLine f n (aloneT t) y).1.hit = false ∧ (sprLine f n (t.set 0 1023) y).1.hit = false ∧
    (∀ x, x < n → nth 0 (sprLine f n (aloneT t) y).1.cols x ≠ 0 → nth 0 (sprLine f n t y).1.cols x = nth 0 (sprLine f n (aloneT t) y).1.cols x ∧ nth false (sprLine f n t y).1.front x = nth false (sprLine f n (aloneT t) y).1.front x) ∧
    ((sprLine f n t y).2 = false → ∀ x, x < n → nth 0 (sprLine f n (aloneT t) y).1.cols x = 0 → nth 0 (sprLine f n t y).1.cols x = nth 0 (sprLine f n (t.set 0 1023) y).1.cols x ∧ nth false (sprLine f n t y).1.front x = nth false (sprLine f n (t.set 0 1023) y).1.front x) := by
  have hoff : ¬ (spOf (t.set 0 1023) 0).on y := by
    rintro ⟨h1, _⟩
    have e : (spOf (t.set 0 1023) 0).Y = 959 := by
      show nth 0 (t.set 0 1023) (4 * 0) % 1024 - 64 = 959
      rw [nth_set_eq (by omega)]; decide
    omega
  have hq : sprLine f n (t.set 0 1023) y = scan f n (t.set 0 1023) y 63 1 (SS.zero n) 0 := scan_off f n _ y 63 0 _ _ hoff
  have hsame : ∀ j, 1 ≤ j → j < 1 + 63 → spOf t j = spOf (t.set 0 1023) j := fun j h1 _ => spOf_congr _ _ j fun i h2 h3 => by rw [nth_set_ne (by omega)]
  have hin := spOf_in t 0
  have hnh : (sprLine f n (t.set 0 1023) y).1.hit = false := by
    rw [hq]
    exact scan_nohit f n _ y 63 1 _ _ (by decide) (SS.Ok.zero n) (fun x _ => zero_first n x) rfl
  by_cases hon : (spOf t 0).on y
  · have ha : sprLine f n (aloneT t) y = ((SS.zero n).sp f n 0 (spOf t 0) y (spOf t 0).W.toNat, false) := by
      have h := sprLine_one f n (aloneT t) y (by rw [alone_one]; exact hon) (fun j h1 _ => alone_rest t y hy.1 j h1)
      rw [alone_one] at h
      exact h
    have hw := hin.W
    have hall : sprLine f n t y = scan f n t y 63 1 ((SS.zero n).sp f n 0 (spOf t 0) y (spOf t 0).W.toNat) (0 + (spOf t 0).W / 16) := scan_on f n t y 63 0 _ _ hon (by omega)
    have hi := SS.sp_is (SS.Ok.zero n) f 0 (by decide) hin y (spOf t 0).W.toNat
    have hok := (SS.Ok.zero n).sp f 0 hin y (spOf t 0).W.toNat
    have hhit : ((SS.zero n).sp f n 0 (spOf t 0) y (spOf t 0).W.toNat).hit = false := by
      rcases hh : ((SS.zero n).sp f n 0 (spOf t 0) y (spOf t 0).W.toNat).hit
      · rfl
      · rcases hi.hit.1 hh with h1 | ⟨h1, _⟩
        · cases h1
        · omega
    refine ⟨by rw [ha], by rw [ha]; exact hhit, hnh, fun x hx hz => ?_, fun ho x hx hz => ?_⟩
    · rw [ha] at hz ⊢
      rw [hall]
      exact scan_keeps f n t y x hx 63 1 _ _ hok hz
    · rw [ha] at hz
      simp only at hz
      have hP := hin.P
      have e1 := hi.cols x hx
      have e2 := hi.front x hx
      rw [zero_cols] at e1 e2
      have hat := (spOf t 0).at_in f y (spOf t 0).W.toNat x
      have hz2 : (spOf t 0).at f y (spOf t 0).W.toNat x = 0 := by
        by_cases h : (spOf t 0).at f y (spOf t 0).W.toNat x = 0
        · exact h
        · rw [if_pos ⟨rfl, h⟩] at e1; omega
      rw [hz2, if_neg (fun h => h.2 rfl)] at e1 e2
      rw [hall] at ho ⊢
      rw [hq]
      exact scan_same f n t _ y x hx 63 1 _ _ _ _ hsame hok (SS.Ok.zero n) (by rw [e1, zero_cols]) e2 (by omega) ho
  · have ha : sprLine f n (aloneT t) y = (SS.zero n, false) := sprLine_no f n _ y (fun j _ => by
      by_cases h : 1 ≤ j
      · exact alone_rest t y hy.1 j h
      · obtain rfl : j = 0 := by omega
        rw [alone_one]; exact hon)
    have hall : sprLine f n t y = scan f n t y 63 1 (SS.zero n) 0 := scan_off f n t y 63 0 _ _ hon
    refine ⟨by rw [ha], by rw [ha]; rfl, hnh, fun x hx hz => ?_, fun ho x hx hz => ?_⟩
    · rw [ha] at hz; exact absurd (zero_cols n x) hz
    · rw [hall] at ho ⊢
      rw [hq]
      exact scan_same f n t _ y x hx 63 1 _ _ _ _ hsame (SS.Ok.zero n) (SS.Ok.zero n) rfl rfl (by omega) ho
theorem alone_build (t : List Int) : ((((cellsI (zeros 256)).setIfInBounds 0 (.int .i64 (nth 0 t 0))).setIfInBounds 1 (.int .i64 (nth 0 t 1))).setIfInBounds 2 (.int .i64 (nth 0 t 2))).setIfInBounds 3 (.int .i64 (nth 0 t 3)) = cellsI (aloneT t) := by
  simp [cellsI, aloneT, List.map_set]

set_option maxHeartbeats 4000000 in
theorem spritesAhead_walk (a : Option Addr) (c : Nat) (xs : List PokeV) (b : Option Addr) (d : Nat) (ys : List Int) (y0 : Int) (w : World) (S : PokesAt w a xs) (hI : ∀ x ∈ xs, x.In) (hm : xs.length ≤ maxLen) (hmb : ys.length ≤ maxLen) (S3 : SlAt (Value.int .i64) 0 w b ys) :
    Calls Try.prog 18 #[.slice a xs.length c, .slice b ys.length d, .int .i64 y0] w fun e w' => e = .returned (.bool true) ∧ Below w.heap.size w w' := by
  have HZ := Lib.hid zero256
  obtain ⟨y, hy0, hy⟩ : ∃ y : Int, y0 % 256 = y ∧ 0 ≤ y ∧ y < 256 := ⟨y0 % 256, rfl, by omega, by omega⟩
  have HY := Lib.hid hy0
  clear hy0
  go_enter Try.func18, Try.ntmps18
  go_wp2_with fail
  refine (law17_Made a c xs S hI hm).mono ?_; rintro e w2 ⟨p, g, q, h, rfl, T⟩
  replace S3 := S3.below T.below
  have B1 := T.below
  have hx := T.x
  clear S hI T
  generalize hge : w.heap.size = ge at *
  go_wp2_with fail
  refine (law18_Table b d ys w2 hmb S3).mono ?_; rintro e w3 ⟨rfl, b3⟩
  have htl := table_length ys (min ys.length 256)
  generalize table ys (min ys.length 256) = t at *
  replace hx := hx.below b3
  have s1 := B1.size
  replace B1 := B1.trans (b3.mono (by omega))
  clear b3 S3
  have hW := hx.toWords
  have hAL := ahead_lines (madeOf xs).word 300 t htl y hy
  have HAL := Lib.hid hAL
  clear hx hAL
  generalize (madeOf xs).word = f at *
  have Z := Blk.new w3 (cellsI (zeros 256)) 37
  have hz := HZ.out
  have hsz : ∀ l : List Int, l.length = 256 → (Try.prog.info? 37).map (·.size) = some (cellsI l).size := fun l hl => by rw [cellsI_size, hl]; exact size256
  have H1 := Lib.hid hsz
  have hzz : ∀ l : List Int, l.length = 256 → (cellsI (zeros 256)).size = (cellsI l).size := fun l hl => by rw [cellsI_size, cellsI_size, hl, zeros_length]
  have H2 := Lib.hid hzz
  clear hsz hzz
  go_upto_region 6 with (refine wpList_store_row rfl 37 _ _ rfl w3.heap.size (cellsI t) rfl rfl 37 (cellsI (zeros 256)) Z (H1.out t htl) (H2.out t htl) (cellsI_one _) ?_)
  clear hz
  rw [HY.out]
  have A9 : BlkL (Value.int .i64) _ w3.heap.size t _ := Blk.setRow Z (cellsI t)
  have b4 : Below w3.heap.size w3 ((w3.alloc (Obj.cells (cellsI (zeros 256)) 37)).setRow w3.heap.size (cellsI t)) := below_setRow ((Below.refl _ _).alloc (Nat.le_refl _) _) (Nat.le_refl _) _
  replace hW := hW.below b4
  have s1 := B1.size
  replace B1 := B1.trans (b4.mono (by omega))
  generalize hg9 : w3.heap.size = g9 at *
  generalize (w3.alloc (Obj.cells (cellsI (zeros 256)) 37)).setRow g9 (cellsI t) = w4 at *
  clear b4 Z HY
  have hL1 := fun w pv (hW : Words w pv f) => sprites_Line hW t htl y 300 (by decide) (by decide)
  have l2 := aloneT_length t
  have hL2 := fun w pv (hW : Words w pv f) => sprites_Line hW (aloneT t) l2 y 300 (by decide) (by decide)
  have l3 : (t.set 0 1023).length = 256 := by simp [htl]
  have hL3 := fun w pv (hW : Words w pv f) => sprites_Line hW (t.set 0 1023) l3 y 300 (by decide) (by decide)
  have ok1 := sprLine_ok f 300 t y
  have ok2 := sprLine_ok f 300 (aloneT t) y
  have ok3 := sprLine_ok f 300 (t.set 0 1023) y
  rw [aggI_eq] at hL1 hL2 hL3
  obtain ⟨m1, m2, m3, m4, m5⟩ := HAL.out
  rw [m1, m2] at hL2
  rw [m3] at hL3
  clear m1 m2 m3 HAL
  have oc1 := ok1.cols
  have oc2 := ok2.cols
  have oc3 := ok3.cols
  have of1 := ok1.front
  have of2 := ok2.front
  have of3 := ok3.front
  clear ok1 ok2 ok3
  generalize sprLine f 300 t y = L1 at *
  generalize sprLine f 300 (aloneT t) y = L2 at *
  generalize sprLine f 300 (t.set 0 1023) y = L3 at *
  have M4 := Lib.hid m4
  have M5 := Lib.hid m5
  clear m4 m5
  go_wp2_with (refine wpList_load_row rfl 37 _ rfl g9 rfl 37 (cellsI t) (0, 0) _ A9 Try.underlying37 rfl (H1.out _ htl) ?_)
  refine (hL1 _ _ hW).mono ?_; rintro e v1 ⟨e1, f1, rfl, hC1, hF1, eb1, fb1, b8⟩
  replace hW := hW.below b8
  have s1 := B1.size
  replace B1 := B1.trans (b8.mono (by omega))
  replace A9 : BlkL (Value.int .i64) _ _ _ _ := Blk.below A9 b8
  clear b8 hL1
  have P1 := Blk.new v1 #[.slice (some ⟨e1, 0, none⟩) 300 300, .slice (some ⟨f1, 0, none⟩) 300 300] 80
  have bz := (Below.refl v1.heap.size v1).alloc (Nat.le_refl _) (Obj.cells #[.slice (some ⟨e1, 0, none⟩) 300 300, .slice (some ⟨f1, 0, none⟩) 300 300] 80)
  replace hW := hW.below bz
  have s1 := B1.size
  replace B1 := B1.trans (bz.mono (by omega))
  replace A9 : BlkL (Value.int .i64) _ _ _ _ := Blk.below A9 bz
  replace hC1 : BlkL (Value.int .i64) _ _ _ _ := Blk.below hC1 bz
  replace hF1 : BlkL Value.bool _ _ _ _ := Blk.below hF1 bz
  clear bz
  go_upto_region 7 with (fail)
  generalize hgP1 : v1.heap.size = gP1 at *
  generalize v1.alloc (Obj.cells #[.slice (some ⟨e1, 0, none⟩) 300 300, .slice (some ⟨f1, 0, none⟩) 300 300] 80) = u1 at *
  have r0 := BlkL.at A9 (i := 0) (by omega)
  have r1 := BlkL.at A9 (i := 1) (by omega)
  have r2 := BlkL.at A9 (i := 2) (by omega)
  have r3 := BlkL.at A9 (i := 3) (by omega)
  have Z := Blk.new u1 (cellsI (zeros 256)) 37
  have hz := HZ.out
  have s1' : Hid ((Try.prog.info? 37).map (·.size) = some (((((cellsI (zeros 256)).setIfInBounds 0 (.int .i64 (nth 0 t 0))).setIfInBounds 1 (.int .i64 (nth 0 t 1))).setIfInBounds 2 (.int .i64 (nth 0 t 2))).setIfInBounds 3 (.int .i64 (nth 0 t 3))).size) := Lib.hid (by rw [alone_build]; exact H1.out _ l2)
  have s2' : Hid ((cellsI (zeros 256)).size = (((((cellsI (zeros 256)).setIfInBounds 0 (.int .i64 (nth 0 t 0))).setIfInBounds 1 (.int .i64 (nth 0 t 1))).setIfInBounds 2 (.int .i64 (nth 0 t 2))).setIfInBounds 3 (.int .i64 (nth 0 t 3))).size) := Lib.hid (by rw [alone_build]; exact H2.out _ l2)
  have s3' : Hid ((((((cellsI (zeros 256)).setIfInBounds 0 (.int .i64 (nth 0 t 0))).setIfInBounds 1 (.int .i64 (nth 0 t 1))).setIfInBounds 2 (.int .i64 (nth 0 t 2))).setIfInBounds 3 (.int .i64 (nth 0 t 3))).all (·.oneCell') = true) := Lib.hid (by rw [alone_build]; exact cellsI_one _)
  go_upto_region 8 with (refine wpList_store_row rfl 37 _ _ rfl u1.heap.size (((((cellsI (zeros 256)).setIfInBounds 0 (.int .i64 (nth 0 t 0))).setIfInBounds 1 (.int .i64 (nth 0 t 1))).setIfInBounds 2 (.int .i64 (nth 0 t 2))).setIfInBounds 3 (.int .i64 (nth 0 t 3))) rfl rfl 37 (cellsI (zeros 256)) Z s1'.out s2'.out s3'.out ?_)
  clear hz r0 r1 r2 r3 s1' s2' s3'
  rw [alone_build]
  have A13 : BlkL (Value.int .i64) _ u1.heap.size (aloneT t) _ := Blk.setRow Z (cellsI (aloneT t))
  have b4 : Below u1.heap.size u1 ((u1.alloc (Obj.cells (cellsI (zeros 256)) 37)).setRow u1.heap.size (cellsI (aloneT t))) := below_setRow ((Below.refl _ _).alloc (Nat.le_refl _) _) (Nat.le_refl _) _
  replace hW := hW.below b4
  have s1 := B1.size
  replace B1 := B1.trans (b4.mono (by omega))
  replace A9 : BlkL (Value.int .i64) _ _ _ _ := Blk.below A9 b4
  replace hC1 : BlkL (Value.int .i64) _ _ _ _ := Blk.below hC1 b4
  replace hF1 : BlkL Value.bool _ _ _ _ := Blk.below hF1 b4
  replace P1 := Blk.below P1 b4
  generalize hg13 : u1.heap.size = g13 at *
  generalize (u1.alloc (Obj.cells (cellsI (zeros 256)) 37)).setRow g13 (cellsI (aloneT t)) = w5 at *
  clear b4 Z
  go_wp2_with (refine wpList_load_row rfl 37 _ rfl g13 rfl 37 (cellsI (aloneT t)) (0, 0) _ A13 Try.underlying37 rfl (H1.out _ l2) ?_)
  refine (hL2 _ _ hW).mono ?_; rintro e v2 ⟨e2, f2, rfl, hC2, hF2, eb2, fb2, b8⟩
  replace hW := hW.below b8
  have s1 := B1.size
  replace B1 := B1.trans (b8.mono (by omega))
  replace A9 : BlkL (Value.int .i64) _ _ _ _ := Blk.below A9 b8
  replace hC1 : BlkL (Value.int .i64) _ _ _ _ := Blk.below hC1 b8
  replace hF1 : BlkL Value.bool _ _ _ _ := Blk.below hF1 b8
  replace P1 := Blk.below P1 b8
  replace A13 : BlkL (Value.int .i64) _ _ _ _ := Blk.below A13 b8
  clear b8 hL2
  have P2 := Blk.new v2 #[.slice (some ⟨e2, 0, none⟩) 300 300, .slice (some ⟨f2, 0, none⟩) 300 300] 80
  have bz := (Below.refl v2.heap.size v2).alloc (Nat.le_refl _) (Obj.cells #[.slice (some ⟨e2, 0, none⟩) 300 300, .slice (some ⟨f2, 0, none⟩) 300 300] 80)
  replace hW := hW.below bz
  have s1 := B1.size
  replace B1 := B1.trans (bz.mono (by omega))
  replace A9 : BlkL (Value.int .i64) _ _ _ _ := Blk.below A9 bz
  replace hC1 : BlkL (Value.int .i64) _ _ _ _ := Blk.below hC1 bz
  replace hF1 : BlkL Value.bool _ _ _ _ := Blk.below hF1 bz
  replace P1 := Blk.below P1 bz
  replace A13 : BlkL (Value.int .i64) _ _ _ _ := Blk.below A13 bz
  replace hC2 : BlkL (Value.int .i64) _ _ _ _ := Blk.below hC2 bz
  replace hF2 : BlkL Value.bool _ _ _ _ := Blk.below hF2 bz
  clear bz
  go_upto_region 9 with (fail)
  generalize hgP2 : v2.heap.size = gP2 at *
  generalize v2.alloc (Obj.cells #[.slice (some ⟨e2, 0, none⟩) 300 300, .slice (some ⟨f2, 0, none⟩) 300 300] 80) = u2 at *
  clear A13
  have Z := Blk.new u2 (cellsI (zeros 256)) 37
  have hz := HZ.out
  have s0 := BlkL.at (Blk.toL (Blk.setRow Z (cellsI t))) (i := 0) (by omega)
  have f0 := Blk.free (Blk.setRow Z (cellsI t)) 0
  go_upto_region 10 with (first
    | (refine wpList_load_row rfl 37 _ rfl g9 rfl 37 (cellsI t) (0, 0) _ A9 Try.underlying37 rfl (H1.out t htl) ?_)
    | (refine wpList_store_row rfl 37 _ _ rfl u2.heap.size (cellsI t) rfl rfl 37 (cellsI (zeros 256)) Z (H1.out t htl) (H2.out t htl) (cellsI_one _) ?_))
  clear hz
  have A17 : BlkL (Value.int .i64) _ u2.heap.size t _ := Blk.setRow Z (cellsI t)
  have b4 : Below u2.heap.size u2 ((u2.alloc (Obj.cells (cellsI (zeros 256)) 37)).setRow u2.heap.size (cellsI t)) := below_setRow ((Below.refl _ _).alloc (Nat.le_refl _) _) (Nat.le_refl _) _
  have b5 := b4.setCell (p := ⟨u2.heap.size, 0, none⟩) (by simp) (.int .i64 1023)
  go_upto_region 11 with (fail)
  clear s0 f0
  replace A17 : BlkL (Value.int .i64) _ _ _ _ := BlkL.set (i := 0) A17 1023
  replace hW := hW.below b5
  have s1 := B1.size
  replace B1 := B1.trans (b5.mono (by omega))
  replace A9 : BlkL (Value.int .i64) _ _ _ _ := Blk.below A9 b5
  replace hC1 : BlkL (Value.int .i64) _ _ _ _ := Blk.below hC1 b5
  replace hF1 : BlkL Value.bool _ _ _ _ := Blk.below hF1 b5
  replace P1 := Blk.below P1 b5
  replace hC2 : BlkL (Value.int .i64) _ _ _ _ := Blk.below hC2 b5
  replace hF2 : BlkL Value.bool _ _ _ _ := Blk.below hF2 b5
  replace P2 := Blk.below P2 b5
  generalize hg17 : u2.heap.size = g17 at *
  generalize ((u2.alloc (Obj.cells (cellsI (zeros 256)) 37)).setRow g17 (cellsI t)).setCell ⟨g17, 0, none⟩ (.int .i64 1023) = w6 at *
  clear b4 b5 Z A9
  go_wp2_with (refine wpList_load_row rfl 37 _ rfl g17 rfl 37 (cellsI (t.set 0 1023)) (0, 0) _ A17 Try.underlying37 rfl (H1.out _ l3) ?_)
  refine (hL3 _ _ hW).mono ?_; rintro e v3 ⟨e3, f3, rfl, hC3, hF3, eb3, fb3, b8⟩
  replace hW := hW.below b8
  have s1 := B1.size
  replace B1 := B1.trans (b8.mono (by omega))
  replace hC1 : BlkL (Value.int .i64) _ _ _ _ := Blk.below hC1 b8
  replace hF1 : BlkL Value.bool _ _ _ _ := Blk.below hF1 b8
  replace P1 := Blk.below P1 b8
  replace hC2 : BlkL (Value.int .i64) _ _ _ _ := Blk.below hC2 b8
  replace hF2 : BlkL Value.bool _ _ _ _ := Blk.below hF2 b8
  replace P2 := Blk.below P2 b8
  replace A17 : BlkL (Value.int .i64) _ _ _ _ := Blk.below A17 b8
  clear b8 hL3
  have P3 := Blk.new v3 #[.slice (some ⟨e3, 0, none⟩) 300 300, .slice (some ⟨f3, 0, none⟩) 300 300] 80
  have bz := (Below.refl v3.heap.size v3).alloc (Nat.le_refl _) (Obj.cells #[.slice (some ⟨e3, 0, none⟩) 300 300, .slice (some ⟨f3, 0, none⟩) 300 300] 80)
  replace hW := hW.below bz
  have s1 := B1.size
  replace B1 := B1.trans (bz.mono (by omega))
  replace hC1 : BlkL (Value.int .i64) _ _ _ _ := Blk.below hC1 bz
  replace hF1 : BlkL Value.bool _ _ _ _ := Blk.below hF1 bz
  replace P1 := Blk.below P1 bz
  replace hC2 : BlkL (Value.int .i64) _ _ _ _ := Blk.below hC2 bz
  replace hF2 : BlkL Value.bool _ _ _ _ := Blk.below hF2 bz
  replace P2 := Blk.below P2 bz
  replace A17 : BlkL (Value.int .i64) _ _ _ _ := Blk.below A17 bz
  replace hC3 : BlkL (Value.int .i64) _ _ _ _ := Blk.below hC3 bz
  replace hF3 : BlkL Value.bool _ _ _ _ := Blk.below hF3 bz
  clear bz
  have p1 := Blk.cell P1 0
  have p2 := Blk.cell P2 0
  have p3 := Blk.cell P3 0
  simp only [List.getElem?_toArray, List.getElem?_cons_zero, List.getElem?_cons_succ] at p1 p2 p3
  clear A17 hW
  go_wp2_with fail
  clear p1 p2 p3
  generalize hgP3 : v3.heap.size = gP3 at *
  generalize v3.alloc (Obj.cells #[.slice (some ⟨e3, 0, none⟩) 300 300, .slice (some ⟨f3, 0, none⟩) 300 300] 80) = u3 at *
  clear H1 H2 HZ htl l2 l3 hgP1 hgP2 hgP3 hg9 hg13 hg17 eb1 eb2 eb3 fb1 fb2 fb3
  obtain ⟨ov, hov⟩ : ∃ ov, L1.2 = ov := ⟨_, rfl⟩
  rw [hov]
  have HOV := Lib.hid hov
  clear hov
  go_loopw [21] (fun i wr => ∃ x : Nat, x ≤ 300 ∧ i = .int .i64 x ∧ Below u3.heap.size u3 wr) (fun i _ => 300 - (intOf i).toNat)
  case atStart => exact ⟨0, by omega, rfl, Below.refl _ _⟩
  case round =>
    obtain ⟨x, hx3, rfl, hb⟩ := hrel
    by_cases hxl : x < 300
    · have i1 : (x : Int) < 300 := by omega
      have i2 : decide ((x : Int) < 300) = true := by simp; omega
      have m4 := M4.out x hxl
      have m5 := fun h => M5.out h x hxl
      have cc : ∀ wq, Below wr.heap.size wr wq → wq.cell? ⟨gP1, 0, none⟩ = some (.slice (some ⟨e1, 0, none⟩) 300 300) ∧ wq.cell? ⟨gP1, 1, none⟩ = some (.slice (some ⟨f1, 0, none⟩) 300 300) ∧ wq.cell? ⟨gP2, 0, none⟩ = some (.slice (some ⟨e2, 0, none⟩) 300 300) ∧ wq.cell? ⟨gP2, 1, none⟩ = some (.slice (some ⟨f2, 0, none⟩) 300 300) ∧ wq.cell? ⟨gP3, 0, none⟩ = some (.slice (some ⟨e3, 0, none⟩) 300 300) ∧ wq.cell? ⟨gP3, 1, none⟩ = some (.slice (some ⟨f3, 0, none⟩) 300 300) ∧
          wq.cell? ⟨e1, x, none⟩ = some (.int .i64 (nth 0 L1.1.cols x)) ∧ wq.cell? ⟨f1, x, none⟩ = some (.bool (nth false L1.1.front x)) ∧ wq.cell? ⟨e2, x, none⟩ = some (.int .i64 (nth 0 L2.1.cols x)) ∧ wq.cell? ⟨f2, x, none⟩ = some (.bool (nth false L2.1.front x)) ∧ wq.cell? ⟨e3, x, none⟩ = some (.int .i64 (nth 0 L3.1.cols x)) ∧ wq.cell? ⟨f3, x, none⟩ = some (.bool (nth false L3.1.front x)) := by
        intro wq hq
        have hb2 := hb.trans (hq.mono hb.size)
        exact ⟨Blk.cell (Blk.below P1 hb2) 0, Blk.cell (Blk.below P1 hb2) 1, Blk.cell (Blk.below P2 hb2) 0, Blk.cell (Blk.below P2 hb2) 1, Blk.cell (Blk.below P3 hb2) 0, Blk.cell (Blk.below P3 hb2) 1,
          BlkL.at (w := wq) (Blk.below hC1 hb2) (by omega), BlkL.cell (f := Value.bool) (w := wq) (Blk.below hF1 hb2) false (by omega), BlkL.at (w := wq) (Blk.below hC2 hb2) (by omega), BlkL.cell (f := Value.bool) (w := wq) (Blk.below hF2 hb2) false (by omega), BlkL.at (w := wq) (Blk.below hC3 hb2) (by omega), BlkL.cell (f := Value.bool) (w := wq) (Blk.below hF3 hb2) false (by omega)⟩
      rw [HOV.out] at m5
      generalize nth 0 L1.1.cols x = z1 at *
      generalize nth false L1.1.front x = b1 at *
      generalize nth 0 L2.1.cols x = z2 at *
      generalize nth false L2.1.front x = b2 at *
      generalize nth 0 L3.1.cols x = z3 at *
      generalize nth false L3.1.front x = b3 at *
      have hcase : (ov = true ∧ z2 ≠ 0 ∧ z1 = z2 ∧ b1 = b2) ∨ (ov = false ∧ z2 ≠ 0 ∧ z1 = z2 ∧ b1 = b2) ∨ (z2 = 0 ∧ ov = true) ∨ (z2 = 0 ∧ ov = false ∧ z1 = z3 ∧ b1 = b3) := by
        by_cases h : z2 = 0
        · rcases ov
          · exact .inr (.inr (.inr ⟨h, rfl, m5 rfl h⟩))
          · exact .inr (.inr (.inl ⟨h, rfl⟩))
        · rcases ov
          · exact .inr (.inl ⟨rfl, h, m4 h⟩)
          · exact .inl ⟨rfl, h, m4 h⟩
      clear m4 m5
      have CC := Lib.hid cc
      clear cc
      have HP := Lib.hid (show Blk u3 gP1 _ _ from P1)
      rcases hcase with ⟨rfl, hz, rfl, rfl⟩ | ⟨rfl, hz, rfl, rfl⟩ | ⟨rfl, rfl⟩ | ⟨rfl, rfl, rfl, rfl⟩
      · have q1 : (z1 != 0) = true := by simpa using hz
        have q2 : (z1 == 0) = false := by simpa using hz
        have q3 : (z1 != z1) = false := by simp
        have q4 : (b1 != b1) = false := by simp
        clear hz
        go_wp2_with fail
        have hb1 := CC.out wr (Below.refl _ _)
        obtain ⟨r0, r1, r2, r3, r4, r5, r6, r7, r8, r9, r10, r11⟩ := hb1
        go_quiet (fail)
        clear r0 r1 r2 r3 r4 r5 r6 r7 r8 r9 r10 r11
        obtain ⟨r0, r1, r2, r3, r4, r5, r6, r7, r8, r9, r10, r11⟩ := CC.out _ (below_drewN (Below.refl _ wr) nq)
        have hb3 := below_drewN hb nq
        clear CC
        generalize wr.drewN nq = wr2 at *
        clear hb
        go_wp2_with fail
        go_quiet (fail)
        go_wp2
        go_roundw
        case rel => exact ⟨x + 1, by omega, rfl, below_drewN hb3 nq⟩
        case measure => simp [intOf]; omega
      · have q1 : (z1 != 0) = true := by simpa using hz
        have q2 : (z1 == 0) = false := by simpa using hz
        have q3 : (z1 != z1) = false := by simp
        have q4 : (b1 != b1) = false := by simp
        clear hz
        go_wp2_with fail
        have hb1 := CC.out wr (Below.refl _ _)
        obtain ⟨r0, r1, r2, r3, r4, r5, r6, r7, r8, r9, r10, r11⟩ := hb1
        go_quiet (fail)
        clear r0 r1 r2 r3 r4 r5 r6 r7 r8 r9 r10 r11
        obtain ⟨r0, r1, r2, r3, r4, r5, r6, r7, r8, r9, r10, r11⟩ := CC.out _ (below_drewN (Below.refl _ wr) nq)
        have hb3 := below_drewN hb nq
        clear CC
        generalize wr.drewN nq = wr2 at *
        clear hb
        go_wp2_with fail
        go_quiet (fail)
        go_wp2
        go_roundw
        case rel => exact ⟨x + 1, by omega, rfl, below_drewN hb3 nq⟩
        case measure => simp [intOf]; omega
      · have q3 : (z1 != z1) = false := by simp
        go_wp2_with fail
        have hb1 := CC.out wr (Below.refl _ _)
        obtain ⟨r0, r1, r2, r3, r4, r5, r6, r7, r8, r9, r10, r11⟩ := hb1
        go_quiet (fail)
        clear r0 r1 r2 r3 r4 r5 r6 r7 r8 r9 r10 r11
        obtain ⟨r0, r1, r2, r3, r4, r5, r6, r7, r8, r9, r10, r11⟩ := CC.out _ (below_drewN (Below.refl _ wr) nq)
        have hb3 := below_drewN hb nq
        clear CC
        generalize wr.drewN nq = wr2 at *
        clear hb
        go_wp2_with fail
        go_quiet (fail)
        go_wp2
        go_roundw
        case rel => exact ⟨x + 1, by omega, rfl, below_drewN hb3 nq⟩
        case measure => simp [intOf]; omega
      · have q3 : (z1 != z1) = false := by simp
        have q4 : (b1 != b1) = false := by simp
        go_wp2_with fail
        have hb1 := CC.out wr (Below.refl _ _)
        obtain ⟨r0, r1, r2, r3, r4, r5, r6, r7, r8, r9, r10, r11⟩ := hb1
        go_quiet (fail)
        clear r0 r1 r2 r3 r4 r5 r6 r7 r8 r9 r10 r11
        obtain ⟨r0, r1, r2, r3, r4, r5, r6, r7, r8, r9, r10, r11⟩ := CC.out _ (below_drewN (Below.refl _ wr) nq)
        have hb3 := below_drewN hb nq
        clear CC
        generalize wr.drewN nq = wr2 at *
        clear hb
        go_wp2_with fail
        go_quiet (fail)
        go_wp2
        go_roundw
        case rel => exact ⟨x + 1, by omega, rfl, below_drewN hb3 nq⟩
        case measure => simp [intOf]; omega
    · obtain rfl : x = 300 := by omega
      have s1 := B1.size
      replace B1 := B1.trans (hb.mono (by omega))
      rw [← hge] at B1
      go_wp2
      go_ret
      exact ⟨rfl, B1⟩
end Go.Proofs.Ytlhnfllfankjhaa
