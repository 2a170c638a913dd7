/- Printed by merge.py: LnA, LnB, LnC, LnD. -/
import Derived.Test.YtlhnfllfankjhaaLnP
import Derived.Test.YtlhnfllfankjhaaTiD
import Derived.Test.YtlhnfllfankjhaaSpE
import Derived.Test.YtlhnfllfankjhaaSpD
import Derived.Test.YtlhnfllfankjhaaLnQ
import Derived.Deep.RegionWith
import Derived.Test.YtlhnfllfankjhaaSpF
import Derived.Laws.Tables
namespace Go.Proofs.Ytlhnfllfankjhaa
open Go Go.RowKit
set_option linter.unusedSimpArgs false
set_option linter.unusedVariables false
set_option maxRecDepth 100000

/-- What a line is drawn from, but for the picture's memory. -/
structure LnV where
  r : RegsV
  t : List Int
  v : VceV
  x : Int
  y : Int
  l : Int
  n : Int
structure LnV.Ok (u : LnV) : Prop where
  r : u.r.Len
  t : u.t.length = 256
  v : u.v.Len
def LnV.base (u : LnV) : List Value := u.r.cells ++ (intsC u.t ++ (u.v.cells ++ [.int .i64 u.x, .int .i64 u.y, .int .i64 u.l, .int .i64 u.n]))
def LnV.cells (u : LnV) (pv : Value) : List Value := pv :: u.base
theorem LnV.base_length {u : LnV} (h : u.Ok) : u.base.length = 795 := by
  unfold LnV.base
  rw [List.length_append, List.length_append, List.length_append, RegsV.length h.r, intsC_length, h.t, VceV.length h.v]; rfl
/-- The parts in a block. -/
theorem LnV.parts {w : World} {b o : Nat} {u : LnV} (hu : u.Ok) (h : w.rangeAt b o u.base) : w.rangeAt b o u.r.cells ∧ w.rangeAt b (o + 21) (intsC u.t) ∧ w.rangeAt b (o + 277) u.v.cells ∧
    w.cell? ⟨b, o + 791, none⟩ = some (.int .i64 u.x) ∧ w.cell? ⟨b, o + 792, none⟩ = some (.int .i64 u.y) ∧ w.cell? ⟨b, o + 793, none⟩ = some (.int .i64 u.l) ∧ w.cell? ⟨b, o + 794, none⟩ = some (.int .i64 u.n) := by
  obtain ⟨h1, h2⟩ := range_split h (RegsV.length hu.r)
  obtain ⟨h3, h4⟩ := range_split h2 (show (intsC u.t).length = 256 by rw [intsC_length, hu.t])
  obtain ⟨h5, h6⟩ := range_split h4 (VceV.length hu.v)
  obtain ⟨h7, h8⟩ := range_cons h6
  obtain ⟨h9, h10⟩ := range_cons h8
  obtain ⟨h11, h12⟩ := range_cons h10
  obtain ⟨h13, _⟩ := range_cons h12
  exact ⟨h1, h3, h5, h7, h9, h11, h13⟩
def LnV.view (u : LnV) : ViewV := ⟨u.r.wide, u.r.high, u.x, u.y⟩
/-- The background. -/
def LnV.back (u : LnV) (f : Int → Int) (n : Nat) : List Int := if bitI (u.r.reg 5) 7 = 1 then lineK f u.view 0 n else List.replicate n 0
theorem LnV.back_length (u : LnV) (f : Int → Int) (n : Nat) : (u.back f n).length = n := by
  unfold LnV.back; split <;> simp [lineK_length]
theorem tIn : (Try.prog.info? 103).map (·.size) = some 796 := by kernel_rfl

theorem line_background {w : World} {pv : Value} {f : Int → Int} (hW : Words w pv f) (u : LnV) (hu : u.Ok) (n : Nat) (hn : u.n = n) (h1 : 1 ≤ n) (h5 : n ≤ 512) :
    Calls Try.prog 82 #[.agg (u.cells pv).toArray] w fun e w' => ∃ g, e = .returned (.slice (some ⟨g, 0, none⟩) n n) ∧ BlkL (Value.int .i64) w' g (u.back f n) 3 ∧ w.heap.size ≤ g ∧ Below w.heap.size w w' := by
  have hmk := make_ints n (by omega)
  have B := (Below.refl w.heap.size w).alloc (Nat.le_refl _) (Obj.cells (u.cells pv).toArray 103)
  have A := Blk.new w (u.cells pv).toArray 103
  have hW1 := hW.below B
  obtain ⟨p0, pr⟩ := range_cons (range_of_blk A)
  obtain ⟨r1, r2, r3, cx, cy, cl, cn⟩ := LnV.parts hu pr
  have hk0 : bitI (u.r.reg 5) 7 = 0 → u.back f n = List.replicate n 0 := fun h => by unfold LnV.back; rw [h]; rfl
  have hk1 : bitI (u.r.reg 5) 7 = 1 → u.back f n = lineK f ⟨u.r.wide, u.r.high, u.x, u.y⟩ 0 n := fun h => by unfold LnV.back; rw [h]; rfl
  generalize u.back f n = bk at *
  rw [hn] at cn
  clear r2 r3 cl pr
  generalize (u.cells pv).toArray = uc at *
  generalize hw1 : w.alloc (Obj.cells uc 103) = w1 at *
  have hb := bitI_range (u.r.reg 5) 7
  go_enter Try.func82, Try.ntmps82
  go_upto_region 1 with (fail)
  clear hw1
  have rl := RegsV.length hu.r
  have hsz : (Try.prog.info? 99).map (·.size) = some u.r.cells.length := by rw [rl]; exact tRegs
  have HS := Lib.hid hsz
  clear hsz rl
  have hreg := hu.r
  go_wp2_with (refine wpList_load_mid rfl 99 _ rfl w.heap.size 1 rfl u.r.cells _ r1 Try.underlying99 rfl HS.out ?_)
  refine (regs_On u.r hreg 7 _).mono ?_; rintro e w2 ⟨rfl, b2⟩
  replace A := Blk.below A b2
  replace r1 := range_below r1 b2
  have cx2 := (b2.cell (World.block_lt_of_cell? w1 _ cx)).trans cx
  have cy2 := (b2.cell (World.block_lt_of_cell? w1 _ cy)).trans cy
  have cn2 := (b2.cell (World.block_lt_of_cell? w1 _ cn)).trans cn
  have p2 := (b2.cell (World.block_lt_of_cell? w1 _ p0)).trans p0
  have hW2 := hW1.below b2
  have s1 := B.size
  have B2 := B.trans (b2.mono s1)
  clear b2 cx cy cn p0 hW1 B hW
  generalize hz : u.r.reg 5 = z at *
  clear hz
  rcases (show bitI z 7 = 0 ∨ bitI z 7 = 1 by omega) with hb0 | hb0
  · rw [hb0]
    have e := hk0 hb0
    clear hk0 hk1
    have m := BlkL.made (f := Value.int .i64) w2 0 n 3 rfl
    have bm := B2.alloc B2.size (Obj.cells (madeCells #[Value.int .i64 0] n) 3)
    have HE := Lib.hid e
    have HM := Lib.hid m
    clear e m
    go_wp2
    go_ret
    exact ⟨w2.heap.size, rfl, by rw [HE.out]; exact HM.out, B2.size, bm⟩
  · rw [hb0]
    have e := hk1 hb0
    clear hk0 hk1
    have HE := Lib.hid e
    clear e
    go_wp2_with (refine wpList_load_mid rfl 99 _ rfl w.heap.size 1 rfl u.r.cells _ r1 Try.underlying99 rfl HS.out ?_)
    refine (regs_Map u.r hreg _).mono ?_; rintro e w3 ⟨rfl, b3⟩
    replace A := Blk.below A b3
    have cx := (b3.cell (World.block_lt_of_cell? w2 _ cx2)).trans cx2
    have cy := (b3.cell (World.block_lt_of_cell? w2 _ cy2)).trans cy2
    have cn := (b3.cell (World.block_lt_of_cell? w2 _ cn2)).trans cn2
    have p0 := (b3.cell (World.block_lt_of_cell? w2 _ p2)).trans p2
    have hW3 := hW2.below b3
    have s2 := B2.size
    have B3 := B2.trans (b3.mono s2)
    clear b3 cx2 cy2 cn2 p2 hW2 B2 r1
    have hE := HE.out
    clear HE
    generalize u.r.wide = wd at *
    generalize u.r.high = hg at *
    have HE := Lib.hid hE
    clear hE
    go_wp2_with fail
    have hL := tiles_Line hW3 ⟨wd, hg, u.x, u.y⟩ 0 n h1 h5
    unfold ViewV.val ViewV.cells at hL
    refine hL.mono ?_; rintro e w4 ⟨rfl, g4, b4⟩
    have s3 := B3.size
    have B4 := B3.trans (b4.mono s3)
    go_wp2
    go_ret
    exact ⟨w3.heap.size + 1, rfl, by rw [HE.out]; exact g4, by omega, B4⟩
end Go.Proofs.Ytlhnfllfankjhaa
namespace Go.Proofs.Ytlhnfllfankjhaa
open Go Go.RowKit
set_option linter.unusedSimpArgs false
set_option linter.unusedVariables false
set_option maxRecDepth 100000

/-- The head of a block of ints. -/
def HeadL (w : World) (g : Nat) (xs : List Int) : Prop := ∃ sp : List Value, Blk w g (intsC xs ++ sp).toArray 3
theorem HeadL.cell {w : World} {g : Nat} {xs : List Int} (h : HeadL w g xs) {i : Nat} (hi : i < xs.length) : w.cell? ⟨g, i, none⟩ = some (.int .i64 (nth 0 xs i)) := by
  obtain ⟨sp, h⟩ := h
  rw [Blk.cell h, List.getElem?_toArray, List.getElem?_append_left (by rw [intsC_length]; exact hi)]
  unfold intsC
  rw [List.getElem?_map, List.getElem?_eq_getElem hi, nth_lt hi]; rfl
theorem HeadL.free {w : World} {g : Nat} {xs : List Int} (h : HeadL w g xs) (i : Nat) : w.frozen? ⟨g, i, none⟩ = false := by
  obtain ⟨sp, h⟩ := h; exact Blk.free h i
theorem HeadL.lt {w : World} {g : Nat} {xs : List Int} (h : HeadL w g xs) : g < w.heap.size := by
  obtain ⟨sp, h⟩ := h; exact Blk.lt h
theorem HeadL.set {w : World} {g : Nat} {xs : List Int} (h : HeadL w g xs) {i : Nat} (hi : i < xs.length) (y : Int) : HeadL (w.setCell ⟨g, i, none⟩ (.int .i64 y)) g (xs.set i y) := by
  obtain ⟨sp, h⟩ := h
  refine ⟨sp, ?_⟩
  have := Blk.set (i := i) h (.int .i64 y)
  rw [List.setIfInBounds_toArray, List.set_append_left _ _ (by rw [intsC_length]; exact hi)] at this
  unfold intsC at *
  rwa [List.map_set]
theorem HeadL.below {w w' : World} {g : Nat} {xs : List Int} (h : HeadL w g xs) (hb : Below w.heap.size w w') : HeadL w' g xs := by
  obtain ⟨sp, h⟩ := h; exact ⟨sp, Blk.below h hb⟩
theorem HeadL.sl {w : World} {g : Nat} {xs : List Int} (h : HeadL w g xs) : SlAt (Value.int .i64) 0 w (some ⟨g, 0, none⟩) xs := fun i hi => by
  refine ⟨_, rfl, ?_⟩
  have e1 : (Addr.add ⟨g, 0, none⟩ i) = ⟨g, i, none⟩ := by unfold Addr.add; split <;> simp_all
  rw [e1]; exact h.cell hi
theorem Own.head {w : World} {base : Nat} {v : Value} {xs : List Int} (h : Own (Value.int .i64) w base 3 v xs) (h1 : 1 ≤ xs.length) : ∃ g cap, v = .slice (some ⟨g, 0, none⟩) xs.length cap ∧ base ≤ g ∧ xs.length ≤ cap ∧ cap ≤ maxLen ∧ HeadL w g xs := by
  rcases h with ⟨_, ⟨rfl, h0⟩ | ⟨g, cap, cur, rfl, hb, hg, hle, hmax, hsz, htake⟩⟩
  · omega
  · refine ⟨g, cap, rfl, hb, hle, hmax, cur.toList.drop (xs.length * 1), ?_⟩
    unfold Blk
    rw [hg]
    have e : cur = (intsC xs ++ cur.toList.drop (xs.length * 1)).toArray := by
      unfold intsC
      rw [← htake, List.take_append_drop]
    rw [← e]

theorem BlkL.other1 {α : Type} {f : α → Value} {w : World} {b i b' : Nat} {xs : List α} {t : TypeId} (h : BlkL f w b xs t) (v : Value) (hne : b ≠ b') : BlkL f (w.setCell ⟨b', i, none⟩ v) b xs t := Blk.other h v hne

/-- The sprites. -/
def LnV.spr (u : LnV) (f : Int → Int) (n : Nat) : SS × Bool := if bitI (u.r.reg 5) 6 = 1 then sprLine f n u.t u.l else (⟨[], [], [], false⟩, false)
def LnV.mix (u : LnV) (f : Int → Int) (n : Nat) : List Int := mixL (u.back f n) (u.spr f n).1.cols (u.spr f n).1.front n
def LnV.draw (u : LnV) (f : Int → Int) (n : Nat) : List Int := (u.mix f n).map u.v.colour
theorem LnV.mix_length (u : LnV) (f : Int → Int) (n : Nat) : (u.mix f n).length = n := mixL_length _ _ _ _
theorem LnV.draw_length (u : LnV) (f : Int → Int) (n : Nat) : (u.draw f n).length = n := by unfold LnV.draw; rw [List.length_map, LnV.mix_length]
theorem LnV.spr_le (u : LnV) (f : Int → Int) (n : Nat) : (u.spr f n).1.cols.length ≤ n ∧ (u.spr f n).1.front.length ≤ n := by
  unfold LnV.spr
  split
  · have h := sprLine_ok f n u.t u.l
    rw [h.cols, h.front]; exact ⟨Nat.le_refl _, Nat.le_refl _⟩
  · exact ⟨Nat.zero_le _, Nat.zero_le _⟩
/-- The first k shown. -/
def shownTo (c : Int → Int) (xs : List Int) (k : Nat) : List Int := (xs.take k).map c ++ xs.drop k
theorem shownTo_length (c : Int → Int) (xs : List Int) (k : Nat) : (shownTo c xs k).length = xs.length := by simp [shownTo]; omega
theorem shownTo_zero (c : Int → Int) (xs : List Int) : shownTo c xs 0 = xs := by simp [shownTo]
theorem shownTo_all (c : Int → Int) (xs : List Int) : shownTo c xs xs.length = xs.map c := by simp [shownTo]
theorem shownTo_nth (c : Int → Int) (xs : List Int) (k : Nat) (hk : k < xs.length) : nth 0 (shownTo c xs k) k = nth 0 xs k := by
  have hl : ((xs.take k).map c).length = k := by simp; omega
  rw [nth_lt (by rw [shownTo_length]; exact hk), nth_lt hk]
  unfold shownTo
  rw [List.getElem_append_right (by omega), List.getElem_drop]
  congr 1; omega
theorem shownTo_succ (c : Int → Int) (xs : List Int) (k : Nat) (hk : k < xs.length) : (shownTo c xs k).set k (c (nth 0 xs k)) = shownTo c xs (k + 1) := by
  have hl : ((xs.take k).map c).length = k := by simp; omega
  unfold shownTo
  rw [List.set_append_right _ _ (by omega), hl, Nat.sub_self, take_succ_nth 0 hk, List.map_append, List.append_assoc]
  congr 1
  rw [List.drop_eq_getElem_cons hk, nth_lt hk]; rfl

theorem line_Draw_no {w : World} {pv : Value} (u : LnV) (hu : u.Ok) (hn : u.n < 1 ∨ 512 < u.n) :
    Calls Try.prog 55 #[.agg (u.cells pv).toArray] w fun e w' => e = .returned (.tuple #[.slice none 0 0, .bool false, .bool false]) ∧ Below w.heap.size w w' := by
  have B := (Below.refl w.heap.size w).alloc (Nat.le_refl _) (Obj.cells (u.cells pv).toArray 103)
  have A := Blk.new w (u.cells pv).toArray 103
  obtain ⟨p0, pr⟩ := range_cons (range_of_blk A)
  obtain ⟨r1, r2, r3, cx, cy, cl, cn⟩ := LnV.parts hu pr
  clear r1 r2 r3 cx cy cl pr p0
  generalize (u.cells pv).toArray = uc at *
  generalize u.n = n at *
  rcases (show n < 1 ∨ (¬ n < 1 ∧ 512 < n) by omega) with d | ⟨d, d'⟩
  all_goals
    go_enter Try.func55, Try.ntmps55
    go_wp2
    exact ⟨rfl, _, by first | exact rfl | (unfold results; rfl) | kernel_rfl, rfl, B⟩

set_option maxHeartbeats 4000000 in
theorem line_Draw {w : World} {pv : Value} {f : Int → Int} (hW : Words w pv f) (u : LnV) (hu : u.Ok) (n : Nat) (hn : u.n = n) (h1 : 1 ≤ n) (h5 : n ≤ 512) :
    Calls Try.prog 55 #[.agg (u.cells pv).toArray] w fun e w' => ∃ g cap, e = .returned (.tuple #[.slice (some ⟨g, 0, none⟩) n cap, .bool (u.spr f n).2, .bool (u.spr f n).1.hit]) ∧ HeadL w' g (u.draw f n) ∧ w.heap.size ≤ g ∧ n ≤ cap ∧ cap ≤ maxLen ∧ Below w.heap.size w w' := by
  have B := (Below.refl w.heap.size w).alloc (Nat.le_refl _) (Obj.cells (u.cells pv).toArray 103)
  have A := Blk.new w (u.cells pv).toArray 103
  have hparts : ∀ wq, Blk wq w.heap.size (u.cells pv).toArray 103 → wq.cell? ⟨w.heap.size, 0, none⟩ = some pv ∧ wq.rangeAt w.heap.size 1 u.r.cells ∧ wq.rangeAt w.heap.size 22 (intsC u.t) ∧ wq.rangeAt w.heap.size 278 u.v.cells ∧ wq.cell? ⟨w.heap.size, 794, none⟩ = some (.int .i64 u.l) ∧ wq.cell? ⟨w.heap.size, 795, none⟩ = some (.int .i64 n) := by
    intro wq hq
    obtain ⟨p0, pr⟩ := range_cons (range_of_blk hq)
    obtain ⟨r1, r2, r3, cx, cy, cl, cn⟩ := LnV.parts hu pr
    rw [hn] at cn
    exact ⟨p0, r1, r2, r3, cl, cn⟩
  have HP := Lib.hid hparts
  have hbg := fun (w0 : World) (hW : Words w0 pv f) => line_background hW u hu n hn h1 h5
  have HBG := Lib.hid hbg
  have hz1 : (Try.prog.info? 103).map (·.size) = some (u.cells pv).toArray.size := by
    have := LnV.base_length hu
    rw [tIn]; simp [LnV.cells, this]
  have hz2 : (Try.prog.info? 99).map (·.size) = some u.r.cells.length := by rw [RegsV.length hu.r]; exact tRegs
  have hz3 : (Try.prog.info? 37).map (·.size) = some (intsC u.t).length := by rw [intsC_length, hu.t]; exact size256
  have hz4 : (Try.prog.info? 95).map (·.size) = some u.v.cells.length := by rw [VceV.length hu.v]; exact tVce
  have hzp : (Try.prog.info? 80).map (·.size) = some 2 := by kernel_rfl
  have Z1 := Lib.hid hz1
  have Z2 := Lib.hid hz2
  have Z3 := Lib.hid hz3
  have Z4 := Lib.hid hz4
  have ZP := Lib.hid hzp
  clear hbg hz1 hz2 hz3 hz4 hzp hparts
  have hur := hu.r
  have hut := hu.t
  have huv := hu.v
  generalize (u.cells pv).toArray = uc at *
  have hb := bitI_range (u.r.reg 5) 6
  have d1 : decide ((n : Int) < 1) = false := by simp; omega
  have d2 : decide ((512 : Int) < n) = false := by simp; omega
  have d3 : decide ((n : Int) > 512) = false := by simp; omega
  go_enter Try.func55, Try.ntmps55
  go_upto_region 1 with (fail)
  generalize hw1 : w.alloc (Obj.cells uc 103) = w1 at *
  clear hw1
  obtain ⟨p0, r1, r2, r3, cl, cn⟩ := HP.out w1 A
  go_upto_region 4 with (fail)
  have A5 := Blk.new w1 #[.slice none 0 0, .slice none 0 0] 80
  have b2 : Below w1.heap.size w1 (w1.alloc (Obj.cells #[.slice none 0 0, .slice none 0 0] 80)) := (Below.refl _ _).alloc (Nat.le_refl _) _
  have s1 := B.size
  have lA := Blk.lt A
  replace A := Blk.below A b2
  have B2 := B.trans (b2.mono s1)
  clear b2 B p0 r1 r2 r3 cl cn
  generalize hg5 : w1.heap.size = g5 at *
  generalize w1.alloc (Obj.cells #[.slice none 0 0, .slice none 0 0] 80) = w2 at *
  clear hg5
  obtain ⟨p0, r1, r2, r3, cl, cn⟩ := HP.out w2 A
  go_upto_if 18 with (first
    | (refine wpList_load_mid rfl 99 _ rfl w.heap.size 1 rfl u.r.cells _ r1 Try.underlying99 rfl Z2.out ?_)
    | (refine (regs_On u.r hur 6 _).mono ?_; rintro e w3 ⟨rfl, b3⟩))
  replace A := Blk.below A b3
  replace A5 := Blk.below A5 b3
  have s2 := B2.size
  replace B2 := B2.trans (b3.mono s2)
  clear b3 p0 r1 r2 r3 cl cn
  obtain ⟨p0, r1, r2, r3, cl, cn⟩ := HP.out w3 A
  obtain ⟨sp, hsp⟩ : ∃ sp, u.spr f n = sp := ⟨_, rfl⟩
  have hspl := LnV.spr_le u f n
  have hs0 : bitI (u.r.reg 5) 6 = 0 → sp = (⟨[], [], [], false⟩, false) := fun h => by rw [← hsp]; unfold LnV.spr; rw [h]; rfl
  have hs1 : bitI (u.r.reg 5) 6 = 1 → sp = sprLine f n u.t u.l := fun h => by rw [← hsp]; unfold LnV.spr; rw [h]; rfl
  have HSP := Lib.hid hsp
  rw [hsp] at hspl
  have HS0 := Lib.hid hs0
  have HS1 := Lib.hid hs1
  clear hsp hs0 hs1
  generalize u.r.reg 5 = z at *
  go_cut [3, 4] (fun o h wx => ∃ A1 A2 c1 c2, o = .bool sp.2 ∧ h = .bool sp.1.hit ∧ Blk wx g5 #[.slice A1 sp.1.cols.length c1, .slice A2 sp.1.front.length c2] 80 ∧ SlAt (Value.int .i64) 0 wx A1 sp.1.cols ∧ SlAt Value.bool false wx A2 sp.1.front ∧ Blk wx w.heap.size uc 103 ∧ Below w.heap.size w wx)
  case first =>
    rcases (show bitI z 6 = 0 ∨ bitI z 6 = 1 by omega) with hb0 | hb0
    · have e := HS0.out hb0
      rw [hb0]
      clear HS0 HS1
      subst e
      go_wp2_with fail
      go_meet
      exact ⟨none, none, 0, 0, rfl, rfl, A5, SlAt.nil, SlAt.nil, A, B2⟩
    · have e := HS1.out hb0
      rw [hb0]
      clear HS0 HS1
      go_wp2_with (refine wpList_load_mid rfl 37 _ rfl w.heap.size 22 rfl (intsC u.t) _ r2 Try.underlying37 rfl Z3.out ?_)
      have hL := sprites_Line (hW.below B2) u.t hut u.l n h5 h1
      rw [aggI_of] at hL
      refine hL.mono ?_; rintro e' w4 ⟨gc, gf, rfl, hc, hf, lc, lf, b4⟩
      have hk := sprLine_ok f n u.t u.l
      rw [← e] at hc hf hk ⊢
      subst e
      replace A := Blk.below A b4
      have l5 := Blk.lt A5
      replace A5 := Blk.below A5 b4
      have s3 := B2.size
      replace B2 := B2.trans (b4.mono s3)
      have c50 := Blk.cell A5 0
      have c51 := Blk.cell A5 1
      have f50 := Blk.free A5 0
      have f51 := Blk.free A5 1
      simp only [List.getElem?_toArray, List.getElem?_cons_zero, List.getElem?_cons_succ] at c50 c51
      clear p0 r1 r2 r3 cl cn
      go_wp2_with fail
      go_meet
      refine ⟨some ⟨gc, 0, none⟩, some ⟨gf, 0, none⟩, n, n, rfl, rfl, ?_, ?_, ?_, Blk.other (Blk.other A _ (by omega)) _ (by omega), (B2.setCell (by simp; omega) _).setCell (by simp; omega) _⟩
      · rw [hk.cols, hk.front]
        exact Blk.set (i := 1) (Blk.set (i := 0) A5 _) _
      · have k1 := BlkL.other1 hc (b' := g5) (i := 0) (.slice (some ⟨gc, 0, none⟩) n n) (by omega)
        have k2 := BlkL.other1 k1 (b' := g5) (i := 1) (.slice (some ⟨gf, 0, none⟩) n n) (by omega)
        exact SlAt.of_blkL k2
      · have k1 := BlkL.other1 hf (b' := g5) (i := 0) (.slice (some ⟨gc, 0, none⟩) n n) (by omega)
        have k2 := BlkL.other1 k1 (b' := g5) (i := 1) (.slice (some ⟨gf, 0, none⟩) n n) (by omega)
        exact SlAt.of_blkL k2
  case rest =>
    clear A A5 B2 p0 r1 r2 r3 cl cn
    obtain ⟨A1, A2, c1, c2, rfl, rfl, A5, S1, S2, A, B⟩ := hcut
    have hmix : ∀ (g : Nat) (w5 : World), BlkL (Value.int .i64) w5 g (u.back f n) 3 → SlAt (Value.int .i64) 0 w5 A1 sp.1.cols → SlAt Value.bool false w5 A2 sp.1.front → Calls Try.prog 59 #[.slice (some ⟨g, 0, none⟩) n n, .agg #[.slice A1 sp.1.cols.length c1, .slice A2 sp.1.front.length c2]] w5 fun e w' =>
        ∃ g' cap, e = .returned (.slice (some ⟨g', 0, none⟩) n cap) ∧ w5.heap.size ≤ g' ∧ n ≤ cap ∧ cap ≤ maxLen ∧ HeadL w' g' (u.mix f n) ∧ Below w5.heap.size w5 w' := by
      intro g w5 hg h1' h2'
      have hl := LnV.back_length u f n
      have h := line_Mix (some ⟨g, 0, none⟩) A1 A2 n c1 c2 (u.back f n) sp.1.cols sp.1.front w5 (by omega) (by unfold maxLen; omega) (by unfold maxLen; omega) (SlAt.of_blkL hg) h1' h2'
      rw [hl] at h
      refine h.mono ?_
      rintro e w6 ⟨v, rfl, ho, hb6⟩
      obtain ⟨g', cap, rfl, k1, k2, k3, k4⟩ := Own.head ho (by rw [mixL_length]; exact h1)
      rw [mixL_length] at k2 ⊢
      have e2 : u.mix f n = mixL (u.back f n) sp.1.cols sp.1.front n := by unfold LnV.mix; rw [HSP.out]
      exact ⟨g', cap, rfl, k1, k2, k3, by rw [e2]; exact k4, hb6⟩
    have HM := Lib.hid hmix
    clear hmix
    have lA5 := Blk.lt A5
    go_upto_region 6 with (fail)
    go_cut [2] (fun o wx => ∃ g cap, o = .slice (some ⟨g, 0, none⟩) n cap ∧ w.heap.size < g ∧ n ≤ cap ∧ cap ≤ maxLen ∧ HeadL wx g (u.mix f n) ∧ Blk wx w.heap.size uc 103 ∧ Below w.heap.size w wx)
    case first =>
      let S : World → Prop := fun w' => Blk w' w.heap.size uc 103 ∧ Blk w' g5 #[.slice A1 sp.1.cols.length c1, .slice A2 sp.1.front.length c2] 80 ∧ SlAt (Value.int .i64) 0 w' A1 sp.1.cols ∧ SlAt Value.bool false w' A2 sp.1.front ∧ Below w.heap.size w w'
      refine wp_region_held_drew (S := S) (by kernel_rfl) ⟨A, A5, S1, S2, below_drewN B 1⟩ (fun hS => ?_)
      refine wpAnyH_take (i := 0) (v := .agg uc) rfl (by kernel_rfl) (by kernel_rfl) (by kernel_rfl) (fun _ _ _ h => h) (yieldsIf_load_mid (by rfl) _ _ rfl w.heap.size 0 rfl uc.toList _ (fun w' h => range_of_blk h.1) Try.underlying103 rfl Z1.out) hS ?_
      simp only [Act.put, List.setIfInBounds_toArray, List.set_cons_zero, List.set_cons_succ]
      refine wpAnyH_take (i := 2) (v := .agg #[.slice A1 sp.1.cols.length c1, .slice A2 sp.1.front.length c2]) rfl (by kernel_rfl) (by kernel_rfl) (by kernel_rfl) (fun _ _ _ h => h) (yieldsIf_load_mid (by rfl) _ _ rfl g5 0 rfl [.slice A1 sp.1.cols.length c1, .slice A2 sp.1.front.length c2] _ (fun w' h => range_of_blk h.2.1) Try.underlying80 rfl ZP.out) hS ?_
      simp only [Act.put, List.setIfInBounds_toArray, List.set_cons_zero, List.set_cons_succ]
      refine wpAnyH_ready (rs := [1]) (by kernel_rfl) (by simp) ?_
      refine AllReadyH.cons rfl (fun K hK => ?_) AllReadyH.nil
      go_simp
      refine (HBG.out _ (hW.below hS.2.2.2.2)).mono ?_; rintro e w5 ⟨gb, rfl, g4, lg, b5⟩
      obtain ⟨A', A5', S1', S2', B'⟩ := hS
      have l5 := B'.size
      refine hK.out _ _ (show S w5 from ⟨Blk.below A' b5, Blk.below A5' b5, S1'.below b5, S2'.below b5, B'.trans (b5.mono l5)⟩) (fun hS => ?_)
      clear hK K A' A5' S1' S2' B' b5 l5 lg
      refine wpAnyH_ready (rs := [3]) (by kernel_rfl) (by simp) ?_
      refine AllReadyH.cons rfl (fun K hK => ?_) AllReadyH.nil
      go_simp
      refine (HM.out gb _ g4 hS.2.2.1 hS.2.2.2.1).mono ?_; rintro e w6 ⟨gm, cap, rfl, lm, m1, m2, m3, b6⟩
      obtain ⟨A', A5', S1', S2', B'⟩ := hS
      have l5 := B'.size
      have l6 := Blk.lt A'
      refine hK.out _ _ (show S w6 from ⟨Blk.below A' b6, Blk.below A5' b6, S1'.below b6, S2'.below b6, B'.trans (b6.mono l5)⟩) (fun hS => ?_)
      clear hK K A' A5' S1' S2' B' b6
      refine wpAnyH_ready (rs := [4]) (by kernel_rfl) (by simp) ?_
      refine AllReadyH.cons rfl (fun K hK => ?_) AllReadyH.nil
      go_simp
      refine hK.out _ _ hS (fun _ => ?_)
      clear hK K
      refine wpAnyH_done (by kernel_rfl) ?_ _
      go_wp2_with fail
      go_meet
      exact ⟨gm, cap, rfl, by omega, m1, m2, m3, hS.1, hS.2.2.2.2⟩
    case rest =>
      clear A A5 S1 S2 B HM HBG
      obtain ⟨g, cap, rfl, lg, k1, k2, H, A, B⟩ := hcut
      have hml := LnV.mix_length u f n
      have hcol := fun k w => vce_Colour u.v huv k w
      have HC := Lib.hid hcol
      clear hcol
      have hd : u.draw f n = (u.mix f n).map u.v.colour := rfl
      have HD := Lib.hid hd
      clear hd
      go_wp2_with fail
      go_loopw [6, 7, 38] (fun _ _ i wr => ∃ k : Nat, k ≤ n ∧ i = .int .i64 k ∧ HeadL wr g (shownTo u.v.colour (u.mix f n) k) ∧ Blk wr w.heap.size uc 103 ∧ Below w.heap.size w wr) (fun _ _ i _ => n - (intOf i).toNat)
      case atStart => exact ⟨0, by omega, rfl, by rw [shownTo_zero]; exact H, A, B⟩
      case round =>
        clear H A B
        obtain ⟨k, hk, rfl, H, A, B⟩ := hrel
        by_cases hlt : k < n
        · have d5 : decide ((k : Int) < (n : Int)) = true := by simpa using hlt
          have i1 : (k : Int) < (n : Int) := by omega
          have hl := shownTo_length u.v.colour (u.mix f n) k
          have hks : k < (shownTo u.v.colour (u.mix f n) k).length := by omega
          have c1 := H.cell hks
          rw [shownTo_nth _ _ _ (by omega)] at c1
          have f1 := H.free k
          obtain ⟨p0, r1, r2, r3, cl, cn⟩ := HP.out wr A
          clear p0 r1 r2 cl cn
          have hsu := shownTo_succ u.v.colour (u.mix f n) k (by omega)
          generalize nth 0 (u.mix f n) k = y at *
          go_wp2_with (refine wpList_load_mid rfl 95 _ rfl w.heap.size 278 rfl u.v.cells _ r3 Try.underlying95 rfl Z4.out ?_)
          refine (HC.out y _).mono ?_; rintro e w7 ⟨rfl, b7⟩
          have H7 := H.below b7
          replace A := Blk.below A b7
          have s7 := B.size
          replace B := B.trans (b7.mono s7)
          have c7 := H7.cell hks
          have f7 := H7.free k
          have hset := H7.set hks (u.v.colour y)
          rw [hsu] at hset
          have HS := Lib.hid hset
          clear c1 f1 r3 H H7 b7 hsu hset
          generalize shownTo u.v.colour (u.mix f n) k = mk at *
          go_wp2
          go_roundw
          case rel => exact ⟨k + 1, by omega, by go_num, HS.out, Blk.other A _ (by omega), B.setCell (Nat.le_of_lt lg) _⟩
          case measure => simp [intOf]; omega
        · obtain rfl : k = n := by omega
          have d5 : decide ((k : Int) < (k : Int)) = false := by simp
          go_wp2
          rw [HSP.out]
          have e9 : shownTo u.v.colour (u.mix f k) k = u.draw f k := by
            have := shownTo_all u.v.colour (u.mix f k)
            rw [hml] at this
            rw [this, HD.out]
          rw [e9] at H
          exact ⟨rfl, _, by first | exact rfl | (unfold results; rfl) | kernel_rfl, g, cap, rfl, H, by omega, k1, k2, B⟩
end Go.Proofs.Ytlhnfllfankjhaa
namespace Go.Proofs.Ytlhnfllfankjhaa
open Go Go.RowKit
set_option linter.unusedSimpArgs false
set_option linter.unusedVariables false
set_option maxRecDepth 100000

abbrev I64 (z : Int) : Prop := -9223372036854775808 ≤ z ∧ z ≤ 9223372036854775807
structure LnV.In (u : LnV) : Prop where
  r : ∀ j, I64 (u.r.reg j)
  c : 0 ≤ u.r.reg 5 ∧ u.r.reg 5 < 8192
  t : ∀ i, I64 (nth 0 u.t i)
  k : I64 u.v.control
  v : ∀ i, I64 (nth 0 u.v.table i)
  x : I64 u.x
  y : I64 u.y
theorem tIn19 : (Try.prog.info? 108).map (·.size) = some 795 := by kernel_rfl
theorem tableN_all (n : Nat) (xs : List Int) (h : xs.length = n) : tableN n xs n = xs := by
  refine nth_ext 0 (by rw [tableN_length, h]) fun i hi => ?_
  rw [tableN_length] at hi
  rw [nth_tableN n xs n i hi, if_pos hi]
theorem mixAt_range (cols : List Int) (front : List Bool) (i : Nat) (b : Int) (hb : 0 ≤ b ∧ b < 256) (hc : ∀ j, 0 ≤ nth 0 cols j ∧ nth 0 cols j < 256) : 0 ≤ mixAt cols front i b ∧ mixAt cols front i b < 512 := by
  have := hc i
  unfold mixAt
  split
  · rw [w64_in (by omega)]; omega
  · omega

theorem LnV.back_range (u : LnV) (V : VS) (hV : ∀ n, 0 ≤ V.word n ∧ V.word n < 65536) (n k : Nat) (hk : k < n) : 0 ≤ nth 0 (u.back V.word n) k ∧ nth 0 (u.back V.word n) k < 256 := by
  unfold LnV.back
  split
  · rw [nth_lineK _ _ _ _ _ hk]
    unfold pixel
    split
    · exact pixV_range _ _ _ _ (hV _)
    · decide
  · have := nth_zeros n k
    unfold zeros at this
    rw [this]; decide
theorem LnV.spr_range (u : LnV) (f : Int → Int) (n : Nat) : ∀ j, 0 ≤ nth 0 (u.spr f n).1.cols j ∧ nth 0 (u.spr f n).1.cols j < 256 := by
  intro j
  unfold LnV.spr
  split
  · exact (sprLine_ok f n u.t u.l).range j
  · rw [show nth (0 : Int) [] j = 0 by simp [nth]]; decide
theorem LnV.mix_range (u : LnV) (V : VS) (hV : ∀ n, 0 ≤ V.word n ∧ V.word n < 65536) (n k : Nat) (hk : k < n) : 0 ≤ nth 0 (u.mix V.word n) k ∧ nth 0 (u.mix V.word n) k < 512 := by
  unfold LnV.mix mixL
  rw [nth_lt (by simpa using hk)]
  simp only [List.getElem_map, List.getElem_range]
  exact mixAt_range _ _ _ _ (u.back_range V hV n k hk) (u.spr_range _ n)

theorem ref19_Draw_no {w : World} {pv : Value} (u : LnV) (hu : u.Ok) (hn : u.n < 1 ∨ 512 < u.n) :
    Calls Try.prog 56 #[pv, .agg u.base.toArray] w fun e w' => e = .returned (.tuple #[.slice none 0 0, .bool false, .bool false]) ∧ Below w.heap.size w w' := by
  have B := (Below.refl w.heap.size w).alloc (Nat.le_refl _) (Obj.cells u.base.toArray 108)
  have A := Blk.new w u.base.toArray 108
  obtain ⟨r1, r2, r3, cx, cy, cl, cn⟩ := LnV.parts hu (range_of_blk A)
  clear r1 r2 r3 cx cy cl
  generalize u.base.toArray = uc at *
  generalize u.n = n at *
  rcases (show n < 1 ∨ (¬ n < 1 ∧ 512 < n) by omega) with d | ⟨d, d'⟩
  all_goals
    go_enter Try.func56, Try.ntmps56
    go_wp2
    exact ⟨rfl, _, by first | exact rfl | (unfold results; rfl) | kernel_rfl, rfl, B⟩

set_option maxHeartbeats 4000000 in
theorem ref19_Draw {w : World} {p g : Nat} {V : VS} (hv : VAt 66 w p g V) (u : LnV) (hu : u.Ok) (hi : u.In) (n : Nat) (hn : u.n = n) (h1 : 1 ≤ n) (h5 : n ≤ 512) :
    Calls Try.prog 56 #[.pointer (some ⟨p, 0, none⟩), .agg u.base.toArray] w fun e w' => ∃ g cap, e = .returned (.tuple #[.slice (some ⟨g, 0, none⟩) n cap, .bool (u.spr V.word n).2, .bool (u.spr V.word n).1.hit]) ∧ HeadL w' g (u.draw V.word n) ∧ w.heap.size ≤ g ∧ n ≤ cap ∧ cap ≤ maxLen ∧ Below w.heap.size w w' := by
  have B := (Below.refl w.heap.size w).alloc (Nat.le_refl _) (Obj.cells u.base.toArray 108)
  have A := Blk.new w u.base.toArray 108
  have hparts : ∀ wq, Blk wq w.heap.size u.base.toArray 108 → wq.rangeAt w.heap.size 0 u.r.cells ∧ wq.rangeAt w.heap.size 21 (intsC u.t) ∧ wq.rangeAt w.heap.size 277 u.v.cells ∧ wq.cell? ⟨w.heap.size, 791, none⟩ = some (.int .i64 u.x) ∧ wq.cell? ⟨w.heap.size, 792, none⟩ = some (.int .i64 u.y) ∧ wq.cell? ⟨w.heap.size, 793, none⟩ = some (.int .i64 u.l) ∧ wq.cell? ⟨w.heap.size, 794, none⟩ = some (.int .i64 n) := by
    intro wq hq
    obtain ⟨r1, r2, r3, cx, cy, cl, cn⟩ := LnV.parts hu (range_of_blk hq)
    rw [hn] at cn
    simp only [Nat.zero_add] at r2 r3 cx cy cl cn
    exact ⟨r1, r2, r3, cx, cy, cl, cn⟩
  have HP := Lib.hid hparts
  have hz2 : (Try.prog.info? 105).map (·.size) = some u.r.cells.length := by rw [RegsV.length hu.r]; kernel_rfl
  have hz3 : (Try.prog.info? 37).map (·.size) = some (intsC u.t).length := by rw [intsC_length, hu.t]; exact size256
  have hz4 : (Try.prog.info? 106).map (·.size) = some u.v.cells.length := by rw [VceV.length hu.v]; exact tVce12
  have Z2 := Lib.hid hz2
  have Z3 := Lib.hid hz3
  have Z4 := Lib.hid hz4
  clear hz2 hz3 hz4 hparts
  have hur := hu.r
  have hut := hu.t
  have huv := hu.v
  generalize u.base.toArray = uc at *
  have d1 : decide ((n : Int) < 1) = false := by simp; omega
  have d2 : decide ((512 : Int) < n) = false := by simp; omega
  have d3 : decide ((n : Int) > 512) = false := by simp; omega
  have hmk := make_ints n (by omega)
  have HMK := Lib.hid hmk
  clear hmk
  go_enter Try.func56, Try.ntmps56
  go_upto_region 1 with (fail)
  generalize hw1 : w.alloc (Obj.cells uc 108) = w1 at *
  clear hw1
  obtain ⟨r1, r2, r3, cx, cy, cl, cn⟩ := HP.out w1 A
  have c5 := (RegsV.reads r1 hur).2 5 (by decide)
  obtain ⟨z, hz⟩ : ∃ z, u.r.reg 5 = z := ⟨_, rfl⟩
  have hzc := hi.c
  rw [hz] at c5 hzc
  have HZ := Lib.hid hz
  have z7 : bitI z 7 = z / 128 % 2 := by unfold bitI; rw [if_pos (by decide)]; rfl
  have z6 : bitI z 6 = z / 64 % 2 := by unfold bitI; rw [if_pos (by decide)]; rfl
  have Z7 := Lib.hid z7
  have Z6 := Lib.hid z6
  clear hz z7 z6
  go_upto_region 4 with (fail)
  have hmk := HMK.out w1
  have MB := BlkL.made (f := Value.int .i64) w1 0 n 3 rfl
  have bm := B.alloc B.size (Obj.cells (madeCells #[Value.int .i64 0] n) 3)
  have l1 := Blk.lt A
  replace A := Blk.alloc A (Obj.cells (madeCells #[Value.int .i64 0] n) 3)
  go_upto_region 5 with (fail)
  clear hmk r1 r2 r3 cx cy cl cn c5
  generalize hg8 : w1.heap.size = g8 at *
  generalize w1.alloc (Obj.cells (madeCells #[Value.int .i64 0] n) 3) = w2 at *
  clear B
  obtain ⟨r1, r2, r3, cx, cy, cl, cn⟩ := HP.out w2 A
  go_upto_if 36 with (fail)
  go_cut [] (fun wx => BlkL (Value.int .i64) wx g8 (u.back V.word n) 3 ∧ Blk wx w.heap.size uc 108 ∧ Below w.heap.size w wx)
  case first =>
    rcases (show z / 128 % 2 = 0 ∨ z / 128 % 2 = 1 by omega) with hb | hb
    · have e : u.back V.word n = List.replicate n 0 := by unfold LnV.back; rw [HZ.out, Z7.out, hb]; rfl
      have HE := Lib.hid e
      rw [hb]
      clear e hb r1 r2 r3 cx cy cl cn
      go_wp2_with fail
      go_meet
      exact ⟨by rw [HE.out]; exact MB, A, bm⟩
    · have e : u.back V.word n = lineK V.word ⟨u.r.wide, u.r.high, u.x, u.y⟩ 0 n := by unfold LnV.back; rw [HZ.out, Z7.out, hb]; rfl
      have HE := Lib.hid e
      rw [hb]
      clear e hb r2 r3 cx cy cl cn
      go_wp2_with (refine wpList_load_mid rfl 105 _ rfl w.heap.size 0 rfl u.r.cells _ r1 Try.underlying105 rfl Z2.out ?_)
      refine (ref15_Map u.r hur hi.r _).mono ?_; rintro e w3 ⟨rfl, b3⟩
      replace A := Blk.below A b3
      have lg8 := Blk.lt MB
      replace MB : BlkL (Value.int .i64) _ _ _ _ := Blk.below MB b3
      have sm := bm.size
      replace bm := bm.trans (b3.mono sm)
      clear r1 b3
      have hpx : ∀ (k : Nat) (w0 : World), Below w.heap.size w w0 → k < n → Calls Try.prog 36 #[.pointer (some ⟨p, 0, none⟩), .agg #[.int .i64 u.r.wide, .int .i64 u.r.high, .int .i64 u.x, .int .i64 u.y], .int .i64 k, .int .i64 0] w0 fun e w' => e = .returned (.int .i64 (nth 0 (lineK V.word ⟨u.r.wide, u.r.high, u.x, u.y⟩ 0 n) k)) ∧ Below w0.heap.size w0 w' := by
        intro k w0 hb0 hk
        rw [nth_lineK _ _ _ _ _ hk]
        exact ref17_Pixel (hv.below hb0) ⟨u.r.wide, u.r.high, u.x, u.y⟩ k 0 (by omega) (by decide) hi.x hi.y
      have HPX := Lib.hid hpx
      have hll := lineK_length V.word ⟨u.r.wide, u.r.high, u.x, u.y⟩ 0 n
      clear hpx
      have hsett := fun k => tableN_set n (lineK V.word ⟨u.r.wide, u.r.high, u.x, u.y⟩ 0 n) k
      have HST := Lib.hid hsett
      clear hsett
      generalize lineK V.word ⟨u.r.wide, u.r.high, u.x, u.y⟩ 0 n = px at *
      generalize u.r.wide = wd at *
      generalize u.r.high = hg at *
      go_wp2_with fail
      go_loopw [11] (fun i wr => ∃ k : Nat, k ≤ n ∧ i = .int .i64 k ∧ BlkL (Value.int .i64) wr g8 (tableN n px k) 3 ∧ Blk wr w.heap.size uc 108 ∧ Below w.heap.size w wr) (fun i _ => n - (intOf i).toNat)
      case atStart => exact ⟨0, by omega, rfl, by rw [tableN_zero]; exact MB, A, bm⟩
      case round =>
        clear A MB bm
        obtain ⟨k, hk, rfl, MB, A, B⟩ := hrel
        obtain ⟨r1, r2, r3, cx, cy, cl, cn⟩ := HP.out wr A
        clear r1 r2 r3 cl
        by_cases hlt : k < n
        · have d5 : decide ((k : Int) < (n : Int)) = true := by simpa using hlt
          have i1 : (k : Int) < (n : Int) := by omega
          go_wp2_with fail
          refine (HPX.out k _ B hlt).mono ?_; rintro e w4 ⟨rfl, b4⟩
          replace A := Blk.below A b4
          replace MB : BlkL (Value.int .i64) _ _ _ _ := Blk.below MB b4
          have s4 := B.size
          replace B := B.trans (b4.mono s4)
          have c4 := MB.at (i := k) (by rw [tableN_length]; exact hlt)
          have f4 := Blk.free MB k
          have hset := BlkL.set (i := k) MB (nth 0 px k)
          rw [HST.out] at hset
          have HS := Lib.hid hset
          clear hset MB cx cy cn b4
          generalize nth 0 px k = y at *
          go_wp2
          go_roundw
          case rel => exact ⟨k + 1, by omega, by go_num, HS.out, Blk.other A _ (by omega), B.setCell (by simp; omega) _⟩
          case measure => simp [intOf]; omega
        · obtain rfl : k = n := by omega
          have d5 : decide ((k : Int) < (k : Int)) = false := by simp
          go_wp2_with fail
          go_meet
          rw [tableN_all k px hll] at MB
          exact ⟨by rw [HE.out]; exact MB, A, B⟩
  case rest =>
    clear A MB bm r1 r2 r3 cx cy cl cn HMK
    obtain ⟨MB, A, B⟩ := hcut
    obtain ⟨r1, r2, r3, cx, cy, cl, cn⟩ := HP.out wc A
    clear r1 r3 cx cy
    obtain ⟨sp, hsp⟩ : ∃ sp, u.spr V.word n = sp := ⟨_, rfl⟩
    have hspl := LnV.spr_le u V.word n
    have hbkl := LnV.back_length u V.word n
    have hs0 : z / 64 % 2 = 0 → sp = (⟨[], [], [], false⟩, false) := fun h => by rw [← hsp]; unfold LnV.spr; rw [HZ.out, Z6.out, h]; rfl
    have hs1 : z / 64 % 2 = 1 → sp = sprLine V.word n u.t u.l := fun h => by rw [← hsp]; unfold LnV.spr; rw [HZ.out, Z6.out, h]; rfl
    have hmx : u.mix V.word n = mixL (u.back V.word n) sp.1.cols sp.1.front n := by unfold LnV.mix; rw [hsp]
    have HSP := Lib.hid hsp
    rw [hsp] at hspl
    have HS0 := Lib.hid hs0
    have HS1 := Lib.hid hs1
    have HMX := Lib.hid hmx
    clear hsp hs0 hs1 hmx
    generalize u.back V.word n = bk at *
    go_upto_if 65 with (fail)
    go_cut [12, 13, 14, 15] (fun a b o h wx => ∃ A1 A2 c1 c2, a = .slice A1 sp.1.cols.length c1 ∧ b = .slice A2 sp.1.front.length c2 ∧ o = .bool sp.2 ∧ h = .bool sp.1.hit ∧ SlAt (Value.int .i64) 0 wx A1 sp.1.cols ∧ SlAt Value.bool false wx A2 sp.1.front ∧ BlkL (Value.int .i64) wx g8 bk 3 ∧ Blk wx w.heap.size uc 108 ∧ Below w.heap.size w wx)
    case first =>
      rcases (show z / 64 % 2 = 0 ∨ z / 64 % 2 = 1 by omega) with hb | hb
      · have e := HS0.out hb
        rw [hb]
        clear HS0 HS1
        subst e
        go_wp2_with fail
        go_meet
        exact ⟨none, none, 0, 0, rfl, rfl, rfl, rfl, SlAt.nil, SlAt.nil, MB, A, B⟩
      · have e := HS1.out hb
        rw [hb]
        clear HS0 HS1
        go_wp2_with (refine wpList_load_mid rfl 37 _ rfl w.heap.size 21 rfl (intsC u.t) _ r2 Try.underlying37 rfl Z3.out ?_)
        have hL := ref18_Line (hv.below B) u.t hut hi.t u.l n h5 h1
        rw [aggI_of] at hL
        refine hL.mono ?_; rintro e' w4 ⟨gc, gf, rfl, hc, hf, lc, lf, b4⟩
        have hk := sprLine_ok V.word n u.t u.l
        rw [← e] at hc hf hk ⊢
        have e1 := hk.cols
        have e2 := hk.front
        have s3 := B.size
        have k1 : Blk w4 w.heap.size uc 108 := Blk.below A b4
        have k2 : BlkL (Value.int .i64) w4 g8 bk 3 := Blk.below MB b4
        have k3 := B.trans (b4.mono s3)
        clear A MB B b4 e r2 cl cn
        go_wp2_with fail
        go_meet
        exact ⟨some ⟨gc, 0, none⟩, some ⟨gf, 0, none⟩, n, n, by rw [e1], by rw [e2], rfl, rfl, SlAt.of_blkL hc, SlAt.of_blkL hf, k2, k1, k3⟩
    case rest =>
      clear A MB B r2 cl cn HS0 HS1
      obtain ⟨A1, A2, c1, c2, rfl, rfl, rfl, rfl, S1, S2, MB, A, B⟩ := hcut
      have h := ref19_Mix (some ⟨g8, 0, none⟩) A1 A2 n c1 c2 bk sp.1.cols sp.1.front wc (by omega) (by unfold maxLen; omega) (by unfold maxLen; omega) (SlAt.of_blkL MB) S1 S2
      rw [hbkl] at h
      go_wp2_with fail
      refine h.mono ?_; rintro e w5 ⟨v, rfl, ho, b5⟩
      obtain ⟨gm, cap, rfl, k1, k2, k3, H⟩ := Own.head ho (by rw [mixL_length]; exact h1)
      rw [mixL_length] at k2
      rw [← HMX.out] at H
      replace A := Blk.below A b5
      have s5 := B.size
      have lw := Blk.lt MB
      replace B := B.trans (b5.mono s5)
      clear ho b5 S1 S2 MB h HMX
      have hml := LnV.mix_length u V.word n
      have hcol := fun (k : Int) (hk : I64 k) w => ref12_Colour u.v huv k hk hi.k hi.v w
      have HC := Lib.hid hcol
      clear hcol
      have hd : u.draw V.word n = (u.mix V.word n).map u.v.colour := rfl
      have HD := Lib.hid hd
      have hmr : ∀ k, k < n → I64 (nth 0 (u.mix V.word n) k) := fun k hk => by
        have := LnV.mix_range u V (fun m => hv.ok.word m) n k hk
        unfold I64; omega
      have HMR := Lib.hid hmr
      clear hd hmr
      rw [mixL_length]
      go_wp2_with fail
      go_loopw [17] (fun i wr => ∃ k : Nat, k ≤ n ∧ i = .int .i64 k ∧ HeadL wr gm (shownTo u.v.colour (u.mix V.word n) k) ∧ Blk wr w.heap.size uc 108 ∧ Below w.heap.size w wr) (fun i _ => n - (intOf i).toNat)
      case atStart => exact ⟨0, by omega, rfl, by rw [shownTo_zero]; exact H, A, B⟩
      case round =>
        clear H A B
        obtain ⟨k, hk, rfl, H, A, B⟩ := hrel
        by_cases hlt : k < n
        · have d5 : decide ((k : Int) < (n : Int)) = true := by simpa using hlt
          have i1 : (k : Int) < (n : Int) := by omega
          have hl := shownTo_length u.v.colour (u.mix V.word n) k
          have hks : k < (shownTo u.v.colour (u.mix V.word n) k).length := by omega
          have hrd : ∀ wq, Below wr.heap.size wr wq → wq.cell? ⟨gm, k, none⟩ = some (.int .i64 (nth 0 (u.mix V.word n) k)) ∧ wq.frozen? ⟨gm, k, none⟩ = false ∧ wq.rangeAt w.heap.size 277 u.v.cells := by
            intro wq hq
            have c1 := (H.below hq).cell hks
            rw [shownTo_nth _ _ _ (by omega)] at c1
            exact ⟨c1, (H.below hq).free k, (HP.out wq (Blk.below A hq)).2.2.1⟩
          have HRD := Lib.hid hrd
          have hsu := shownTo_succ u.v.colour (u.mix V.word n) k (by omega)
          have hset : ∀ wq, Below wr.heap.size wr wq → HeadL (wq.setCell ⟨gm, k, none⟩ (.int .i64 (u.v.colour (nth 0 (u.mix V.word n) k)))) gm (shownTo u.v.colour (u.mix V.word n) (k + 1)) := by
            intro wq hq
            have := (H.below hq).set hks (u.v.colour (nth 0 (u.mix V.word n) k))
            rwa [hsu] at this
          have HS := Lib.hid hset
          have hy := HMR.out k hlt
          clear hrd hset hsu
          generalize nth 0 (u.mix V.word n) k = y at *
          go_wp2_with fail
          refine wp_region_last 10 (fun w' => HeadL w' gm (shownTo u.v.colour (u.mix V.word n) (k + 1)) ∧ Blk w' w.heap.size uc 108 ∧ Below w.heap.size w w') (by kernel_rfl) (by kernel_rfl) (by kernel_rfl) (by decide) ?_
          iterate 3
            (refine wpP_head rfl (by decide) (fun K hK => ?_)
             apply Exists.intro
             refine ⟨fun wq hq => ?_, hK _ ?_⟩
             · go_simp
               first | exact rfl | exact ⟨hq, rfl⟩ | exact ⟨rfl, rfl⟩
             clear hK K
             simp only [Act.put, List.setIfInBounds_toArray, List.set_cons_zero, List.set_cons_succ])
          refine wpP_head rfl (by decide) (fun K hK => ?_)
          apply Exists.intro
          refine ⟨fun wq hq => ?_, hK _ ?_⟩
          · exact mid_upon 106 _ rfl w.heap.size 277 rfl u.v.cells _ (HRD.out wq hq).2.2 Try.underlying106 rfl Z4.out hq
          clear hK K
          simp only [Act.put, List.setIfInBounds_toArray, List.set_cons_zero, List.set_cons_succ]
          iterate 3
            (refine wpP_head rfl (by decide) (fun K hK => ?_)
             apply Exists.intro
             refine ⟨fun wq hq => ?_, hK _ ?_⟩
             · go_simp
               first | exact rfl | exact ⟨hq, rfl⟩ | exact ⟨rfl, rfl⟩
             clear hK K
             simp only [Act.put, List.setIfInBounds_toArray, List.set_cons_zero, List.set_cons_succ])
          iterate 1
            (refine wpP_head rfl (by decide) (fun K hK => ?_)
             apply Exists.intro
             refine ⟨fun wq hq => ?_, hK _ ?_⟩
             · have c1 := (HRD.out wq hq).1
               go_simp
               first | exact rfl | exact ⟨hq, rfl⟩ | exact ⟨rfl, rfl⟩
             clear hK K
             simp only [Act.put, List.setIfInBounds_toArray, List.set_cons_zero, List.set_cons_succ])
          iterate 1
            (refine wpP_head rfl (by decide) (fun K hK => ?_)
             apply Exists.intro
             refine ⟨fun wq hq => ?_, hK _ ?_⟩
             · skip
               go_simp
               first | exact rfl | exact ⟨hq, rfl⟩ | exact ⟨rfl, rfl⟩ | (refine (HC.out y hy _).mono ?_; rintro e w' ⟨rfl, b7⟩; exact ⟨rfl, hq.trans (b7.mono hq.size)⟩)
             clear hK K
             simp only [Act.put, List.setIfInBounds_toArray, List.set_cons_zero, List.set_cons_succ])
          iterate 1
            (refine wpP_head rfl (by decide) (fun K hK => ?_)
             apply Exists.intro
             refine ⟨fun wq hq => ?_, hK _ ?_⟩
             · go_simp
               first | exact rfl | exact ⟨hq, rfl⟩ | exact ⟨rfl, rfl⟩
             clear hK K
             simp only [Act.put, List.setIfInBounds_toArray, List.set_cons_zero, List.set_cons_succ])
          refine wpP_last rfl (by decide) (by kernel_rfl) (by kernel_rfl) ⟨undef, fun wq hq => ?_, ?_⟩
          · have c1 := (HRD.out wq hq).1
            have f1 := (HRD.out wq hq).2.1
            go_simp
            exact ⟨HS.out wq hq, Blk.other (Blk.below A hq) _ (by omega), (B.trans (hq.mono B.size)).setCell (by simp; omega) _⟩
          simp only [Act.put, List.setIfInBounds_toArray, List.set_cons_zero, List.set_cons_succ]
          rintro w7 ⟨H7, A7, B7⟩
          clear HS HRD H A B
          go_wp2
          go_roundw
          case rel => exact ⟨k + 1, by omega, by go_num, H7, A7, B7⟩
          case measure => simp [intOf]; omega
        · obtain rfl : k = n := by omega
          have d5 : decide ((k : Int) < (k : Int)) = false := by simp
          go_wp2
          rw [HSP.out]
          have e9 : shownTo u.v.colour (u.mix V.word k) k = u.draw V.word k := by
            have := shownTo_all u.v.colour (u.mix V.word k)
            rw [hml] at this
            rw [this, HD.out]
          rw [e9] at H
          exact ⟨rfl, _, by first | exact rfl | (unfold results; rfl) | kernel_rfl, gm, cap, rfl, H, by omega, k2, k3, B⟩
end Go.Proofs.Ytlhnfllfankjhaa
namespace Go.Proofs.Ytlhnfllfankjhaa
open Go Go.RowKit
set_option linter.unusedSimpArgs false
set_option linter.unusedVariables false
set_option maxRecDepth 100000

/-- A struct is built: its value is known. -/
theorem wpList_built {P : Program} {w : World} {a : Act} {Q : Exit → Act → World → Prop} {ops : Array Oper} {rest : List Oper} {o : Oper} (hg : o.guard = none) (t : TypeId) (parts : Array (Nat × Operand)) (ho : o.op = .build t parts)
    {vs : Array (Nat × Value)} {v : Value} (hc : (Instr.build t vs).run P w = .ok v w) (he : (parts.map fun (i, x) => (i, a.eval x)) = vs)
    (h : wpList P ops Q rest (a.put o.dst v) w) : wpList P ops Q (o :: rest) a w :=
  wpList_plain hg fun _ hK => by
    subst he
    unfold Oper.wp execOp
    simp only [ho, Sem.run_bind, hc, Result.andThen_ok]
    exact hK _ _ h
theorem laidL_cons (x : Value) : ∀ (vs cs : List Value) (o : Nat), laidL (x :: cs) (o + 1) vs = x :: laidL cs o vs
  | [], _, _ => rfl
  | v :: r, cs, o => by rw [laidL, laidL, List.set_cons_succ, laidL_cons x r]
theorem fold_laid : ∀ (l : List Value) (k off : Nat) (cs : List Value), (l.zipIdx k).foldl (fun (cs : Array Value) (p : Value × Nat) => cs.setIfInBounds (off + p.2) p.1) cs.toArray = (laidL cs (off + k) l).toArray
  | [], _, _, _ => rfl
  | v :: r, k, off, cs => by
    rw [List.zipIdx_cons, List.foldl_cons, laidL]
    simp only [List.setIfInBounds_toArray]
    rw [fold_laid r (k + 1) off, Nat.add_assoc]
theorem fill_step {place : Nat → Option (Nat × Nat)} {cs vs : List Value} {i off size : Nat} {v : Value} {rest : List (Nat × Value)} (hp : place i = some (off, size)) (hv : v.cells = vs.toArray) (hs : vs.length = size) (ho : off + size ≤ cs.length) :
    Instr.fill place cs.toArray ((i, v) :: rest) = Instr.fill place (laidL cs off vs).toArray rest := by
  rw [Instr.fill, hp]
  simp only [hv]
  rw [if_neg (by simp [hs]; omega)]
  congr 1
  have := fold_laid vs 0 off cs
  rw [Nat.add_zero] at this
  rw [← this]
  simp
theorem built_struct {P : Program} {t : TypeId} {it : TypeInfo} {fields : Array Field} {z : Value} {places : List (Nat × Nat)} {parts : List (Nat × Value)} (h1 : P.info? t = some it) (h2 : P.underlying t = some (.struct fields)) (h3 : it.zero = some z)
    (h4 : (fields.toList.mapM fun f => (P.info? f.type).map fun i => (f.offset, i.size)) = some places) : P.built t parts = Instr.fill (places.toArray[·]?) z.cells parts := by
  simp [Program.built, h1, h2, h3, h4]

theorem laidL_at (pr xs bs vs : List Value) (o : Nat) (hp : pr.length = o) (h : xs.length = vs.length) : laidL (pr ++ (xs ++ bs)) o vs = pr ++ (vs ++ bs) := by
  subst hp; exact laidL_mid vs pr xs bs h
section
variable {u : LnV} (hu : u.Ok)
include hu
theorem LnV.laid_r {R : RegsV} (hR : R.Len) : laidL u.base 0 R.cells = LnV.base { u with r := R } :=
  laidL_at [] u.r.cells _ R.cells 0 rfl (by rw [RegsV.length hu.r, RegsV.length hR])
theorem LnV.laid_t {t : List Int} (ht : t.length = 256) : laidL u.base 21 (intsC t) = LnV.base { u with t := t } :=
  laidL_at u.r.cells (intsC u.t) _ (intsC t) 21 (RegsV.length hu.r) (by rw [intsC_length, intsC_length, hu.t, ht])
theorem LnV.laid_v {v : VceV} (hv : v.Len) : laidL u.base 277 v.cells = LnV.base { u with v := v } := by
  have := laidL_at (u.r.cells ++ intsC u.t) u.v.cells [.int .i64 u.x, .int .i64 u.y, .int .i64 u.l, .int .i64 u.n] v.cells 277 (by rw [List.length_append, RegsV.length hu.r, intsC_length, hu.t]) (by rw [VceV.length hu.v, VceV.length hv])
  unfold LnV.base; simpa using this
theorem LnV.laid_x (x : Int) : laidL u.base 791 [.int .i64 x] = LnV.base { u with x := x } := by
  have := laidL_at (u.r.cells ++ (intsC u.t ++ u.v.cells)) [.int .i64 u.x] [.int .i64 u.y, .int .i64 u.l, .int .i64 u.n] [.int .i64 x] 791 (by rw [List.length_append, List.length_append, RegsV.length hu.r, intsC_length, hu.t, VceV.length hu.v]) rfl
  unfold LnV.base; simpa using this
theorem LnV.laid_y (x : Int) : laidL u.base 792 [.int .i64 x] = LnV.base { u with y := x } := by
  have := laidL_at (u.r.cells ++ (intsC u.t ++ (u.v.cells ++ [.int .i64 u.x]))) [.int .i64 u.y] [.int .i64 u.l, .int .i64 u.n] [.int .i64 x] 792 (by rw [List.length_append, List.length_append, List.length_append, RegsV.length hu.r, intsC_length, hu.t, VceV.length hu.v]; rfl) rfl
  unfold LnV.base; simpa using this
theorem LnV.laid_l (x : Int) : laidL u.base 793 [.int .i64 x] = LnV.base { u with l := x } := by
  have := laidL_at (u.r.cells ++ (intsC u.t ++ (u.v.cells ++ [.int .i64 u.x, .int .i64 u.y]))) [.int .i64 u.l] [.int .i64 u.n] [.int .i64 x] 793 (by rw [List.length_append, List.length_append, List.length_append, RegsV.length hu.r, intsC_length, hu.t, VceV.length hu.v]; rfl) rfl
  unfold LnV.base; simpa using this
theorem LnV.laid_n (x : Int) : laidL u.base 794 [.int .i64 x] = LnV.base { u with n := x } := by
  have := laidL_at (u.r.cells ++ (intsC u.t ++ (u.v.cells ++ [.int .i64 u.x, .int .i64 u.y, .int .i64 u.l]))) [.int .i64 u.n] [] [.int .i64 x] 794 (by rw [List.length_append, List.length_append, List.length_append, RegsV.length hu.r, intsC_length, hu.t, VceV.length hu.v]; rfl) rfl
  unfold LnV.base; simpa using this
end
def RegsV.zero : RegsV := ⟨0, zeros 20⟩
def LnV.zero : LnV := ⟨RegsV.zero, zeros 256, VceV.zero, 0, 0, 0, 0⟩
theorem LnV.zero_ok : LnV.zero.Ok := ⟨zeros_length 20, zeros_length 256, zeros_length 512⟩
def places19 : List (Nat × Nat) := [(0, 21), (21, 256), (277, 514), (791, 1), (792, 1), (793, 1), (794, 1)]
def placesIn : List (Nat × Nat) := [(0, 1), (1, 21), (22, 256), (278, 514), (792, 1), (793, 1), (794, 1), (795, 1)]

theorem fill19 {u : LnV} (hu : u.Ok) (i off size : Nat) (v : Value) (vs : List Value) (rest : List (Nat × Value)) (hp : places19.toArray[i]? = some (off, size)) (hv : v.cells = vs.toArray) (hs : vs.length = size) (ho : off + size ≤ 795) {b : List Value} (hb : laidL u.base off vs = b) :
    Instr.fill (places19.toArray[·]?) u.base.toArray ((i, v) :: rest) = Instr.fill (places19.toArray[·]?) b.toArray rest := by
  rw [← hb]; exact fill_step hp hv hs (by rw [LnV.base_length hu]; exact ho)
theorem fillIn {u : LnV} (hu : u.Ok) (pv : Value) (i off size : Nat) (v : Value) (vs : List Value) (rest : List (Nat × Value)) (hp : placesIn.toArray[i]? = some (off + 1, size)) (hv : v.cells = vs.toArray) (hs : vs.length = size) (ho : off + size ≤ 795) {b : List Value} (hb : laidL u.base off vs = b) :
    Instr.fill (placesIn.toArray[·]?) (u.cells pv).toArray ((i, v) :: rest) = Instr.fill (placesIn.toArray[·]?) (pv :: b).toArray rest := by
  rw [← hb, ← laidL_cons]
  exact fill_step hp hv hs (by unfold LnV.cells; rw [List.length_cons, LnV.base_length hu]; omega)
theorem fillIn0 {u : LnV} (pv p0 : Value) (rest : List (Nat × Value)) (h1 : pv.cells = #[pv]) : Instr.fill (placesIn.toArray[·]?) (u.cells p0).toArray ((0, pv) :: rest) = Instr.fill (placesIn.toArray[·]?) (u.cells pv).toArray rest := by
  have := fill_step (place := (placesIn.toArray[·]?)) (cs := u.cells p0) (vs := [pv]) (i := 0) (off := 0) (size := 1) (v := pv) (rest := rest) rfl h1 rfl (by unfold LnV.cells; simp)
  rw [this]; rfl

theorem zeroIn : ∃ it, Try.prog.info? 103 = some it ∧ it.zero = some (.agg (LnV.zero.cells (.pointer none)).toArray) := by
  have h : (Try.prog.info? 103).map (·.zero) = some (some (.agg (LnV.zero.cells (.pointer none)).toArray)) := by kernel_rfl
  obtain ⟨i, hi, hz⟩ := Option.map_eq_some_iff.1 h
  exact ⟨i, hi, hz⟩
theorem zero19 : ∃ it, Try.prog.info? 108 = some it ∧ it.zero = some (.agg LnV.zero.base.toArray) := by
  have h : (Try.prog.info? 108).map (·.zero) = some (some (.agg LnV.zero.base.toArray)) := by kernel_rfl
  obtain ⟨i, hi, hz⟩ := Option.map_eq_some_iff.1 h
  exact ⟨i, hi, hz⟩
theorem builtIn (parts : List (Nat × Value)) : Try.prog.built 103 parts = Instr.fill (placesIn.toArray[·]?) (LnV.zero.cells (.pointer none)).toArray parts := by
  obtain ⟨it, h1, h3⟩ := zeroIn
  exact built_struct h1 Try.underlying103 h3 (by kernel_rfl)
theorem built19 (parts : List (Nat × Value)) : Try.prog.built 108 parts = Instr.fill (places19.toArray[·]?) LnV.zero.base.toArray parts := by
  obtain ⟨it, h1, h3⟩ := zero19
  exact built_struct h1 Try.underlying108 h3 (by kernel_rfl)

theorem build_In (u : LnV) (hu : u.Ok) (pv : Value) (h1 : pv.cells = #[pv]) (w : World) : (Instr.build 103 #[(0, pv), (1, .agg u.r.cells.toArray), (2, .agg (intsC u.t).toArray), (3, .agg u.v.cells.toArray), (4, .int .i64 u.x), (5, .int .i64 u.y), (6, .int .i64 u.l), (7, .int .i64 u.n)]).run Try.prog w = .ok (.agg (u.cells pv).toArray) w := by
  refine run_build w _ _ _ ?_
  have o0 := LnV.zero_ok
  have o1 : LnV.Ok { LnV.zero with r := u.r } := ⟨hu.r, o0.t, o0.v⟩
  have o2 : LnV.Ok { LnV.zero with r := u.r, t := u.t } := ⟨hu.r, hu.t, o0.v⟩
  have o3 : LnV.Ok { LnV.zero with r := u.r, t := u.t, v := u.v } := ⟨hu.r, hu.t, hu.v⟩
  have o4 : LnV.Ok { LnV.zero with r := u.r, t := u.t, v := u.v, x := u.x } := ⟨hu.r, hu.t, hu.v⟩
  have o5 : LnV.Ok { LnV.zero with r := u.r, t := u.t, v := u.v, x := u.x, y := u.y } := ⟨hu.r, hu.t, hu.v⟩
  have o6 : LnV.Ok { LnV.zero with r := u.r, t := u.t, v := u.v, x := u.x, y := u.y, l := u.l } := ⟨hu.r, hu.t, hu.v⟩
  rw [builtIn, fillIn0 pv _ _ h1,
    fillIn o0 pv 1 0 21 _ u.r.cells _ rfl rfl (RegsV.length hu.r) (by decide) (LnV.laid_r o0 hu.r)]
  show Instr.fill _ (LnV.cells { LnV.zero with r := u.r } pv).toArray _ = _
  rw [fillIn o1 pv 2 21 256 _ (intsC u.t) _ rfl rfl (by rw [intsC_length, hu.t]) (by decide) (LnV.laid_t o1 hu.t)]
  show Instr.fill _ (LnV.cells { LnV.zero with r := u.r, t := u.t } pv).toArray _ = _
  rw [fillIn o2 pv 3 277 514 _ u.v.cells _ rfl rfl (VceV.length hu.v) (by decide) (LnV.laid_v o2 hu.v)]
  show Instr.fill _ (LnV.cells { LnV.zero with r := u.r, t := u.t, v := u.v } pv).toArray _ = _
  rw [fillIn o3 pv 4 791 1 _ [.int .i64 u.x] _ rfl rfl rfl (by decide) (LnV.laid_x o3 u.x)]
  show Instr.fill _ (LnV.cells { LnV.zero with r := u.r, t := u.t, v := u.v, x := u.x } pv).toArray _ = _
  rw [fillIn o4 pv 5 792 1 _ [.int .i64 u.y] _ rfl rfl rfl (by decide) (LnV.laid_y o4 u.y)]
  show Instr.fill _ (LnV.cells { LnV.zero with r := u.r, t := u.t, v := u.v, x := u.x, y := u.y } pv).toArray _ = _
  rw [fillIn o5 pv 6 793 1 _ [.int .i64 u.l] _ rfl rfl rfl (by decide) (LnV.laid_l o5 u.l)]
  show Instr.fill _ (LnV.cells { LnV.zero with r := u.r, t := u.t, v := u.v, x := u.x, y := u.y, l := u.l } pv).toArray _ = _
  rw [fillIn o6 pv 7 794 1 _ [.int .i64 u.n] _ rfl rfl rfl (by decide) (LnV.laid_n o6 u.n)]
  rfl
theorem build_19 (u : LnV) (hu : u.Ok) (w : World) : (Instr.build 108 #[(0, .agg u.r.cells.toArray), (1, .agg (intsC u.t).toArray), (2, .agg u.v.cells.toArray), (3, .int .i64 u.x), (4, .int .i64 u.y), (5, .int .i64 u.l), (6, .int .i64 u.n)]).run Try.prog w = .ok (.agg u.base.toArray) w := by
  refine run_build w _ _ _ ?_
  have o0 := LnV.zero_ok
  have o1 : LnV.Ok { LnV.zero with r := u.r } := ⟨hu.r, o0.t, o0.v⟩
  have o2 : LnV.Ok { LnV.zero with r := u.r, t := u.t } := ⟨hu.r, hu.t, o0.v⟩
  have o3 : LnV.Ok { LnV.zero with r := u.r, t := u.t, v := u.v } := ⟨hu.r, hu.t, hu.v⟩
  have o4 : LnV.Ok { LnV.zero with r := u.r, t := u.t, v := u.v, x := u.x } := ⟨hu.r, hu.t, hu.v⟩
  have o5 : LnV.Ok { LnV.zero with r := u.r, t := u.t, v := u.v, x := u.x, y := u.y } := ⟨hu.r, hu.t, hu.v⟩
  have o6 : LnV.Ok { LnV.zero with r := u.r, t := u.t, v := u.v, x := u.x, y := u.y, l := u.l } := ⟨hu.r, hu.t, hu.v⟩
  rw [built19,
    fill19 o0 0 0 21 _ u.r.cells _ rfl rfl (RegsV.length hu.r) (by decide) (LnV.laid_r o0 hu.r),
    fill19 o1 1 21 256 _ (intsC u.t) _ rfl rfl (by rw [intsC_length, hu.t]) (by decide) (LnV.laid_t o1 hu.t),
    fill19 o2 2 277 514 _ u.v.cells _ rfl rfl (VceV.length hu.v) (by decide) (LnV.laid_v o2 hu.v),
    fill19 o3 3 791 1 _ [.int .i64 u.x] _ rfl rfl rfl (by decide) (LnV.laid_x o3 u.x),
    fill19 o4 4 792 1 _ [.int .i64 u.y] _ rfl rfl rfl (by decide) (LnV.laid_y o4 u.y),
    fill19 o5 5 793 1 _ [.int .i64 u.l] _ rfl rfl rfl (by decide) (LnV.laid_l o5 u.l),
    fill19 o6 6 794 1 _ [.int .i64 u.n] _ rfl rfl rfl (by decide) (LnV.laid_n o6 u.n)]
  rfl
theorem build_two (pv : Value) (n : Int) (h1 : pv.cells = #[pv]) (w : World) : (Instr.build 103 #[(0, pv), (7, .int .i64 n)]).run Try.prog w = .ok (.agg (LnV.cells { LnV.zero with n := n } pv).toArray) w := by
  refine run_build w _ _ _ ?_
  rw [builtIn, fillIn0 pv _ _ h1, fillIn LnV.zero_ok pv 7 794 1 _ [.int .i64 n] _ rfl rfl rfl (by decide) (LnV.laid_n LnV.zero_ok n)]
  rfl
end Go.Proofs.Ytlhnfllfankjhaa
