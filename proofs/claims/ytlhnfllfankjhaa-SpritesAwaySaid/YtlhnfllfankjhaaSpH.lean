/- The walk of SpritesAway. -/
import Derived.Test.YtlhnfllfankjhaaSpG
namespace Go.Proofs.Ytlhnfllfankjhaa
open Go Go.RowKit
set_option linter.unusedSimpArgs false
set_option linter.unusedVariables false
set_option maxRecDepth 100000

theorem away_line (f : Int → Int) (n : Nat) (t : List Int) (ht : t.length = 256) (k : Nat) (hk : k < 64) :
    sprLine f n (t.set (4 * k) 564) 20 = sprLine f n ((((t.set (4 * k) 564).set (4 * k + 1) 40).set (4 * k + 2) 2).set (4 * k + 3) 12672) 20 := by
  refine scan_congr f n _ _ 20 64 0 _ 0 fun j _ hj => ?_
  by_cases h : j = k
  · subst h
    refine .inr ⟨?_, ?_⟩
    · rintro ⟨h1, _⟩
      have e : (spOf (t.set (4 * j) 564) j).Y = 500 := by
        show nth 0 (t.set (4 * j) 564) (4 * j) % 1024 - 64 = 500
        rw [nth_set_eq (by omega)]; decide
      omega
    · rintro ⟨h1, _⟩
      have e : (spOf ((((t.set (4 * j) 564).set (4 * j + 1) 40).set (4 * j + 2) 2).set (4 * j + 3) 12672) j).Y = 500 := by
        show nth 0 ((((t.set (4 * j) 564).set (4 * j + 1) 40).set (4 * j + 2) 2).set (4 * j + 3) 12672) (4 * j) % 1024 - 64 = 500
        rw [nth_set_ne (by omega), nth_set_ne (by omega), nth_set_ne (by omega), nth_set_eq (by omega)]; decide
      omega
  · refine .inl (spOf_congr _ _ j fun i h1 h2 => ?_)
    rw [nth_set_ne (i := 4 * k + 3) (by omega), nth_set_ne (i := 4 * k + 2) (by omega), nth_set_ne (i := 4 * k + 1) (by omega)]

set_option maxHeartbeats 4000000 in
theorem spritesAway_walk (a : Option Addr) (c : Nat) (xs : List PokeV) (b : Option Addr) (d : Nat) (ys : List Int) (k0 : Int) (w : World) (S : PokesAt w a xs) (hI : ∀ x ∈ xs, x.In) (hm : xs.length ≤ maxLen) (hmb : ys.length ≤ maxLen) (S3 : SlAt (Value.int .i64) 0 w b ys) :
    Calls Try.prog 21 #[.slice a xs.length c, .slice b ys.length d, .int .i64 k0] w fun e w' => e = .returned (.bool true) ∧ Below w.heap.size w w' := by
  have HZ := Lib.hid zero256
  go_enter Try.func21, Try.ntmps21
  go_wp2_with fail
  refine (law17_Made a c xs S hI hm).mono ?_; rintro e w2 ⟨p, g, q, h, rfl, T⟩
  replace S3 := S3.below T.below
  have B1 := T.below
  have hx := T.x
  clear S hI T
  generalize hge : w.heap.size = ge at *
  obtain ⟨k, hk, hkl⟩ : ∃ k : Nat, k0 % 64 = k ∧ k < 64 := ⟨(k0 % 64).toNat, by omega, by omega⟩
  have HK := Lib.hid hk
  clear hk
  go_wp2_with fail
  rw [HK.out]
  refine (law18_Table b d ys w2 hmb S3).mono ?_; rintro e w3 ⟨rfl, b3⟩
  have htl := table_length ys (min ys.length 256)
  generalize table ys (min ys.length 256) = t at *
  replace hx := hx.below b3
  have s1 := B1.size
  replace B1 := B1.trans (b3.mono (by omega))
  clear b3 S3 HK
  have lx := hx.lt
  have Z := Blk.new w3 (cellsI (zeros 256)) 37
  have hz := HZ.out
  have hsz : ∀ l : List Int, l.length = 256 → (Try.prog.info? 37).map (·.size) = some (cellsI l).size := fun l hl => by rw [cellsI_size, hl]; exact size256
  have H1 := Lib.hid hsz
  have hzz : ∀ l : List Int, l.length = 256 → (cellsI (zeros 256)).size = (cellsI l).size := fun l hl => by rw [cellsI_size, cellsI_size, hl, zeros_length]
  have H2 := Lib.hid hzz
  clear hsz hzz
  go_upto_region 6 with (refine wpList_store_row rfl 37 _ _ rfl w3.heap.size (cellsI t) rfl rfl 37 (cellsI (zeros 256)) Z (H1.out t htl) (H2.out t htl) (cellsI_one _) ?_)
  clear hz
  have A9 : BlkL (Value.int .i64) _ w3.heap.size t _ := Blk.setRow Z (cellsI t)
  have b4 : Below w3.heap.size w3 ((w3.alloc (Obj.cells (cellsI (zeros 256)) 37)).setRow w3.heap.size (cellsI t)) := below_setRow ((Below.refl _ _).alloc (Nat.le_refl _) _) (Nat.le_refl _) _
  replace hx := hx.below b4
  have s1 := B1.size
  replace B1 := B1.trans (b4.mono (by omega))
  generalize hg9 : w3.heap.size = g9 at *
  generalize (w3.alloc (Obj.cells (cellsI (zeros 256)) 37)).setRow g9 (cellsI t) = w4 at *
  clear b4 Z
  have i0 : (4 * (k : Int)).toNat = 4 * k := by omega
  have i1 : (4 * (k : Int) + 1).toNat = 4 * k + 1 := by omega
  have i2 : (4 * (k : Int) + 2).toNat = 4 * k + 2 := by omega
  have i3 : (4 * (k : Int) + 3).toNat = 4 * k + 3 := by omega
  have b9 : ge ≤ g9 := by omega
  have l9 := Blk.lt A9
  have r0 := BlkL.at A9 (i := 4 * k) (by omega)
  have f0 := Blk.free A9 (4 * k)
  go_upto_region 7 with (fail)
  clear r0 f0
  replace A9 := BlkL.set (i := 4 * k) A9 564
  replace hx := hx.tr ((Tr.refl [g9] w4).setCell (b := g9) (4 * k) (by simp) (.int .i64 564)) (by simp; omega) (by simp; omega)
  replace B1 := B1.setCell (p := ⟨g9, 4 * k, none⟩) (by simp; exact b9) (.int .i64 564)
  have hsz1 : (w4.setCell ⟨g9, 4 * k, none⟩ (.int .i64 564)).heap.size = w4.heap.size := by simp
  have HS1 := Lib.hid hsz1
  clear hsz1
  generalize w4.setCell ⟨g9, 4 * k, none⟩ (.int .i64 564) = w5 at *
  have htl1 : (t.set (4 * k) 564).length = 256 := by simp [htl]
  have hline := away_line (madeOf xs).word 100 t htl k hkl
  have HLN := Lib.hid hline
  clear hline
  generalize t.set (4 * k) 564 = t1 at *
  have Z := Blk.new w5 (cellsI (zeros 256)) 37
  have hz := HZ.out
  have hq9 : BlkL (Value.int .i64) (w5.alloc (Obj.cells (cellsI (zeros 256)) 37)) g9 t1 _ := Blk.alloc A9 _
  go_upto_region 8 with (first
    | (refine wpList_load_row rfl 37 _ rfl g9 rfl 37 (cellsI t1) (0, 0) _ A9 Try.underlying37 rfl (H1.out t1 htl1) ?_)
    | (refine wpList_store_row rfl 37 _ _ rfl w5.heap.size (cellsI t1) rfl rfl 37 (cellsI (zeros 256)) Z (H1.out t1 htl1) (H2.out t1 htl1) (cellsI_one _) ?_))
  clear hz hq9
  have A10 : BlkL (Value.int .i64) _ w5.heap.size t1 _ := Blk.setRow Z (cellsI t1)
  have b5 : Below w5.heap.size w5 ((w5.alloc (Obj.cells (cellsI (zeros 256)) 37)).setRow w5.heap.size (cellsI t1)) := below_setRow ((Below.refl _ _).alloc (Nat.le_refl _) _) (Nat.le_refl _) _
  replace hx := hx.below b5
  replace A9 : BlkL (Value.int .i64) _ _ _ _ := Blk.below A9 b5
  have s1 := B1.size
  replace B1 := B1.trans (b5.mono (by omega))
  have l10 : g9 < w5.heap.size := by have := HS1.out; omega
  have lx2 : p < w5.heap.size ∧ g < w5.heap.size := by have := HS1.out; omega
  generalize hg10 : w5.heap.size = g10 at *
  generalize (w5.alloc (Obj.cells (cellsI (zeros 256)) 37)).setRow g10 (cellsI t1) = w6 at *
  clear b5 Z HS1
  have c1 := BlkL.at A10 (i := 4 * k + 1) (by omega)
  have c2 := BlkL.at A10 (i := 4 * k + 2) (by omega)
  have c3 := BlkL.at A10 (i := 4 * k + 3) (by omega)
  have f1 := Blk.free A10 (4 * k + 1)
  have f2 := Blk.free A10 (4 * k + 2)
  have f3 := Blk.free A10 (4 * k + 3)
  go_upto_region 9 with (fail)
  clear c1 c2 c3 f1 f2 f3 i0 i1 i2 i3
  replace A10 := BlkL.set (i := 4 * k + 3) (BlkL.set (i := 4 * k + 2) (BlkL.set (i := 4 * k + 1) A10 40) 2) 12672
  have T10 := (((Tr.refl [g10] w6).setCell (b := g10) (4 * k + 1) (by simp) (.int .i64 40)).setCell (b := g10) (4 * k + 2) (by simp) (.int .i64 2)).setCell (b := g10) (4 * k + 3) (by simp) (.int .i64 12672)
  replace hx := hx.tr T10 (by simp; omega) (by simp; omega)
  replace A9 : BlkL (Value.int .i64) _ _ _ _ := Blk.tr A9 T10 (by simp; omega)
  replace B1 := Tr.below B1 T10 (by omega) (by simp; omega)
  have htl2 : (((t1.set (4 * k + 1) 40).set (4 * k + 2) 2).set (4 * k + 3) 12672).length = 256 := by simp [htl1]
  generalize ((t1.set (4 * k + 1) 40).set (4 * k + 2) 2).set (4 * k + 3) 12672 = t2 at *
  generalize ((w6.setCell ⟨g10, 4 * k + 1, none⟩ (.int .i64 40)).setCell ⟨g10, 4 * k + 2, none⟩ (.int .i64 2)).setCell ⟨g10, 4 * k + 3, none⟩ (.int .i64 12672) = w7 at *
  clear T10 htl lx lx2
  have hW := hx.toWords
  generalize (madeOf xs).word = f at *
  clear hx
  have ok := sprLine_ok f 100 t1 20
  have okc := ok.cols
  have okf := ok.front
  clear ok
  go_wp2_with (refine wpList_load_row rfl 37 _ rfl g9 rfl 37 (cellsI t1) (0, 0) _ A9 Try.underlying37 rfl (H1.out t1 htl1) ?_)
  have hL1 := sprites_Line hW t1 htl1 20 100 (by decide) (by decide)
  have hL2 := fun w pv (hW : Words w pv f) => sprites_Line hW t2 htl2 20 100 (by decide) (by decide)
  rw [← HLN.out] at hL2
  obtain ⟨L, hL⟩ : ∃ L, sprLine f 100 t1 20 = L := ⟨_, rfl⟩
  rw [hL] at hL1 hL2 okc okf
  rw [aggI_eq] at hL1 hL2
  clear hL HLN
  refine hL1.mono ?_; rintro e w8 ⟨gc, gf, rfl, hC, hF, gcb, gfb, b8⟩
  clear hL1
  replace hW := hW.below b8
  replace A10 : BlkL (Value.int .i64) _ _ _ _ := Blk.below A10 b8
  have s1 := B1.size
  replace B1 := B1.trans (b8.mono (by omega))
  clear b8
  have Z := Blk.new w8 #[.slice (some ⟨gc, 0, none⟩) 100 100, .slice (some ⟨gf, 0, none⟩) 100 100] 80
  have bz := (Below.refl w8.heap.size w8).alloc (Nat.le_refl _) (Obj.cells #[.slice (some ⟨gc, 0, none⟩) 100 100, .slice (some ⟨gf, 0, none⟩) 100 100] 80)
  replace hW := hW.below bz
  replace A10 : BlkL (Value.int .i64) _ _ _ _ := Blk.below A10 bz
  have s1 := B1.size
  replace B1 := B1.trans (bz.mono (by omega))
  replace hC : BlkL (Value.int .i64) _ _ _ _ := Blk.below hC bz
  replace hF : BlkL Value.bool _ _ _ _ := Blk.below hF bz
  clear bz
  go_wp2_with (refine wpList_load_row rfl 37 _ rfl g10 rfl 37 (cellsI t2) (0, 0) _ A10 Try.underlying37 rfl (H1.out t2 htl2) ?_)
  generalize hgz : w8.heap.size = gz at *
  generalize w8.alloc (Obj.cells #[.slice (some ⟨gc, 0, none⟩) 100 100, .slice (some ⟨gf, 0, none⟩) 100 100] 80) = w9 at *
  refine (hL2 _ _ hW).mono ?_; rintro e w10 ⟨hc, hf, rfl, hC2, hF2, hcb, hfb, b10⟩
  clear hL2
  replace Z := Blk.below Z b10
  have s1 := B1.size
  replace B1 := B1.trans (b10.mono (by omega))
  replace hC : BlkL (Value.int .i64) _ _ _ _ := Blk.below hC b10
  replace hF : BlkL Value.bool _ _ _ _ := Blk.below hF b10
  clear b10 A10 hW
  generalize L.1.cols = CL at *
  generalize L.1.front = FL at *
  generalize L.2 = ov at *
  generalize L.1.hit = ht at *
  have p0 := Blk.cell Z 0
  have p0' : ∀ o, (w10.alloc o).cell? ⟨gz, 0, none⟩ = _ := fun o => Blk.cell (Blk.alloc Z o) 0
  simp only [List.getElem?_toArray, List.getElem?_cons_zero, List.getElem?_cons_succ] at p0 p0'
  have lz := Blk.lt Z
  have qo : (ov != ov) = false := by simp
  have qh : (ht != ht) = false := by simp
  go_wp2_with fail
  clear p0 p0' lz
  have Y := Blk.new w10 #[.slice (some ⟨hc, 0, none⟩) 100 100, .slice (some ⟨hf, 0, none⟩) 100 100] 80
  have bz := (Below.refl w10.heap.size w10).alloc (Nat.le_refl _) (Obj.cells #[.slice (some ⟨hc, 0, none⟩) 100 100, .slice (some ⟨hf, 0, none⟩) 100 100] 80)
  replace Z := Blk.below Z bz
  have s1 := B1.size
  replace B1 := B1.trans (bz.mono (by omega))
  replace hC : BlkL (Value.int .i64) _ _ _ _ := Blk.below hC bz
  replace hF : BlkL Value.bool _ _ _ _ := Blk.below hF bz
  replace hC2 : BlkL (Value.int .i64) _ _ _ _ := Blk.below hC2 bz
  replace hF2 : BlkL Value.bool _ _ _ _ := Blk.below hF2 bz
  clear bz
  generalize hgy : w10.heap.size = gy at *
  generalize w10.alloc (Obj.cells #[.slice (some ⟨hc, 0, none⟩) 100 100, .slice (some ⟨hf, 0, none⟩) 100 100] 80) = w13 at *
  go_loopw [17] (fun i wr => ∃ k : Nat, k ≤ 100 ∧ i = .int .i64 k ∧ Below w13.heap.size w13 wr) (fun i _ => 100 - (intOf i).toNat)
  case atStart => exact ⟨0, by omega, rfl, Below.refl _ _⟩
  case round =>
    obtain ⟨j, hj, rfl, hb⟩ := hrel
    by_cases hlt : j < 100
    · have d2 : decide ((j : Int) < 100) = true := by simp; omega
      have i1 : (j : Int) < 100 := by omega
      have r0 : wr.cell? ⟨gz, 0, none⟩ = some (.slice (some ⟨gc, 0, none⟩) 100 100) := Blk.cell (Blk.below Z hb) 0
      have r1 : wr.cell? ⟨gz, 1, none⟩ = some (.slice (some ⟨gf, 0, none⟩) 100 100) := Blk.cell (Blk.below Z hb) 1
      have r2 : wr.cell? ⟨gy, 0, none⟩ = some (.slice (some ⟨hc, 0, none⟩) 100 100) := Blk.cell (Blk.below Y hb) 0
      have r3 : wr.cell? ⟨gy, 1, none⟩ = some (.slice (some ⟨hf, 0, none⟩) 100 100) := Blk.cell (Blk.below Y hb) 1
      have r4 : wr.cell? ⟨gc, j, none⟩ = some (.int .i64 (nth 0 CL j)) := BlkL.at (w := wr) (Blk.below hC hb) (by omega)
      have r5 : wr.cell? ⟨hc, j, none⟩ = some (.int .i64 (nth 0 CL j)) := BlkL.at (w := wr) (Blk.below hC2 hb) (by omega)
      have r6 : wr.cell? ⟨gf, j, none⟩ = some (.bool (nth false FL j)) := BlkL.cell (f := Value.bool) (w := wr) (Blk.below hF hb) false (by omega)
      have r7 : wr.cell? ⟨hf, j, none⟩ = some (.bool (nth false FL j)) := BlkL.cell (f := Value.bool) (w := wr) (Blk.below hF2 hb) false (by omega)
      generalize nth 0 CL j = z at *
      generalize nth false FL j = fb at *
      have q4 : (z != z) = false := by simp
      have q5 : (fb != fb) = false := by simp
      go_wp2_with fail
      go_quiet (fail)
      go_wp2
      go_roundw
      case rel => exact ⟨j + 1, by omega, rfl, below_drewN hb nq⟩
      case measure => simp [intOf]; omega
    · obtain rfl : j = 100 := by omega
      have s1 := B1.size
      replace B1 := B1.trans (hb.mono (by omega))
      rw [← hge] at B1
      go_wp2
      go_ret
      exact ⟨rfl, B1⟩
end Go.Proofs.Ytlhnfllfankjhaa
