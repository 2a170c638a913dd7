/- Contracts: a line of sprites. -/
import Derived.Test.YtlhnfllfankjhaaSpC
namespace Go.Proofs.Ytlhnfllfankjhaa
open Go Go.RowKit
set_option linter.unusedSimpArgs false
set_option linter.unusedVariables false
set_option maxRecDepth 100000

/-- A picture under way, between two sprites. -/
structure LineAt (w : World) (bw bh bf bp gc gf gi n : Nat) (S : SS) : Prop where
  wd : Blk w bw #[.int .i64 n] 3
  hit : Blk w bh #[.bool S.hit] 4
  fi : Blk w bf #[.slice (some ⟨gi, 0, none⟩) n n] 78
  p : Blk w bp #[.slice (some ⟨gc, 0, none⟩) n n, .slice (some ⟨gf, 0, none⟩) n n] 80
  cols : BlkL (Value.int .i64) w gc S.cols 3
  front : BlkL Value.bool w gf S.front 4
  first : BlkL Value.bool w gi S.first 4
  ok : S.Ok n
theorem LineAt.below {w w' : World} {bw bh bf bp gc gf gi n : Nat} {S : SS} (h : LineAt w bw bh bf bp gc gf gi n S) (hb : Below w.heap.size w w') : LineAt w' bw bh bf bp gc gf gi n S :=
  ⟨Blk.below h.wd hb, Blk.below h.hit hb, Blk.below h.fi hb, Blk.below h.p hb, Blk.below h.cols hb, Blk.below h.front hb, Blk.below h.first hb, h.ok⟩
theorem LineAt.pic {w : World} {bs bw bh bk bf bp gc gf gi n : Nat} {S : SS} (h : LineAt w bw bh bf bp gc gf gi n S) {s : SpV} {k : Int} (h1 : Blk w bs s.cells 88) (h2 : Blk w bk #[.int .i64 k] 3) (hne : [bs, bw, bh, bk, bf, bp, gc, gf, gi].Nodup) : PicAt w bs bw bh bk bf bp gc gf gi s n k S :=
  ⟨h1, h.wd, h.hit, h2, h.fi, h.p, h.cols, h.front, h.first, h.ok, hne⟩
theorem PicAt.line {w : World} {bs bw bh bk bf bp gc gf gi n : Nat} {s : SpV} {k : Int} {S : SS} (h : PicAt w bs bw bh bk bf bp gc gf gi s n k S) : LineAt w bw bh bf bp gc gf gi n S :=
  ⟨h.wd, h.hit, h.fi, h.p, h.cols, h.front, h.first, h.ok⟩

theorem Try.infoBool : (Try.prog.info? 4).map (fun i => (i.zero, i.size, i.bytes)) = some (some (.bool false), 1, 1) := by kernel_rfl
theorem make_bools (n : Nat) (hn : n ≤ 1000000000) (w : World) : (Instr.makeSlice 78 (.int .i64 (n : Int)) (.int .i64 (n : Int))).run Try.prog w = .ok (.slice (some ⟨w.heap.size, 0, none⟩) n n) (w.alloc (.cells (madeCells #[.bool false] n) 4)) :=
  run_make_row' 78 4 _ 1 Try.underlying78 Try.infoBool rfl .i64 .i64 n (by omega) (by omega) w

set_option maxHeartbeats 4000000 in
theorem sprites_Line {w : World} {pv : Value} {f : Int → Int} (hW : Words w pv f) (t : List Int) (ht : t.length = 256) (y : Int) (n : Nat) (hn : n ≤ 512) (hn1 : 1 ≤ n) :
    Calls Try.prog 51 #[pv, aggI t, .int .i64 y, .int .i64 n] w fun e w' => ∃ gc gf, e = .returned (.tuple #[.agg #[.slice (some ⟨gc, 0, none⟩) n n, .slice (some ⟨gf, 0, none⟩) n n], .bool (sprLine f n t y).2, .bool (sprLine f n t y).1.hit]) ∧
      BlkL (Value.int .i64) w' gc (sprLine f n t y).1.cols 3 ∧ BlkL Value.bool w' gf (sprLine f n t y).1.front 4 ∧ w.heap.size ≤ gc ∧ w.heap.size ≤ gf ∧ Below w.heap.size w w' := by
  rw [aggI_eq]
  have hmi := make_ints n (by omega)
  have hmb := make_bools n (by omega)
  have n1 : decide ((n : Int) < 1) = false := by simp; omega
  have n2 : decide ((n : Int) > 512) = false := by simp; omega
  go_enter Try.func51, Try.ntmps51
  go_wp2_with fail
  have A5 := Blk.alloc (Blk.alloc (Blk.alloc (Blk.new w (cellsI t) 37) (Obj.cells #[Value.int .i64 n] 3)) (Obj.cells #[Value.slice none 0 0, Value.slice none 0 0] 80)) (Obj.cells #[Value.bool false] 4)
  have A7 := Blk.alloc (Blk.alloc (Blk.new' (w.alloc (Obj.cells (cellsI t) 37)) (n := w.heap.size + 1) #[Value.int .i64 n] 3 (by simp)) (Obj.cells #[Value.slice none 0 0, Value.slice none 0 0] 80)) (Obj.cells #[Value.bool false] 4)
  have A8 := Blk.alloc (Blk.new' ((w.alloc (Obj.cells (cellsI t) 37)).alloc (Obj.cells #[Value.int .i64 n] 3)) (n := w.heap.size + 1 + 1) #[Value.slice none 0 0, Value.slice none 0 0] 80 (by simp)) (Obj.cells #[Value.bool false] 4)
  have A10 := Blk.new' (((w.alloc (Obj.cells (cellsI t) 37)).alloc (Obj.cells #[Value.int .i64 n] 3)).alloc (Obj.cells #[Value.slice none 0 0, Value.slice none 0 0] 80)) (n := w.heap.size + 1 + 1 + 1) #[Value.bool false] 4 (by simp)
  have B1 := ((((Below.refl w.heap.size w).alloc (Nat.le_refl _) (Obj.cells (cellsI t) 37)).alloc (by simp) (Obj.cells #[Value.int .i64 n] 3)).alloc (by simp; omega) (Obj.cells #[Value.slice none 0 0, Value.slice none 0 0] 80)).alloc (by simp; omega) (Obj.cells #[Value.bool false] 4)
  have sz : ((((w.alloc (Obj.cells (cellsI t) 37)).alloc (Obj.cells #[Value.int .i64 n] 3)).alloc (Obj.cells #[Value.slice none 0 0, Value.slice none 0 0] 80)).alloc (Obj.cells #[Value.bool false] 4)).heap.size = w.heap.size + 4 := by simp
  generalize ((((w.alloc (Obj.cells (cellsI t) 37)).alloc (Obj.cells #[Value.int .i64 n] 3)).alloc (Obj.cells #[Value.slice none 0 0, Value.slice none 0 0] 80)).alloc (Obj.cells #[Value.bool false] 4)) = w1 at *
  have SZ := Lib.hid sz
  clear sz
  have c7 := A7.cell 0
  simp only [List.getElem?_toArray, List.getElem?_cons_zero, List.getElem?_cons_succ] at c7
  go_step3
  go_upto_region 3 with (fail)
  go_cut [] (fun wx => ∃ gc gf, gc ≠ gf ∧ (w.heap.size + 4 ≤ gc ∧ gc < w.heap.size + 6) ∧ (w.heap.size + 4 ≤ gf ∧ gf < w.heap.size + 6) ∧ wx.heap.size = w.heap.size + 6 ∧ Blk wx w.heap.size (cellsI t) 37 ∧ Blk wx (w.heap.size + 1) #[.int .i64 n] 3 ∧ Blk wx (w.heap.size + 1 + 1) #[.slice (some ⟨gc, 0, none⟩) n n, .slice (some ⟨gf, 0, none⟩) n n] 80 ∧
    Blk wx (w.heap.size + 1 + 1 + 1) #[.bool false] 4 ∧ BlkL (Value.int .i64) wx gc (List.replicate n 0) 3 ∧ BlkL Value.bool wx gf (List.replicate n false) 4 ∧ Below w.heap.size w wx)
  case first =>
    have l8 := Blk.lt A8
    have a7 : ∀ o, (w1.alloc o).cell? ⟨w.heap.size + 1, 0, none⟩ = some (.int .i64 n) := fun o => Blk.cell (Blk.alloc A7 o) 0
    have a8 : ∀ o o', ((w1.alloc o).alloc o').cell? ⟨w.heap.size + 1 + 1, 0, none⟩ = some (.slice none 0 0) := fun o o' => Blk.cell (Blk.alloc (Blk.alloc A8 o) o') 0
    have a9 : ∀ o o', ((w1.alloc o).alloc o').cell? ⟨w.heap.size + 1 + 1, 1, none⟩ = some (.slice none 0 0) := fun o o' => Blk.cell (Blk.alloc (Blk.alloc A8 o) o') 1
    have f8 : ∀ o o' i, ((w1.alloc o).alloc o').frozen? ⟨w.heap.size + 1 + 1, i, none⟩ = false := fun o o' i => Blk.free (Blk.alloc (Blk.alloc A8 o) o') i
    go_region
    · go_wp2_with fail
      go_meet
      have e1 := SZ.out
      refine ⟨w1.heap.size, w1.heap.size + 1, by omega, by omega, by omega, by simp; omega, Blk.drew (Blk.other (Blk.other (Blk.alloc (Blk.alloc A5 _) _) _ (by omega)) _ (by omega)), Blk.drew (Blk.other (Blk.other (Blk.alloc (Blk.alloc A7 _) _) _ (by omega)) _ (by omega)), ?_, Blk.drew (Blk.other (Blk.other (Blk.alloc (Blk.alloc A10 _) _) _ (by omega)) _ (by omega)), ?_, ?_, ?_⟩
      · exact Blk.drew (Blk.set (i := 1) (Blk.set (i := 0) (Blk.alloc (Blk.alloc A8 _) _) (.slice (some ⟨w1.heap.size, 0, none⟩) n n)) (.slice (some ⟨w1.heap.size + 1, 0, none⟩) n n))
      · exact Blk.drew (Blk.other (Blk.other (Blk.alloc (BlkL.made (f := Value.int .i64) w1 0 n 3 rfl) _) _ (by omega)) _ (by omega))
      · exact Blk.drew (Blk.other (Blk.other (BlkL.made (f := Value.bool) _ false n 4 (by simp)) _ (by omega)) _ (by omega))
      · exact (((B1.alloc (by omega) _).alloc (by simp; omega) _).setCell (by simp; omega) _).setCell (by simp; omega) _ |>.drew
    · go_wp2_with fail
      go_meet
      have e1 := SZ.out
      refine ⟨w1.heap.size + 1, w1.heap.size, by omega, by omega, by omega, by simp; omega, Blk.drew (Blk.other (Blk.other (Blk.alloc (Blk.alloc A5 _) _) _ (by omega)) _ (by omega)), Blk.drew (Blk.other (Blk.other (Blk.alloc (Blk.alloc A7 _) _) _ (by omega)) _ (by omega)), ?_, Blk.drew (Blk.other (Blk.other (Blk.alloc (Blk.alloc A10 _) _) _ (by omega)) _ (by omega)), ?_, ?_, ?_⟩
      · exact Blk.drew (Blk.set (i := 1) (Blk.set (i := 0) (Blk.alloc (Blk.alloc A8 _) _) (.slice (some ⟨w1.heap.size + 1, 0, none⟩) n n)) (.slice (some ⟨w1.heap.size, 0, none⟩) n n))
      · exact Blk.drew (Blk.other (Blk.other (BlkL.made (f := Value.int .i64) _ 0 n 3 (by simp)) _ (by omega)) _ (by omega))
      · exact Blk.drew (Blk.other (Blk.other (Blk.alloc (BlkL.made (f := Value.bool) w1 false n 4 rfl) _) _ (by omega)) _ (by omega))
      · exact (((B1.alloc (by omega) _).alloc (by simp; omega) _).setCell (by simp; omega) _).setCell (by simp; omega) _ |>.drew
  case rest =>
    clear c7 A5 A7 A8 A10 B1
    obtain ⟨gc, gf, hcf, hgc, hgf, sz, A5, A7, A8, A10, AC, AF, B1⟩ := hcut
    have c7 := A7.cell 0
    simp only [List.getElem?_toArray, List.getElem?_cons_zero, List.getElem?_cons_succ] at c7
    go_wp2_with fail
    have A5' := Blk.alloc (Blk.alloc A5 (Obj.cells (madeCells #[Value.bool false] n) 4)) (Obj.cells #[Value.slice (some ⟨w.heap.size + 6, 0, none⟩) n n] 78)
    have HL : LineAt ((wc.alloc (Obj.cells (madeCells #[Value.bool false] n) 4)).alloc (Obj.cells #[Value.slice (some ⟨w.heap.size + 6, 0, none⟩) n n] 78)) (w.heap.size + 1) (w.heap.size + 1 + 1 + 1) (w.heap.size + 6 + 1) (w.heap.size + 1 + 1) gc gf (w.heap.size + 6) n (SS.zero n) :=
      ⟨Blk.alloc (Blk.alloc A7 _) _, Blk.alloc (Blk.alloc A10 _) _, Blk.new' _ _ _ (by simp; omega), Blk.alloc (Blk.alloc A8 _) _, Blk.alloc (Blk.alloc AC _) _, Blk.alloc (Blk.alloc AF _) _, Blk.alloc (BlkL.made (f := Value.bool) wc false n 4 sz.symm) _, SS.Ok.zero n⟩
    have B2 := (B1.alloc (by omega) (Obj.cells (madeCells #[Value.bool false] n) 4)).alloc (by simp; omega) (Obj.cells #[Value.slice (some ⟨w.heap.size + 6, 0, none⟩) n n] 78)
    clear A5 A7 A8 A10 AC AF B1 c7 SZ
    generalize ((wc.alloc (Obj.cells (madeCells #[Value.bool false] n) 4)).alloc (Obj.cells #[Value.slice (some ⟨w.heap.size + 6, 0, none⟩) n n] 78)) = w2 at *
    clear sz hmi hmb n1 n2
    have hsz : (cellsI t).size = 256 := by rw [cellsI_size, ht]
    have HSZ := Lib.hid hsz
    clear hsz
    go_step3
    go_wp2_with fail
    have hscan : sprLine f n t y = scan f n t y (64 - 0) 0 (SS.zero n) 0 := rfl
    have HSC := Lib.hid hscan
    clear hscan
    go_loopw [9, 12, 29] (fun s9 s12 s29 wr => s9 = .bool false ∧ ∃ k : Nat, s29 = .int .i64 k ∧ k ≤ 64 ∧ ∃ S tk, s12 = .int .i64 tk ∧ (0 ≤ tk ∧ tk ≤ 16) ∧ LineAt wr (w.heap.size + 1) (w.heap.size + 1 + 1 + 1) (w.heap.size + 6 + 1) (w.heap.size + 1 + 1) gc gf (w.heap.size + 6) n S ∧ Hid (sprLine f n t y = scan f n t y (64 - k) k S tk) ∧ Blk wr w.heap.size (cellsI t) 37 ∧ Below w.heap.size w wr) (fun _ _ i _ => 64 - (intOf i).toNat)
    case atStart => exact ⟨rfl, 0, rfl, by omega, _, 0, rfl, by omega, HL, HSC, A5', B2⟩
    case round =>
      clear HL HSC A5' B2
      obtain ⟨rfl, k, rfl, hk, S, tk, rfl, htk, HL, HSC, A5, B⟩ := hrel
      by_cases hk64 : k < 64
      · have d1 : decide ((k : Int) < 64) = true := by simp; omega
        have i1 : (k : Int) < 64 := by omega
        have hin := spOf_in t k
        obtain ⟨m, hm⟩ : ∃ m : Nat, 64 - k = m + 1 := ⟨63 - k, by omega⟩
        have hmk : 64 - (k + 1) = m := by omega
        have hsc := HSC.out
        rw [hm] at hsc
        have A5' := Blk.alloc A5 (Obj.cells #[Value.int .i64 k] 3)
        have hof := fun w => sprites_Of_in t ht k hk64 w
        change ∀ w, Calls _ _ _ w (fun e w' => e = .returned (.agg (spOf t k).cells) ∧ _) at hof
        have HOF := Lib.hid hof
        have l7 := Blk.lt HL.fi
        clear hof hm
        go_wp2_with (first
          | (refine wpList_load_row rfl 37 _ rfl w.heap.size rfl 37 (cellsI t) (0, 0) _ A5' Try.underlying37 rfl (by rw [HSZ.out]; exact size256) ?_))
        refine (HOF.out _).mono ?_; rintro e w3 ⟨rfl, b3⟩
        have B3 := (B.alloc (by have := B.size; omega) (Obj.cells #[Value.int .i64 k] 3)).trans (b3.mono (by have := B.size; simp; omega))
        have A13 : Blk w3 wr.heap.size #[.int .i64 k] 3 := Blk.below (Blk.new _ _ _) b3
        replace A5' := Blk.below A5' b3
        have HL3 := (HL.below ((Below.refl _ _).alloc (Nat.le_refl _) (Obj.cells #[Value.int .i64 k] 3))).below b3
        have s3 : wr.heap.size < w3.heap.size := Blk.lt A13
        clear b3 HOF A5 HL
        have Z := Blk.new w3 one0 88
        have E1 : Hid ((Try.prog.info? 88).map (·.size) = some (spOf t k).cells.size) := Lib.hid t9o
        have E2 : Hid ((spOf t k).cells.all (·.oneCell') = true) := Lib.hid (oneV_one _ _ _ _)
        go_upto_region 10 with (refine wpList_store_row rfl 88 _ _ rfl w3.heap.size (spOf t k).cells rfl rfl 88 one0 Z E1.out rfl E2.out ?_)
        have A14 : Blk ((w3.alloc (Obj.cells one0 88)).setRow w3.heap.size (spOf t k).cells) w3.heap.size (spOf t k).cells 88 := Blk.setRow Z _
        have b4 : Below w3.heap.size w3 ((w3.alloc (Obj.cells one0 88)).setRow w3.heap.size (spOf t k).cells) := below_setRow ((Below.refl _ _).alloc (Nat.le_refl _) _) (Nat.le_refl _) _
        change Code.wp _ _ _ _ ((w3.alloc (Obj.cells one0 88)).setRow w3.heap.size (spOf t k).cells)
        generalize (w3.alloc (Obj.cells one0 88)).setRow w3.heap.size (spOf t k).cells = w4 at *
        replace A13 := Blk.below A13 b4
        replace A5' := Blk.below A5' b4
        have HL4 := HL3.below b4
        have B4 := B3.trans (b4.mono B3.size)
        have s4 : w3.heap.size < w4.heap.size := Blk.lt A14
        have c1 := (Blk.cell A14 1).trans (show (spOf t k).cells[1]? = some (.int .i64 (spOf t k).Y) from rfl)
        have c3 := (Blk.cell A14 3).trans (show (spOf t k).cells[3]? = some (.int .i64 (spOf t k).W) from rfl)
        have c4 := (Blk.cell A14 4).trans (show (spOf t k).cells[4]? = some (.int .i64 (spOf t k).H) from rfl)
        have hoff := scan_off f n t y m k S tk
        have hovr := scan_over f n t y m k S tk
        have hons := scan_on f n t y m k S tk
        generalize hg : w3.heap.size = g14 at *
        clear b4 HL3 B3 Z HSC E1
        have hne : [g14, w.heap.size + 1, w.heap.size + 1 + 1 + 1, wr.heap.size, w.heap.size + 6 + 1, w.heap.size + 1 + 1, gc, gf, w.heap.size + 6].Nodup := by
          simp only [List.nodup_cons, List.mem_cons, not_or, List.not_mem_nil, not_false_eq_true, List.nodup_nil, and_true]
          refine ⟨⟨?_, ?_, ?_, ?_, ?_, ?_, ?_, ?_⟩, ⟨?_, ?_, ?_, ?_, ?_, ?_, ?_⟩, ⟨?_, ?_, ?_, ?_, ?_, ?_⟩, ⟨?_, ?_, ?_, ?_, ?_⟩, ⟨?_, ?_, ?_, ?_⟩, ⟨?_, ?_, ?_⟩, ⟨?_, ?_⟩, ?_⟩ <;> omega
        have hinY := hin.Y
        have hinW := hin.W
        have hinH := hin.H
        obtain ⟨s, hs⟩ : ∃ s, spOf t k = s := ⟨_, rfl⟩
        rw [hs] at A14 c1 c3 c4 hoff hovr hons hin hinY hinW hinH E2
        by_cases hon : s.on y
        · have q1 : s.W.tdiv 16 = s.W / 16 := Int.tdiv_eq_ediv_of_nonneg (by omega)
          by_cases hov : 16 < tk + s.W / 16
          · have hr := hsc.trans (hovr hon hov)
            have HR := Lib.hid hr
            obtain ⟨on1, on2⟩ := hon
            clear hoff hovr hons hsc hs
            have hL := HL4
            have hA := A5'
            have hB := B4
            clear hr
            have hP := hL.p
            have hH := hL.hit
            go_upto_region 16 with (fail)
            have p0 : ∀ m, (w4.drewN m).cell? ⟨w.heap.size + 1 + 1, 0, none⟩ = some (.slice (some ⟨gc, 0, none⟩) n n) := fun m => Blk.cell (Blk.drewN hP m) 0
            have p1 := Blk.cell hP 0
            have p2 := Blk.cell hP 1
            have p3 := Blk.cell hH 0
            have f1 := Blk.free hP
            have f2 := Blk.free hH 0
            simp only [List.getElem?_toArray, List.getElem?_cons_zero, List.getElem?_cons_succ] at p1 p2 p3
            go_region
            have hP5 : Blk (((w4.setCell ⟨w.heap.size + 1 + 1, 0, none⟩ (.slice (some ⟨gc, 0, none⟩) n n)).setCell ⟨w.heap.size + 1 + 1, 1, none⟩ (.slice (some ⟨gf, 0, none⟩) n n)).setCell ⟨w.heap.size + 1 + 1 + 1, 0, none⟩ (.bool S.hit)).drew (w.heap.size + 1 + 1) #[.slice (some ⟨gc, 0, none⟩) n n, .slice (some ⟨gf, 0, none⟩) n n] _ := Blk.drew (Blk.other (Blk.set (i := 1) (Blk.set (i := 0) hP (.slice (some ⟨gc, 0, none⟩) n n)) (.slice (some ⟨gf, 0, none⟩) n n)) _ (by omega))
            have hH5 : Blk (((w4.setCell ⟨w.heap.size + 1 + 1, 0, none⟩ (.slice (some ⟨gc, 0, none⟩) n n)).setCell ⟨w.heap.size + 1 + 1, 1, none⟩ (.slice (some ⟨gf, 0, none⟩) n n)).setCell ⟨w.heap.size + 1 + 1 + 1, 0, none⟩ (.bool S.hit)).drew (w.heap.size + 1 + 1 + 1) #[.bool S.hit] _ := Blk.drew (Blk.set (i := 0) (Blk.other (Blk.other hH _ (by omega)) _ (by omega)) (.bool S.hit))
            have hC5 : BlkL (Value.int .i64) (((w4.setCell ⟨w.heap.size + 1 + 1, 0, none⟩ (.slice (some ⟨gc, 0, none⟩) n n)).setCell ⟨w.heap.size + 1 + 1, 1, none⟩ (.slice (some ⟨gf, 0, none⟩) n n)).setCell ⟨w.heap.size + 1 + 1 + 1, 0, none⟩ (.bool S.hit)).drew gc S.cols _ := Blk.drew (Blk.other (Blk.other (Blk.other hL.cols _ (by omega)) _ (by omega)) _ (by omega))
            have hF5 : BlkL Value.bool (((w4.setCell ⟨w.heap.size + 1 + 1, 0, none⟩ (.slice (some ⟨gc, 0, none⟩) n n)).setCell ⟨w.heap.size + 1 + 1, 1, none⟩ (.slice (some ⟨gf, 0, none⟩) n n)).setCell ⟨w.heap.size + 1 + 1 + 1, 0, none⟩ (.bool S.hit)).drew gf S.front _ := Blk.drew (Blk.other (Blk.other (Blk.other hL.front _ (by omega)) _ (by omega)) _ (by omega))
            have hB5 := (((hB.setCell (p := ⟨w.heap.size + 1 + 1, 0, none⟩) (by simp; omega) (.slice (some ⟨gc, 0, none⟩) n n)).setCell (p := ⟨w.heap.size + 1 + 1, 1, none⟩) (by simp; omega) (.slice (some ⟨gf, 0, none⟩) n n)).setCell (p := ⟨w.heap.size + 1 + 1 + 1, 0, none⟩) (by simp; omega) (.bool S.hit)).drew
            clear p0 p1 p2 p3 f1 f2 hP hH hL hA hB
            generalize (((w4.setCell ⟨w.heap.size + 1 + 1, 0, none⟩ (.slice (some ⟨gc, 0, none⟩) n n)).setCell ⟨w.heap.size + 1 + 1, 1, none⟩ (.slice (some ⟨gf, 0, none⟩) n n)).setCell ⟨w.heap.size + 1 + 1 + 1, 0, none⟩ (.bool S.hit)).drew = w6 at *
            have p1 := Blk.cell hP5 0
            have p2 := Blk.cell hP5 1
            have p3 := Blk.cell hH5 0
            simp only [List.getElem?_toArray, List.getElem?_cons_zero, List.getElem?_cons_succ] at p1 p2 p3
            go_wp2_with fail
            rw [Exit.noGoto_ret]
            refine bodyPost_ret (v := .tuple #[.agg #[.slice (some ⟨gc, 0, none⟩) n n, .slice (some ⟨gf, 0, none⟩) n n], .bool true, .bool S.hit]) (by simp [results, Try.results51, go_sem, p1, p2, p3]) rfl ?_
            rw [HR.out]
            exact ⟨gc, gf, rfl, hC5, hF5, by omega, by omega, hB5⟩
          · have hr := hsc.trans (hons hon hov)
            have HR := Lib.hid hr
            have hon' := hon
            obtain ⟨on1, on2⟩ := hon
            clear hoff hovr hons hsc hs
            have HP := HL4.pic A14 A13 hne
            go_wp2_with (refine wpList_load_row rfl 88 _ rfl g14 rfl 88 s.cells (0, 0) _ A14 Try.underlying88 rfl t9o ?_)
            have hwq : ∀ wq, Tr [w.heap.size + 1 + 1 + 1, gc, gf, w.heap.size + 6] w4 wq → Words wq pv f := fun wq hq => hW.below (Tr.below B4 hq (Nat.le_refl _) (by
              intro b hb
              simp only [List.mem_cons, List.not_mem_nil, or_false] at hb
              omega))
            refine (sprites_pixels HP hwq hin hn y hon').mono ?_; rintro e w5 ⟨rfl, HP5, T5⟩
            clear HP hwq
            have hL := HP5.line
            have hA := Blk.tr A5' T5 (by simp only [List.mem_cons, List.not_mem_nil, or_false]; omega)
            have hB := Tr.below B4 T5 (Nat.le_refl _) (by
              intro b hb
              simp only [List.mem_cons, List.not_mem_nil, or_false] at hb
              omega)
            clear HP5 T5 HL4 A5' A13 A14 B4 c1 c3 c4
            go_wp2
            go_roundw
            case rel => exact ⟨rfl, k + 1, rfl, by omega, _, _, rfl, by omega, hL, Lib.hid (by rw [hmk]; exact HR.out), hA, hB⟩
            case measure => simp [intOf]; omega
        · have hr := hsc.trans (hoff hon)
          have HR := Lib.hid hr
          have hcase : y < s.Y ∨ (¬ y < s.Y ∧ s.Y + s.H ≤ y) := by
            unfold SpV.on at hon
            omega
          clear hoff hovr hons hsc hs hon A13 A14
          rcases hcase with h1 | ⟨h1, h2⟩
          all_goals
            go_wp2
            go_roundw
            case rel => exact ⟨rfl, k + 1, rfl, by omega, _, _, rfl, htk, HL4, Lib.hid (by rw [hmk]; exact HR.out), A5', B4⟩
            case measure => simp [intOf]; omega
      · obtain rfl : k = 64 := by omega
        have hs2 := HSC.out
        rw [show 64 - 64 = 0 from rfl] at hs2
        have hr : sprLine f n t y = (S, false) := hs2
        have HR := Lib.hid hr
        clear hs2 HSC
        have hL := HL
        have hA := A5
        have hB := B
        clear hr
        have hP := hL.p
        have hH := hL.hit
        go_upto_region 16 with (fail)
        have p0 : ∀ m, (wr.drewN m).cell? ⟨w.heap.size + 1 + 1, 0, none⟩ = some (.slice (some ⟨gc, 0, none⟩) n n) := fun m => Blk.cell (Blk.drewN hP m) 0
        have p1 := Blk.cell hP 0
        have p2 := Blk.cell hP 1
        have p3 := Blk.cell hH 0
        have f1 := Blk.free hP
        have f2 := Blk.free hH 0
        simp only [List.getElem?_toArray, List.getElem?_cons_zero, List.getElem?_cons_succ] at p1 p2 p3
        go_region
        have hP5 : Blk (((wr.setCell ⟨w.heap.size + 1 + 1, 0, none⟩ (.slice (some ⟨gc, 0, none⟩) n n)).setCell ⟨w.heap.size + 1 + 1, 1, none⟩ (.slice (some ⟨gf, 0, none⟩) n n)).setCell ⟨w.heap.size + 1 + 1 + 1, 0, none⟩ (.bool S.hit)).drew (w.heap.size + 1 + 1) #[.slice (some ⟨gc, 0, none⟩) n n, .slice (some ⟨gf, 0, none⟩) n n] _ := Blk.drew (Blk.other (Blk.set (i := 1) (Blk.set (i := 0) hP (.slice (some ⟨gc, 0, none⟩) n n)) (.slice (some ⟨gf, 0, none⟩) n n)) _ (by omega))
        have hH5 : Blk (((wr.setCell ⟨w.heap.size + 1 + 1, 0, none⟩ (.slice (some ⟨gc, 0, none⟩) n n)).setCell ⟨w.heap.size + 1 + 1, 1, none⟩ (.slice (some ⟨gf, 0, none⟩) n n)).setCell ⟨w.heap.size + 1 + 1 + 1, 0, none⟩ (.bool S.hit)).drew (w.heap.size + 1 + 1 + 1) #[.bool S.hit] _ := Blk.drew (Blk.set (i := 0) (Blk.other (Blk.other hH _ (by omega)) _ (by omega)) (.bool S.hit))
        have hC5 : BlkL (Value.int .i64) (((wr.setCell ⟨w.heap.size + 1 + 1, 0, none⟩ (.slice (some ⟨gc, 0, none⟩) n n)).setCell ⟨w.heap.size + 1 + 1, 1, none⟩ (.slice (some ⟨gf, 0, none⟩) n n)).setCell ⟨w.heap.size + 1 + 1 + 1, 0, none⟩ (.bool S.hit)).drew gc S.cols _ := Blk.drew (Blk.other (Blk.other (Blk.other hL.cols _ (by omega)) _ (by omega)) _ (by omega))
        have hF5 : BlkL Value.bool (((wr.setCell ⟨w.heap.size + 1 + 1, 0, none⟩ (.slice (some ⟨gc, 0, none⟩) n n)).setCell ⟨w.heap.size + 1 + 1, 1, none⟩ (.slice (some ⟨gf, 0, none⟩) n n)).setCell ⟨w.heap.size + 1 + 1 + 1, 0, none⟩ (.bool S.hit)).drew gf S.front _ := Blk.drew (Blk.other (Blk.other (Blk.other hL.front _ (by omega)) _ (by omega)) _ (by omega))
        have hB5 := (((hB.setCell (p := ⟨w.heap.size + 1 + 1, 0, none⟩) (by simp; omega) (.slice (some ⟨gc, 0, none⟩) n n)).setCell (p := ⟨w.heap.size + 1 + 1, 1, none⟩) (by simp; omega) (.slice (some ⟨gf, 0, none⟩) n n)).setCell (p := ⟨w.heap.size + 1 + 1 + 1, 0, none⟩) (by simp; omega) (.bool S.hit)).drew
        clear p0 p1 p2 p3 f1 f2 hP hH hL hA hB
        generalize (((wr.setCell ⟨w.heap.size + 1 + 1, 0, none⟩ (.slice (some ⟨gc, 0, none⟩) n n)).setCell ⟨w.heap.size + 1 + 1, 1, none⟩ (.slice (some ⟨gf, 0, none⟩) n n)).setCell ⟨w.heap.size + 1 + 1 + 1, 0, none⟩ (.bool S.hit)).drew = w6 at *
        have p1 := Blk.cell hP5 0
        have p2 := Blk.cell hP5 1
        have p3 := Blk.cell hH5 0
        simp only [List.getElem?_toArray, List.getElem?_cons_zero, List.getElem?_cons_succ] at p1 p2 p3
        go_wp2_with fail
        rw [Exit.noGoto_ret]
        refine bodyPost_ret (v := .tuple #[.agg #[.slice (some ⟨gc, 0, none⟩) n n, .slice (some ⟨gf, 0, none⟩) n n], .bool false, .bool S.hit]) (by simp [results, Try.results51, go_sem, p1, p2, p3]) rfl ?_
        rw [HR.out]
        exact ⟨gc, gf, rfl, hC5, hF5, by omega, by omega, hB5⟩
end Go.Proofs.Ytlhnfllfankjhaa
