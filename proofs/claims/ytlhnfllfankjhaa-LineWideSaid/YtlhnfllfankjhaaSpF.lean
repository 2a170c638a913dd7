/- Contracts: the reference's line of sprites. -/
import Derived.Test.YtlhnfllfankjhaaSpE
namespace Go.Proofs.Ytlhnfllfankjhaa
open Go Go.RowKit
set_option linter.unusedSimpArgs false
set_option linter.unusedVariables false
set_option maxRecDepth 100000

/-- The reference's rows under way. -/
structure RefAt (w : World) (gc gf gi n : Nat) (S : SS) : Prop where
  cols : BlkL (Value.int .i64) w gc S.cols 3
  front : BlkL Value.bool w gf S.front 4
  first : BlkL Value.bool w gi S.first 4
  ok : S.Ok n
theorem RefAt.below {w w' : World} {gc gf gi n : Nat} {S : SS} (h : RefAt w gc gf gi n S) (hb : Below w.heap.size w w') : RefAt w' gc gf gi n S := ⟨Blk.below h.cols hb, Blk.below h.front hb, Blk.below h.first hb, h.ok⟩
theorem set_self {xs : List Bool} {i : Nat} {b : Bool} (h : nth false xs i = b) (hi : i < xs.length) : xs.set i b = xs := by
  subst h
  rw [nth_lt hi]
  exact List.set_getElem_self hi
theorem SS.dot_out (S : SS) (n : Nat) (k : Int) (s : SpV) (x c : Int) (h : ¬ (0 ≤ x ∧ x < n)) : S.dot n k s x c = S := by unfold SS.dot; rw [if_neg (fun h' => h h'.1)]
theorem SS.dot_in (S : SS) (n : Nat) (k : Int) (s : SpV) (x : Nat) (c : Int) (hx : x < n) (hc : c ≠ 0) : S.dot n k s x c =
    { cols := if nth 0 S.cols x = 0 then S.cols.set x (16 * s.P + c) else S.cols, front := if nth 0 S.cols x = 0 then S.front.set x s.F else S.front, first := S.first.set x (nth false S.first x || k == 0), hit := S.hit || (decide (0 < k) && nth false S.first x) } := by
  unfold SS.dot
  rw [if_pos ⟨⟨by omega, by omega⟩, hc⟩, Int.toNat_natCast]

set_option maxHeartbeats 4000000 in
theorem ref18_Line {w : World} {p g : Nat} {V : VS} (hv : VAt 66 w p g V) (t : List Int) (ht : t.length = 256) (htr : ∀ i, -9223372036854775808 ≤ nth 0 t i ∧ nth 0 t i ≤ 9223372036854775807) (y : Int) (n : Nat) (hn : n ≤ 512) (hn1 : 1 ≤ n) :
    Calls Try.prog 52 #[.pointer (some ⟨p, 0, none⟩), aggI t, .int .i64 y, .int .i64 n] w fun e w' => ∃ gc gf, e = .returned (.tuple #[.slice (some ⟨gc, 0, none⟩) n n, .slice (some ⟨gf, 0, none⟩) n n, .bool (sprLine V.word n t y).2, .bool (sprLine V.word n t y).1.hit]) ∧
      BlkL (Value.int .i64) w' gc (sprLine V.word n t y).1.cols 3 ∧ BlkL Value.bool w' gf (sprLine V.word n t y).1.front 4 ∧ w.heap.size ≤ gc ∧ w.heap.size ≤ gf ∧ Below w.heap.size w w' := by
  rw [aggI_eq]
  have hmi := make_ints n (by omega)
  have hmb := make_bools n (by omega)
  have n1 : decide ((n : Int) < 1) = false := by simp; omega
  have n2 : decide ((n : Int) > 512) = false := by simp; omega
  have hsz : (cellsI t).size = 256 := by rw [cellsI_size, ht]
  have HSZ := Lib.hid hsz
  clear hsz
  have A5 : Blk ((((w.alloc (Obj.cells (cellsI t) 37)).alloc (Obj.cells (madeCells #[Value.int .i64 0] n) 3)).alloc (Obj.cells (madeCells #[Value.bool false] n) 4)).alloc (Obj.cells (madeCells #[Value.bool false] n) 4)) w.heap.size (cellsI t) 37 := Blk.alloc (Blk.alloc (Blk.alloc (Blk.new w (cellsI t) 37) _) _) _
  have HR0 : RefAt ((((w.alloc (Obj.cells (cellsI t) 37)).alloc (Obj.cells (madeCells #[Value.int .i64 0] n) 3)).alloc (Obj.cells (madeCells #[Value.bool false] n) 4)).alloc (Obj.cells (madeCells #[Value.bool false] n) 4)) (w.heap.size + 1) (w.heap.size + 1 + 1) (w.heap.size + 1 + 1 + 1) n (SS.zero n) :=
    ⟨Blk.alloc (Blk.alloc (BlkL.made (f := Value.int .i64) _ 0 n 3 (by simp)) _) _, Blk.alloc (BlkL.made (f := Value.bool) _ false n 4 (by simp)) _, BlkL.made (f := Value.bool) _ false n 4 (by simp), SS.Ok.zero n⟩
  have B1 := ((((Below.refl w.heap.size w).alloc (Nat.le_refl _) (Obj.cells (cellsI t) 37)).alloc (by simp) (Obj.cells (madeCells #[Value.int .i64 0] n) 3)).alloc (by simp; omega) (Obj.cells (madeCells #[Value.bool false] n) 4)).alloc (by simp; omega) (Obj.cells (madeCells #[Value.bool false] n) 4)
  go_enter Try.func52, Try.ntmps52
  go_wp2_with fail
  generalize ((((w.alloc (Obj.cells (cellsI t) 37)).alloc (Obj.cells (madeCells #[Value.int .i64 0] n) 3)).alloc (Obj.cells (madeCells #[Value.bool false] n) 4)).alloc (Obj.cells (madeCells #[Value.bool false] n) 4)) = w2 at *
  clear hmi hmb n1 n2
  have hscan : sprLine V.word n t y = scan V.word n t y (64 - 0) 0 (SS.zero n) 0 := rfl
  have HSC := Lib.hid hscan
  clear hscan
  go_loopw [15, 16, 17] (fun s15 s16 s17 wr => ∃ k : Nat, s17 = .int .i64 k ∧ k ≤ 64 ∧ ∃ S tk, s16 = .int .i64 tk ∧ (0 ≤ tk ∧ tk ≤ 16) ∧ s15 = .bool (SS.hit S) ∧ RefAt wr (w.heap.size + 1) (w.heap.size + 1 + 1) (w.heap.size + 1 + 1 + 1) n S ∧ Hid (sprLine V.word n t y = scan V.word n t y (64 - k) k S tk) ∧ Blk wr w.heap.size (cellsI t) 37 ∧ Below w.heap.size w wr) (fun _ _ i _ => 64 - (intOf i).toNat)
  case atStart => exact ⟨0, rfl, by omega, _, 0, rfl, by omega, rfl, HR0, HSC, A5, B1⟩
  case round =>
    clear HR0 HSC A5 B1
    obtain ⟨k, rfl, hk, S, tk, rfl, htk, rfl, HL, HSC, A5, B⟩ := hrel
    by_cases hk64 : k < 64
    · have d1 : decide ((k : Int) < 64) = true := by simp; omega
      have i1 : (k : Int) < 64 := by omega
      have hin := spOf_in t k
      obtain ⟨m, hm⟩ : ∃ m : Nat, 64 - k = m + 1 := ⟨63 - k, by omega⟩
      have hmk : 64 - (k + 1) = m := by omega
      have hsc := HSC.out
      rw [hm] at hsc
      have hof := fun w => ref18_Of_in t ht htr k hk64 w
      change ∀ w, Calls _ _ _ w (fun e w' => e = .returned (.agg (spOf t k).cells) ∧ _) at hof
      have HOF := Lib.hid hof
      have l7 := Blk.lt HL.first
      clear hof hm
      go_wp2_with (refine wpList_load_row rfl 37 _ rfl w.heap.size rfl 37 (cellsI t) (0, 0) _ A5 Try.underlying37 rfl (by rw [HSZ.out]; exact size256) ?_)
      refine (HOF.out _).mono ?_; rintro e w3 ⟨rfl, b3⟩
      have B3 := B.trans (b3.mono B.size)
      replace A5 := Blk.below A5 b3
      have HL3 := HL.below b3
      have s3 := b3.size
      clear b3 HOF HL
      have Z := Blk.new w3 one0 123
      have E1 : Hid ((Try.prog.info? 123).map (·.size) = some (spOf t k).cells.size) := Lib.hid (by kernel_rfl)
      have E2 : Hid ((spOf t k).cells.all (·.oneCell') = true) := Lib.hid (oneV_one _ _ _ _)
      go_upto_region 12 with (refine wpList_store_row rfl 123 _ _ rfl w3.heap.size (spOf t k).cells rfl rfl 123 one0 Z E1.out rfl E2.out ?_)
      have A14 : Blk ((w3.alloc (Obj.cells one0 123)).setRow w3.heap.size (spOf t k).cells) w3.heap.size (spOf t k).cells 123 := Blk.setRow Z _
      have b4 : Below w3.heap.size w3 ((w3.alloc (Obj.cells one0 123)).setRow w3.heap.size (spOf t k).cells) := below_setRow ((Below.refl _ _).alloc (Nat.le_refl _) _) (Nat.le_refl _) _
      change Code.wp _ _ _ _ ((w3.alloc (Obj.cells one0 123)).setRow w3.heap.size (spOf t k).cells)
      generalize (w3.alloc (Obj.cells one0 123)).setRow w3.heap.size (spOf t k).cells = w4 at *
      replace A5 := Blk.below A5 b4
      have HL4 := HL3.below b4
      have B4 := B3.trans (b4.mono B3.size)
      have s4 : w3.heap.size < w4.heap.size := Blk.lt A14
      have c1 := (Blk.cell A14 1).trans (show (spOf t k).cells[1]? = some (.int .i64 (spOf t k).Y) from rfl)
      have c3 := (Blk.cell A14 3).trans (show (spOf t k).cells[3]? = some (.int .i64 (spOf t k).W) from rfl)
      have c4 := (Blk.cell A14 4).trans (show (spOf t k).cells[4]? = some (.int .i64 (spOf t k).H) from rfl)
      have hoff := scan_off V.word n t y m k S tk
      have hovr := scan_over V.word n t y m k S tk
      have hons := scan_on V.word n t y m k S tk
      generalize hg : w3.heap.size = g14 at *
      clear b4 HL3 B3 Z HSC E1 E2
      have hinY := hin.Y
      have hinW := hin.W
      have hinH := hin.H
      obtain ⟨s, hs⟩ : ∃ s, spOf t k = s := ⟨_, rfl⟩
      rw [hs] at A14 c1 c3 c4 hoff hovr hons hin hinY hinW hinH
      by_cases hon : s.on y
      · have q1 : s.W.tdiv 16 = s.W / 16 := Int.tdiv_eq_ediv_of_nonneg (by omega)
        by_cases hov : 16 < tk + s.W / 16
        · have hr := hsc.trans (hovr hon hov)
          have HR := Lib.hid hr
          obtain ⟨on1, on2⟩ := hon
          clear hoff hovr hons hsc hs hr
          go_wp2
          refine bodyPost_ret (v := .tuple #[.slice (some ⟨w.heap.size + 1, 0, none⟩) n n, .slice (some ⟨w.heap.size + 1 + 1, 0, none⟩) n n, .bool true, .bool S.hit]) (by simp [results, Try.results52, go_sem]) rfl ?_
          rw [HR.out]
          exact ⟨_, _, rfl, HL4.cols, HL4.front, by omega, by omega, B4⟩
        · have hr := hsc.trans (hons hon hov)
          have HR := Lib.hid hr
          have hon' := hon
          obtain ⟨on1, on2⟩ := hon
          clear hoff hovr hons hsc hs hr
          obtain ⟨mw, hmw⟩ : ∃ mw : Nat, s.W = mw := ⟨s.W.toNat, by omega⟩
          have hmw2 : s.W.toNat = mw := by omega
          rw [hmw2, hmw] at HR
          rw [hmw] at c3
          have hW1 : 16 ≤ (mw : Int) ∧ (mw : Int) ≤ 32 := by omega
          have q2 : ((mw : Nat) : Int).tdiv 16 = (mw : Int) / 16 := Int.tdiv_eq_ediv_of_nonneg (by omega)
          have HMW := Lib.hid hmw
          rw [hmw] at hov hinW
          clear hmw hmw2 q1
          have c0 := (Blk.cell A14 0).trans (show s.cells[0]? = some (.int .i64 s.X) from rfl)
          have c5 := (Blk.cell A14 5).trans (show s.cells[5]? = some (.int .i64 s.P) from rfl)
          have c6 := (Blk.cell A14 6).trans (show s.cells[6]? = some (.bool s.F) from rfl)
          have hX := hin.X
          have hPal := hin.P
          go_wp2_with fail
          clear c0 c1 c3 c4 c5 c6
          go_loopw [15, 19] (fun s15 s19 wr => ∃ j : Nat, s19 = .int .i64 j ∧ j ≤ mw ∧ s15 = .bool (SS.hit (S.sp V.word n k s y j)) ∧ RefAt wr (w.heap.size + 1) (w.heap.size + 1 + 1) (w.heap.size + 1 + 1 + 1) n (S.sp V.word n k s y j) ∧ Blk wr g14 s.cells 123 ∧ Blk wr w.heap.size (cellsI t) 37 ∧ Below w.heap.size w wr) (fun _ i _ => mw - (intOf i).toNat)
          case atStart => exact ⟨0, rfl, by omega, rfl, HL4, A14, A5, B4⟩
          case round =>
            clear HL4 A14 A5 B4
            obtain ⟨j, rfl, hj, rfl, HL4, A14, A5, B4⟩ := hrel
            have c0 := (Blk.cell A14 0).trans (show s.cells[0]? = some (.int .i64 s.X) from rfl)
            have c3 := (Blk.cell A14 3).trans (show s.cells[3]? = some (.int .i64 s.W) from rfl)
            rw [HMW.out] at c3
            by_cases hjm : j < mw
            · have d2 : decide ((j : Int) < (mw : Int)) = true := by simpa using hjm
              have i2 : (j : Int) < (mw : Int) := by omega
              have hsu := S.sp_succ V.word n k s y j
              by_cases hx : 0 ≤ s.X + j ∧ s.X + j < n
              · obtain ⟨x, hxe⟩ : ∃ x : Nat, s.X + j = x := ⟨(s.X + j).toNat, by omega⟩
                have hxn : x < n := by omega
                have hpx := ref18_colour (hv.below B4) s hin y j hon' ⟨by omega, by rw [HMW.out]; omega⟩
                have hpi := s.px_in V.word y j
                rw [hxe] at hsu
                have e0 : IntKind.i64.wrap (s.X + j) = (x : Int) := by rw [IntWalk.i64_in _ (by omega)]; exact hxe
                have j1 : (x : Int) < (n : Int) := by omega
                have HPX := Lib.hid hpx
                clear hxe hx hpx
                generalize s.px V.word y j = c at *
                have HSU := Lib.hid hsu
                clear hsu
                generalize hS1 : S.sp V.word n k s y (j + 1) = S1 at *
                have HS1 := Lib.hid hS1
                clear hS1
                generalize S.sp V.word n k s y j = S0 at *
                go_wp2_with (refine wpList_load_row rfl 123 _ rfl g14 rfl 123 s.cells (0, 0) _ A14 Try.underlying123 rfl (by kernel_rfl) ?_)
                refine HPX.out.mono ?_; rintro e w5 ⟨rfl, b5⟩
                replace HL4 := HL4.below b5
                replace A5 := Blk.below A5 b5
                replace A14 := Blk.below A14 b5
                replace B4 := B4.trans (b5.mono B4.size)
                clear b5 HPX c0 c3
                have hlt1 := Blk.lt HL4.cols
                by_cases hc0 : c = 0
                · subst hc0
                  have hs1 := HSU.out.trans (SS.dot_zero _ _ _ _ _)
                  subst hs1
                  clear HSU
                  go_wp2
                  go_roundw
                  case rel => exact ⟨j + 1, rfl, by omega, by rw [HS1.out], by rw [HS1.out]; exact HL4, A14, A5, B4⟩
                  case measure => simp [intOf]; omega
                · have qc : (c == 0) = false := by simpa using hc0
                  have hs1 := HSU.out.trans (SS.dot_in S0 n k s x c hxn hc0)
                  clear HSU
                  have ok := HL4.ok
                  have r9 := BlkL.cell HL4.cols 0 (i := x) (by rw [ok.cols]; exact hxn)
                  have r10 := BlkL.cell HL4.first false (i := x) (by rw [ok.first]; exact hxn)
                  obtain ⟨fb, r11⟩ : ∃ b, w5.cell? ⟨w.heap.size + 1 + 1, x, none⟩ = some (.bool b) := ⟨_, BlkL.cell HL4.front false (i := x) (by rw [ok.front]; exact hxn)⟩
                  have f1 := Blk.free HL4.cols x
                  have f2 := Blk.free HL4.front x
                  have f3 := Blk.free HL4.first x
                  change _ = some (Value.int .i64 (nth 0 S0.cols x)) at r9
                  change _ = some (Value.bool (nth false S0.first x)) at r10
                  have c5 := (Blk.cell A14 5).trans (show s.cells[5]? = some (.int .i64 s.P) from rfl)
                  have c6 := (Blk.cell A14 6).trans (show s.cells[6]? = some (.bool s.F) from rfl)
                  have o2 : IntKind.i64.wrap (16 * s.P) = 16 * s.P := IntWalk.i64_in _ (by omega)
                  have o3 : IntKind.i64.wrap (16 * s.P + c) = 16 * s.P + c := IntWalk.i64_in _ (by omega)
                  have hc16 : 0 ≤ 16 * s.P + c ∧ 16 * s.P + c < 256 := by omega
                  by_cases hk0 : (k : Int) = 0
                  · by_cases hcz : nth 0 S0.cols x = 0
                    · have qk : ((k : Int) == 0) = true := by simpa using hk0
                      have hs2 : S1 = ⟨S0.cols.set x (16 * s.P + c), S0.front.set x s.F, S0.first.set x true, S0.hit⟩ := by
                        rw [hs1]
                        rw [if_pos hcz, if_pos hcz, qk]
                        have e : decide (0 < (k : Int)) = false := by have := (beq_iff_eq.1 qk); rw [this]; decide
                        rw [e, Bool.or_true, Bool.false_and, Bool.or_false]
                      have HS2 := Lib.hid hs2
                      rw [hcz] at r9
                      clear hs1 hs2 hk0 hcz
                      go_wp2
                      have hok : S1.Ok n := by
                        rw [HS2.out]
                        refine ⟨by simp [ok.cols], by simp [ok.front], by simp [ok.first], fun i => ?_⟩
                        show 0 ≤ nth 0 (S0.cols.set x (16 * s.P + c)) i ∧ _
                        by_cases hi : x = i
                        · subst hi; rw [nth_set_eq (by rw [ok.cols]; exact hxn)]; exact hc16
                        · rw [nth_set_ne hi]; exact ok.range i
                      go_roundw
                      case rel =>
                        refine ⟨j + 1, rfl, by omega, ?_, ⟨?_, ?_, ?_, by rw [HS1.out]; exact hok⟩, (Blk.other (Blk.other (Blk.other A14 _ (by omega)) _ (by omega)) _ (by omega)), (Blk.other (Blk.other (Blk.other A5 _ (by omega)) _ (by omega)) _ (by omega)), (((B4.setCell (by simp <;> omega) _).setCell (by simp <;> omega) _).setCell (by simp <;> omega) _)⟩
                        · rw [HS1.out, HS2.out]
                        · rw [HS1.out, HS2.out]; exact (Blk.other (BlkL.set (i := x) (Blk.other HL4.cols _ (by omega)) (16 * s.P + c)) _ (by omega))
                        · rw [HS1.out, HS2.out]; exact (BlkL.set (i := x) (Blk.other (Blk.other HL4.front _ (by omega)) _ (by omega)) s.F)
                        · rw [HS1.out, HS2.out]; exact (Blk.other (Blk.other (BlkL.set (i := x) HL4.first true) _ (by omega)) _ (by omega))
                      case measure => simp [intOf]; omega
                    · have qk : ((k : Int) == 0) = true := by simpa using hk0
                      have hs2 : S1 = ⟨S0.cols, S0.front, S0.first.set x true, S0.hit⟩ := by
                        rw [hs1]
                        rw [if_neg hcz, if_neg hcz, qk]
                        have e : decide (0 < (k : Int)) = false := by have := (beq_iff_eq.1 qk); rw [this]; decide
                        rw [e, Bool.or_true, Bool.false_and, Bool.or_false]
                      have HS2 := Lib.hid hs2
                      have qz : (nth 0 S0.cols x == 0) = false := by simpa using hcz
                      clear hs1 hs2 hk0
                      go_wp2
                      have hok : S1.Ok n := by
                        rw [HS2.out]
                        refine ⟨ok.cols, ok.front, by simp [ok.first], fun i => ?_⟩
                        exact ok.range i
                      go_roundw
                      case rel =>
                        refine ⟨j + 1, rfl, by omega, ?_, ⟨?_, ?_, ?_, by rw [HS1.out]; exact hok⟩, (Blk.other A14 _ (by omega)), (Blk.other A5 _ (by omega)), (B4.setCell (by simp <;> omega) _)⟩
                        · rw [HS1.out, HS2.out]
                        · rw [HS1.out, HS2.out]; exact (Blk.other HL4.cols _ (by omega))
                        · rw [HS1.out, HS2.out]; exact (Blk.other HL4.front _ (by omega))
                        · rw [HS1.out, HS2.out]; exact (BlkL.set (i := x) HL4.first true)
                      case measure => simp [intOf]; omega
                  · rcases hfb : nth false S0.first x
                    · by_cases hcz : nth 0 S0.cols x = 0
                      · have qk : ((k : Int) == 0) = false := by simpa using hk0
                        have hs2 : S1 = ⟨S0.cols.set x (16 * s.P + c), S0.front.set x s.F, S0.first, S0.hit⟩ := by
                          rw [hs1]
                          rw [if_pos hcz, if_pos hcz, qk]
                          have e : decide (0 < (k : Int)) = true := by have := beq_eq_false_iff_ne.1 qk; simp; omega
                          rw [e, Bool.or_false, Bool.true_and, hfb, set_self hfb (by rw [ok.first]; exact hxn)]
                          rw [Bool.or_false]
                        have HS2 := Lib.hid hs2
                        rw [hfb] at r10
                        rw [hcz] at r9
                        clear hs1 hs2 hfb hcz
                        go_wp2
                        have hok : S1.Ok n := by
                          rw [HS2.out]
                          refine ⟨by simp [ok.cols], by simp [ok.front], ok.first, fun i => ?_⟩
                          show 0 ≤ nth 0 (S0.cols.set x (16 * s.P + c)) i ∧ _
                          by_cases hi : x = i
                          · subst hi; rw [nth_set_eq (by rw [ok.cols]; exact hxn)]; exact hc16
                          · rw [nth_set_ne hi]; exact ok.range i
                        go_roundw
                        case rel =>
                          refine ⟨j + 1, rfl, by omega, ?_, ⟨?_, ?_, ?_, by rw [HS1.out]; exact hok⟩, (Blk.other (Blk.other A14 _ (by omega)) _ (by omega)), (Blk.other (Blk.other A5 _ (by omega)) _ (by omega)), ((B4.setCell (by simp <;> omega) _).setCell (by simp <;> omega) _)⟩
                          · rw [HS1.out, HS2.out]
                          · rw [HS1.out, HS2.out]; exact (Blk.other (BlkL.set (i := x) HL4.cols (16 * s.P + c)) _ (by omega))
                          · rw [HS1.out, HS2.out]; exact (BlkL.set (i := x) (Blk.other HL4.front _ (by omega)) s.F)
                          · rw [HS1.out, HS2.out]; exact (Blk.other (Blk.other HL4.first _ (by omega)) _ (by omega))
                        case measure => simp [intOf]; omega
                      · have qk : ((k : Int) == 0) = false := by simpa using hk0
                        have hs2 : S1 = ⟨S0.cols, S0.front, S0.first, S0.hit⟩ := by
                          rw [hs1]
                          rw [if_neg hcz, if_neg hcz, qk]
                          have e : decide (0 < (k : Int)) = true := by have := beq_eq_false_iff_ne.1 qk; simp; omega
                          rw [e, Bool.or_false, Bool.true_and, hfb, set_self hfb (by rw [ok.first]; exact hxn)]
                          rw [Bool.or_false]
                        have HS2 := Lib.hid hs2
                        rw [hfb] at r10
                        have qz : (nth 0 S0.cols x == 0) = false := by simpa using hcz
                        clear hs1 hs2 hfb
                        go_wp2
                        have hok : S1.Ok n := by
                          rw [HS2.out]
                          refine ⟨ok.cols, ok.front, ok.first, fun i => ?_⟩
                          exact ok.range i
                        go_roundw
                        case rel =>
                          refine ⟨j + 1, rfl, by omega, ?_, ⟨?_, ?_, ?_, by rw [HS1.out]; exact hok⟩, A14, A5, B4⟩
                          · rw [HS1.out, HS2.out]
                          · rw [HS1.out, HS2.out]; exact HL4.cols
                          · rw [HS1.out, HS2.out]; exact HL4.front
                          · rw [HS1.out, HS2.out]; exact HL4.first
                        case measure => simp [intOf]; omega
                    · by_cases hcz : nth 0 S0.cols x = 0
                      · have qk : ((k : Int) == 0) = false := by simpa using hk0
                        have hs2 : S1 = ⟨S0.cols.set x (16 * s.P + c), S0.front.set x s.F, S0.first, true⟩ := by
                          rw [hs1]
                          rw [if_pos hcz, if_pos hcz, qk]
                          have e : decide (0 < (k : Int)) = true := by have := beq_eq_false_iff_ne.1 qk; simp; omega
                          rw [e, Bool.or_false, Bool.true_and, hfb, set_self hfb (by rw [ok.first]; exact hxn)]
                          rw [Bool.or_true]
                        have HS2 := Lib.hid hs2
                        rw [hfb] at r10
                        rw [hcz] at r9
                        clear hs1 hs2 hfb hcz
                        go_wp2
                        have hok : S1.Ok n := by
                          rw [HS2.out]
                          refine ⟨by simp [ok.cols], by simp [ok.front], ok.first, fun i => ?_⟩
                          show 0 ≤ nth 0 (S0.cols.set x (16 * s.P + c)) i ∧ _
                          by_cases hi : x = i
                          · subst hi; rw [nth_set_eq (by rw [ok.cols]; exact hxn)]; exact hc16
                          · rw [nth_set_ne hi]; exact ok.range i
                        go_roundw
                        case rel =>
                          refine ⟨j + 1, rfl, by omega, ?_, ⟨?_, ?_, ?_, by rw [HS1.out]; exact hok⟩, (Blk.other (Blk.other A14 _ (by omega)) _ (by omega)), (Blk.other (Blk.other A5 _ (by omega)) _ (by omega)), ((B4.setCell (by simp <;> omega) _).setCell (by simp <;> omega) _)⟩
                          · rw [HS1.out, HS2.out]
                          · rw [HS1.out, HS2.out]; exact (Blk.other (BlkL.set (i := x) HL4.cols (16 * s.P + c)) _ (by omega))
                          · rw [HS1.out, HS2.out]; exact (BlkL.set (i := x) (Blk.other HL4.front _ (by omega)) s.F)
                          · rw [HS1.out, HS2.out]; exact (Blk.other (Blk.other HL4.first _ (by omega)) _ (by omega))
                        case measure => simp [intOf]; omega
                      · have qk : ((k : Int) == 0) = false := by simpa using hk0
                        have hs2 : S1 = ⟨S0.cols, S0.front, S0.first, true⟩ := by
                          rw [hs1]
                          rw [if_neg hcz, if_neg hcz, qk]
                          have e : decide (0 < (k : Int)) = true := by have := beq_eq_false_iff_ne.1 qk; simp; omega
                          rw [e, Bool.or_false, Bool.true_and, hfb, set_self hfb (by rw [ok.first]; exact hxn)]
                          rw [Bool.or_true]
                        have HS2 := Lib.hid hs2
                        rw [hfb] at r10
                        have qz : (nth 0 S0.cols x == 0) = false := by simpa using hcz
                        clear hs1 hs2 hfb
                        go_wp2
                        have hok : S1.Ok n := by
                          rw [HS2.out]
                          refine ⟨ok.cols, ok.front, ok.first, fun i => ?_⟩
                          exact ok.range i
                        go_roundw
                        case rel =>
                          refine ⟨j + 1, rfl, by omega, ?_, ⟨?_, ?_, ?_, by rw [HS1.out]; exact hok⟩, A14, A5, B4⟩
                          · rw [HS1.out, HS2.out]
                          · rw [HS1.out, HS2.out]; exact HL4.cols
                          · rw [HS1.out, HS2.out]; exact HL4.front
                          · rw [HS1.out, HS2.out]; exact HL4.first
                        case measure => simp [intOf]; omega
              · have hs1 := hsu.trans (SS.dot_out _ n k s _ _ hx)
                have hxc : s.X + j < 0 ∨ (¬ s.X + j < 0 ∧ (n : Int) ≤ s.X + j) := by omega
                clear hx hsu
                rw [← hs1] at HL4 ⊢
                have e0 : IntKind.i64.wrap (s.X + j) = s.X + j := IntWalk.i64_in _ (by omega)
                clear hs1
                generalize hS1 : S.sp V.word n k s y (j + 1) = S1 at *
                have HS1 := Lib.hid hS1
                clear hS1
                rcases hxc with h1 | ⟨h1, h2⟩
                all_goals
                  go_wp2
                  go_roundw
                  case rel => exact ⟨j + 1, rfl, by omega, by rw [HS1.out], by rw [HS1.out]; exact HL4, A14, A5, B4⟩
                  case measure => simp [intOf]; omega
            · obtain rfl : j = mw := by omega
              have d2 : decide ((j : Int) < (j : Int)) = false := by simp
              go_wp2
              go_roundw
              case rel => exact ⟨k + 1, rfl, by omega, _, _, rfl, by omega, rfl, HL4, Lib.hid (by rw [hmk]; exact HR.out), A5, B4⟩
              case measure => simp [intOf]; omega
      · have hr := hsc.trans (hoff hon)
        have HR := Lib.hid hr
        have hcase : y < s.Y ∨ (¬ y < s.Y ∧ s.Y + s.H ≤ y) := by
          unfold SpV.on at hon
          omega
        clear hoff hovr hons hsc hs hon A14 hr
        rcases hcase with h1 | ⟨h1, h2⟩
        all_goals
          go_wp2
          go_roundw
          case rel => exact ⟨k + 1, rfl, by omega, _, _, rfl, htk, rfl, HL4, Lib.hid (by rw [hmk]; exact HR.out), A5, B4⟩
          case measure => simp [intOf]; omega
    · obtain rfl : k = 64 := by omega
      have hs2 := HSC.out
      rw [show 64 - 64 = 0 from rfl] at hs2
      have hr : sprLine V.word n t y = (S, false) := hs2
      have HR := Lib.hid hr
      clear hs2 HSC hr
      go_wp2
      refine bodyPost_ret (v := .tuple #[.slice (some ⟨w.heap.size + 1, 0, none⟩) n n, .slice (some ⟨w.heap.size + 1 + 1, 0, none⟩) n n, .bool false, .bool S.hit]) (by simp [results, Try.results52, go_sem]) rfl ?_
      rw [HR.out]
      exact ⟨_, _, rfl, HL.cols, HL.front, by omega, by omega, B⟩
end Go.Proofs.Ytlhnfllfankjhaa
