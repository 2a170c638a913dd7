/- Contracts: a picture under way, and one pixel of a sprite onto it. -/
import Derived.Test.YtlhnfllfankjhaaSpA
import Derived.Test.YtlhnfllfankjhaaRn
import Derived.StillTailTactics
namespace Go.Proofs.Ytlhnfllfankjhaa
open Go Go.RowKit
set_option linter.unusedSimpArgs false
set_option linter.unusedVariables false
set_option maxRecDepth 100000

/-- A picture under way, as the program keeps it: s the sprite, wd the width, bh the hit's cell, bk the sprite's number, bf the cell of the first one's places, bp the picture, and the three rows. -/
structure PicAt (w : World) (bs bw bh bk bf bp gc gf gi : Nat) (s : SpV) (n : Nat) (k : Int) (S : SS) : Prop where
  s : Blk w bs s.cells 88
  wd : Blk w bw #[.int .i64 n] 3
  hit : Blk w bh #[.bool S.hit] 4
  k : Blk w bk #[.int .i64 k] 3
  fi : Blk w bf #[.slice (some ⟨gi, 0, none⟩) n n] 78
  p : Blk w bp #[.slice (some ⟨gc, 0, none⟩) n n, .slice (some ⟨gf, 0, none⟩) n n] 80
  cols : BlkL (Value.int .i64) w gc S.cols 3
  front : BlkL Value.bool w gf S.front 4
  first : BlkL Value.bool w gi S.first 4
  ok : S.Ok n
  ne : [bs, bw, bh, bk, bf, bp, gc, gf, gi].Nodup
theorem PicAt.below {w w' : World} {bs bw bh bk bf bp gc gf gi n : Nat} {s : SpV} {k : Int} {S : SS} (h : PicAt w bs bw bh bk bf bp gc gf gi s n k S) (hb : Below w.heap.size w w') : PicAt w' bs bw bh bk bf bp gc gf gi s n k S :=
  ⟨Blk.below h.s hb, Blk.below h.wd hb, Blk.below h.hit hb, Blk.below h.k hb, Blk.below h.fi hb, Blk.below h.p hb, Blk.below h.cols hb, Blk.below h.front hb, Blk.below h.first hb, h.ok, h.ne⟩
theorem PicAt.drew {w : World} {bs bw bh bk bf bp gc gf gi n : Nat} {s : SpV} {k : Int} {S : SS} (h : PicAt w bs bw bh bk bf bp gc gf gi s n k S) (m : Nat) : PicAt (w.drewN m) bs bw bh bk bf bp gc gf gi s n k S := h.below (below_drewN (Below.refl _ _) m)

/-- What stays of a picture when one of its four turning blocks is written. -/
theorem PicAt.setHit {w : World} {bs bw bh bk bf bp gc gf gi n : Nat} {s : SpV} {k : Int} {S : SS} (h : PicAt w bs bw bh bk bf bp gc gf gi s n k S) (b : Bool) : PicAt (w.setCell ⟨bh, 0, none⟩ (.bool b)) bs bw bh bk bf bp gc gf gi s n k { S with hit := b } := by
  have hne := h.ne
  simp only [List.nodup_cons, List.mem_cons, not_or, List.not_mem_nil, not_false_eq_true, List.nodup_nil, and_true] at hne
  obtain ⟨⟨a01, a02, a03, a04, a05, a06, a07, a08⟩, ⟨a12, a13, a14, a15, a16, a17, a18⟩, ⟨a23, a24, a25, a26, a27, a28⟩, ⟨a34, a35, a36, a37, a38⟩, ⟨a45, a46, a47, a48⟩, ⟨a56, a57, a58⟩, ⟨a67, a68⟩, a78⟩ := hne
  exact ⟨Blk.other h.s _ a02, Blk.other h.wd _ a12, Blk.set (i := 0) h.hit (.bool b), Blk.other h.k _ (Ne.symm a23), Blk.other h.fi _ (Ne.symm a24), Blk.other h.p _ (Ne.symm a25), Blk.other h.cols _ (Ne.symm a26), Blk.other h.front _ (Ne.symm a27), Blk.other h.first _ (Ne.symm a28),
    ⟨h.ok.cols, h.ok.front, h.ok.first, h.ok.range⟩, h.ne⟩
theorem PicAt.setFirst {w : World} {bs bw bh bk bf bp gc gf gi n : Nat} {s : SpV} {k : Int} {S : SS} (h : PicAt w bs bw bh bk bf bp gc gf gi s n k S) (x : Nat) (b : Bool) : PicAt (w.setCell ⟨gi, x, none⟩ (.bool b)) bs bw bh bk bf bp gc gf gi s n k { S with first := S.first.set x b } := by
  have hne := h.ne
  simp only [List.nodup_cons, List.mem_cons, not_or, List.not_mem_nil, not_false_eq_true, List.nodup_nil, and_true] at hne
  obtain ⟨⟨a01, a02, a03, a04, a05, a06, a07, a08⟩, ⟨a12, a13, a14, a15, a16, a17, a18⟩, ⟨a23, a24, a25, a26, a27, a28⟩, ⟨a34, a35, a36, a37, a38⟩, ⟨a45, a46, a47, a48⟩, ⟨a56, a57, a58⟩, ⟨a67, a68⟩, a78⟩ := hne
  exact ⟨Blk.other h.s _ a08, Blk.other h.wd _ a18, Blk.other h.hit _ a28, Blk.other h.k _ a38, Blk.other h.fi _ a48, Blk.other h.p _ a58, Blk.other h.cols _ a68, Blk.other h.front _ a78, BlkL.set h.first b,
    ⟨h.ok.cols, h.ok.front, by simp [h.ok.first], h.ok.range⟩, h.ne⟩
theorem PicAt.setCols {w : World} {bs bw bh bk bf bp gc gf gi n : Nat} {s : SpV} {k : Int} {S : SS} (h : PicAt w bs bw bh bk bf bp gc gf gi s n k S) (x : Nat) (z : Int) (hz : 0 ≤ z ∧ z < 256) : PicAt (w.setCell ⟨gc, x, none⟩ (.int .i64 z)) bs bw bh bk bf bp gc gf gi s n k { S with cols := S.cols.set x z } := by
  have hne := h.ne
  simp only [List.nodup_cons, List.mem_cons, not_or, List.not_mem_nil, not_false_eq_true, List.nodup_nil, and_true] at hne
  obtain ⟨⟨a01, a02, a03, a04, a05, a06, a07, a08⟩, ⟨a12, a13, a14, a15, a16, a17, a18⟩, ⟨a23, a24, a25, a26, a27, a28⟩, ⟨a34, a35, a36, a37, a38⟩, ⟨a45, a46, a47, a48⟩, ⟨a56, a57, a58⟩, ⟨a67, a68⟩, a78⟩ := hne
  refine ⟨Blk.other h.s _ a06, Blk.other h.wd _ a16, Blk.other h.hit _ a26, Blk.other h.k _ a36, Blk.other h.fi _ a46, Blk.other h.p _ a56, BlkL.set h.cols z, Blk.other h.front _ (Ne.symm a67), Blk.other h.first _ (Ne.symm a68),
    ⟨by simp [h.ok.cols], h.ok.front, h.ok.first, fun i => ?_⟩, h.ne⟩
  simp only
  by_cases hi : x = i
  · subst hi
    rcases Nat.lt_or_ge x S.cols.length with hl | hl
    · rw [nth_set_eq hl]; exact hz
    · rw [nth_ge (by simpa using hl)]; decide
  · rw [nth_set_ne hi]; exact h.ok.range i
theorem PicAt.setFront {w : World} {bs bw bh bk bf bp gc gf gi n : Nat} {s : SpV} {k : Int} {S : SS} (h : PicAt w bs bw bh bk bf bp gc gf gi s n k S) (x : Nat) (b : Bool) : PicAt (w.setCell ⟨gf, x, none⟩ (.bool b)) bs bw bh bk bf bp gc gf gi s n k { S with front := S.front.set x b } := by
  have hne := h.ne
  simp only [List.nodup_cons, List.mem_cons, not_or, List.not_mem_nil, not_false_eq_true, List.nodup_nil, and_true] at hne
  obtain ⟨⟨a01, a02, a03, a04, a05, a06, a07, a08⟩, ⟨a12, a13, a14, a15, a16, a17, a18⟩, ⟨a23, a24, a25, a26, a27, a28⟩, ⟨a34, a35, a36, a37, a38⟩, ⟨a45, a46, a47, a48⟩, ⟨a56, a57, a58⟩, ⟨a67, a68⟩, a78⟩ := hne
  exact ⟨Blk.other h.s _ a07, Blk.other h.wd _ a17, Blk.other h.hit _ a27, Blk.other h.k _ a37, Blk.other h.fi _ a47, Blk.other h.p _ a57, Blk.other h.cols _ a67, BlkL.set h.front b, Blk.other h.first _ (Ne.symm a78),
    ⟨h.ok.cols, by simp [h.ok.front], h.ok.first, h.ok.range⟩, h.ne⟩
/-- All cells of a picture that a pixel's walk reads. -/
theorem PicAt.reads {w : World} {bs bw bh bk bf bp gc gf gi n : Nat} {s : SpV} {k : Int} {S : SS} (h : PicAt w bs bw bh bk bf bp gc gf gi s n k S) {x : Nat} (hx : x < n) :
    w.cell? ⟨bs, 0, none⟩ = some (.int .i64 s.X) ∧ w.cell? ⟨bs, 5, none⟩ = some (.int .i64 s.P) ∧ w.cell? ⟨bs, 6, none⟩ = some (.bool s.F) ∧ w.cell? ⟨bw, 0, none⟩ = some (.int .i64 n) ∧ w.cell? ⟨bh, 0, none⟩ = some (.bool S.hit) ∧ w.cell? ⟨bk, 0, none⟩ = some (.int .i64 k) ∧
    w.cell? ⟨bf, 0, none⟩ = some (.slice (some ⟨gi, 0, none⟩) n n) ∧ w.cell? ⟨bp, 0, none⟩ = some (.slice (some ⟨gc, 0, none⟩) n n) ∧ w.cell? ⟨bp, 1, none⟩ = some (.slice (some ⟨gf, 0, none⟩) n n) ∧
    w.cell? ⟨gc, x, none⟩ = some (.int .i64 (nth 0 S.cols x)) ∧ w.cell? ⟨gi, x, none⟩ = some (.bool (nth false S.first x)) ∧ (∃ b, w.cell? ⟨gf, x, none⟩ = some (.bool b)) ∧
    w.frozen? ⟨bh, 0, none⟩ = false ∧ w.frozen? ⟨gc, x, none⟩ = false ∧ w.frozen? ⟨gf, x, none⟩ = false ∧ w.frozen? ⟨gi, x, none⟩ = false := by
  exact ⟨(Blk.cell h.s 0).trans rfl, (Blk.cell h.s 5).trans rfl, (Blk.cell h.s 6).trans rfl, Blk.cell h.wd 0, Blk.cell h.hit 0, Blk.cell h.k 0, Blk.cell h.fi 0, Blk.cell h.p 0, Blk.cell h.p 1,
    BlkL.cell h.cols 0 (by rw [h.ok.cols]; exact hx), BlkL.cell h.first false (by rw [h.ok.first]; exact hx), ⟨_, BlkL.cell h.front false (by rw [h.ok.front]; exact hx)⟩,
    Blk.free h.hit 0, Blk.free h.cols x, Blk.free h.front x, Blk.free h.first x⟩

set_option maxHeartbeats 4000000 in
theorem line_dot {w : World} {bs bw bh bk bf bp gc gf gi n : Nat} {s : SpV} {k : Int} {S : SS} (h : PicAt w bs bw bh bk bf bp gc gf gi s n k S) (hs : s.In) (hn : n ≤ 512) (i c : Int) (hi : 0 ≤ i ∧ i < 32) (hc : 0 < c ∧ c < 16) :
    Calls Try.prog 77 #[.int .i64 i, .int .i64 c, .pointer (some ⟨bs, 0, none⟩), .pointer (some ⟨bw, 0, none⟩), .pointer (some ⟨bh, 0, none⟩), .pointer (some ⟨bk, 0, none⟩), .pointer (some ⟨bf, 0, none⟩), .pointer (some ⟨bp, 0, none⟩)] w fun e w' =>
      e = .returned (.tuple #[]) ∧ PicAt w' bs bw bh bk bf bp gc gf gi s n k (S.dot n k s (s.X + i) c) ∧ Tr [bh, gc, gf, gi] w w' := by
  have hX := hs.X
  have k0 : s.cells[0]? = some (.int .i64 s.X) := rfl
  have a0 := Blk.cell h.s 0
  rw [k0] at a0
  have a1 : w.cell? ⟨bw, 0, none⟩ = some (.int .i64 n) := Blk.cell h.wd 0
  clear k0
  by_cases hx : 0 ≤ s.X + i ∧ s.X + i < n
  · obtain ⟨x, hxe⟩ : ∃ x : Nat, s.X + i = x := ⟨(s.X + i).toNat, by omega⟩
    have hxn : x < n := by omega
    have hd : S.dot n k s (s.X + i) c = { cols := if nth 0 S.cols x = 0 then S.cols.set x (16 * s.P + c) else S.cols, front := if nth 0 S.cols x = 0 then S.front.set x s.F else S.front, first := S.first.set x (nth false S.first x || k == 0), hit := S.hit || (decide (0 < k) && nth false S.first x) } := by
      unfold SS.dot
      rw [if_pos ⟨by omega, by omega⟩, hxe, Int.toNat_natCast]
    rw [hd]
    have H0 := Lib.hid hxe
    clear hd hx a0 a1
    obtain ⟨r0, r1, r2, r3, r4, r5, r6, r7, r8, r9, r10, ⟨fb, r11⟩, f0, f1, f2, f3⟩ := h.reads hxn
    have e0 : IntKind.i64.wrap (s.X + i) = (x : Int) := by rw [IntWalk.i64_in _ (by omega)]; exact hxe
    have n0 : decide ((x : Int) < 0) = false := by simp
    have n1 : decide ((x : Int) ≥ (n : Int)) = false := by simp; omega
    go_enter Try.func77, Try.ntmps77
    go_upto_region 2 with (fail)
    go_cut [10] (fun s10 wx => s10 = .int .i64 (x : Int) ∧ PicAt wx bs bw bh bk bf bp gc gf gi s n k { S with hit := S.hit || (decide (0 < k) && nth false S.first x) } ∧ Tr [bh, gc, gf, gi] w wx)
    case first =>
      obtain ⟨hb, hhb⟩ : ∃ hb, S.hit = hb := ⟨_, rfl⟩
      rw [hhb] at r4
      have HHB := Lib.hid hhb
      clear hhb
      cases hb
      · by_cases hk : 0 < k
        · have hk1 : decide (k > 0) = true := by simpa using hk
          have hk2 : decide (0 < k) = true := by simpa using hk
          have HK := Lib.hid hk2
          clear hk2
          go_wp2
          go_meet
          rw [HHB.out, HK.out, Bool.false_or, Bool.true_and]
          exact ⟨rfl, h.setHit _, (Tr.refl _ _).setCell _ (by simp) _⟩
        · have hk1 : decide (k > 0) = false := by simpa using hk
          have hk2 : decide (0 < k) = false := by simpa using hk
          have HK := Lib.hid hk2
          clear hk2
          go_wp2
          go_meet
          rw [HHB.out, HK.out, Bool.false_or, Bool.false_and]
          exact ⟨rfl, h.setHit _, (Tr.refl _ _).setCell _ (by simp) _⟩
      · go_wp2
        go_meet
        rw [HHB.out, Bool.true_or]
        exact ⟨rfl, h.setHit _, (Tr.refl _ _).setCell _ (by simp) _⟩
    clear r0 r1 r2 r3 r4 r5 r6 r7 r8 r9 r10 r11 f0 f1 f2 f3 h fb
    obtain ⟨rfl, h2, T2⟩ := hcut
    obtain ⟨hv, hhv⟩ : ∃ hv, (S.hit || (decide (0 < k) && nth false S.first x)) = hv := ⟨_, rfl⟩
    obtain ⟨fv, hfv⟩ : ∃ fv, (nth false S.first x || k == 0) = fv := ⟨_, rfl⟩
    rw [hhv] at h2
    have HHV := Lib.hid hhv
    have HFV := Lib.hid hfv
    clear hhv hfv
    go_upto_region 3 with (fail)
    have hf : ∀ wq, Below wc.heap.size wc wq → wq.cell? ⟨bs, 0, none⟩ = some (.int .i64 s.X) ∧ wq.cell? ⟨bf, 0, none⟩ = some (.slice (some ⟨gi, 0, none⟩) n n) ∧ wq.cell? ⟨bk, 0, none⟩ = some (.int .i64 k) ∧ wq.cell? ⟨gi, x, none⟩ = some (.bool (nth false S.first x)) ∧ wq.frozen? ⟨gi, x, none⟩ = false := by
      intro wq hq
      obtain ⟨r0, r1, r2, r3, r4, r5, r6, r7, r8, r9, r10, _, f0, f1, f2, f3⟩ := (h2.below hq).reads hxn
      exact ⟨r0, r6, r5, r10, f3⟩
    have FA := Lib.hid hf
    clear hf
    go_cut [10] (fun s10 wx => s10 = .int .i64 (x : Int) ∧ PicAt wx bs bw bh bk bf bp gc gf gi s n k { cols := S.cols, front := S.front, first := S.first.set x fv, hit := hv } ∧ Tr [bh, gc, gf, gi] w wx)
    case first =>
      clear HHV
      refine wp_region_last 11 (fun w' => PicAt w' bs bw bh bk bf bp gc gf gi s n k { cols := S.cols, front := S.front, first := S.first.set x (nth false S.first x || k == 0), hit := hv } ∧ Tr [bh, gc, gf, gi] wc w') (by kernel_rfl) (by kernel_rfl) (by kernel_rfl) (by decide) ?_
      generalize nth false S.first x = f1 at *
      cases f1
      · iterate 11
          (refine wpP_head rfl (by decide) (fun K hK => ?_)
           apply Exists.intro
           refine ⟨fun wq hq => ?_, hK _ ?_⟩
           · obtain ⟨r0, r6, r5, r10, f3⟩ := FA.out wq hq
             go_simp
             first | exact rfl | exact ⟨hq, rfl⟩ | exact ⟨rfl, rfl⟩
           clear hK K
           simp only [Act.put, List.setIfInBounds_toArray, List.set_cons_zero, List.set_cons_succ])
        refine wpP_last rfl (by decide) (by kernel_rfl) (by kernel_rfl) ⟨undef, fun wq hq => ?_, ?_⟩
        · obtain ⟨r0, r6, r5, r10, f3⟩ := FA.out wq hq
          have hs : PicAt (wq.setCell ⟨gi, x, none⟩ (.bool (k == 0))) bs bw bh bk bf bp gc gf gi s n k { cols := S.cols, front := S.front, first := S.first.set x (false || k == 0), hit := hv } := by
            rw [Bool.false_or]
            exact (h2.below hq).setFirst x _
          have ht : Tr [bh, gc, gf, gi] wc (wq.setCell ⟨gi, x, none⟩ (.bool (k == 0))) := (Tr.of_below0 hq).setCell _ (by simp) _
          have HS := Lib.hid hs
          clear hs
          go_simp
          exact HS.out
        simp only [Act.put, List.setIfInBounds_toArray, List.set_cons_zero, List.set_cons_succ]
        rintro w3 ⟨h3, T3⟩
        go_wp2_with fail
        go_meet
        rw [← HFV.out]
        exact ⟨rfl, h3, T2.trans T3⟩
      · iterate 7
          (refine wpP_head rfl (by decide) (fun K hK => ?_)
           apply Exists.intro
           refine ⟨fun wq hq => ?_, hK _ ?_⟩
           · obtain ⟨r0, r6, r5, r10, f3⟩ := FA.out wq hq
             go_simp
             first | exact rfl | exact ⟨hq, rfl⟩ | exact ⟨rfl, rfl⟩
           clear hK K
           simp only [Act.put, List.setIfInBounds_toArray, List.set_cons_zero, List.set_cons_succ])
        iterate 2
          (refine wpP_skip rfl (by decide) ?_
           simp only [Act.put, List.setIfInBounds_toArray, List.set_cons_zero, List.set_cons_succ])
        iterate 2
          (refine wpP_head rfl (by decide) (fun K hK => ?_)
           apply Exists.intro
           refine ⟨fun wq hq => ?_, hK _ ?_⟩
           · obtain ⟨r0, r6, r5, r10, f3⟩ := FA.out wq hq
             go_simp
             first | exact rfl | exact ⟨hq, rfl⟩ | exact ⟨rfl, rfl⟩
           clear hK K
           simp only [Act.put, List.setIfInBounds_toArray, List.set_cons_zero, List.set_cons_succ])
        refine wpP_last rfl (by decide) (by kernel_rfl) (by kernel_rfl) ⟨undef, fun wq hq => ?_, ?_⟩
        · obtain ⟨r0, r6, r5, r10, f3⟩ := FA.out wq hq
          have hs : PicAt (wq.setCell ⟨gi, x, none⟩ (.bool (true))) bs bw bh bk bf bp gc gf gi s n k { cols := S.cols, front := S.front, first := S.first.set x (true || k == 0), hit := hv } := by
            rw [Bool.true_or]
            exact (h2.below hq).setFirst x _
          have ht : Tr [bh, gc, gf, gi] wc (wq.setCell ⟨gi, x, none⟩ (.bool (true))) := (Tr.of_below0 hq).setCell _ (by simp) _
          have HS := Lib.hid hs
          clear hs
          go_simp
          exact HS.out
        simp only [Act.put, List.setIfInBounds_toArray, List.set_cons_zero, List.set_cons_succ]
        rintro w3 ⟨h3, T3⟩
        go_wp2_with fail
        go_meet
        rw [← HFV.out]
        exact ⟨rfl, h3, T2.trans T3⟩
    clear FA h2 T2
    obtain ⟨rfl, h2, T2⟩ := hcut
    obtain ⟨r0, r1, r2, r3, r4, r5, r6, r7, r8, r9, r10, ⟨fb, r11⟩, f0, f1, f2, f3⟩ := h2.reads hxn
    simp only at r9
    by_cases hz : nth 0 S.cols x = 0
    · rw [hz] at r9
      have hP := hs.P
      have o1 : bits .or .i64 (16 * s.P) c = 16 * s.P + c := or_join64 4 (16 * s.P) c (by omega) (by omega) (by omega) (by simp; omega) (by omega) (by simp)
      have o2 : IntKind.i64.wrap (16 * s.P) = 16 * s.P := IntWalk.i64_in _ (by omega)
      have HZ := Lib.hid hz
      clear hz
      go_upto_region 5 with (fail)
      let Sm : Nat → SS := fun m => if m = 0 then ⟨S.cols, S.front, S.first.set x fv, hv⟩ else if m = 1 then ⟨S.cols.set x (16 * s.P + c), S.front, S.first.set x fv, hv⟩ else ⟨S.cols.set x (16 * s.P + c), S.front.set x s.F, S.first.set x fv, hv⟩
      let D : Nat → World → Prop := fun m w' => PicAt w' bs bw bh bk bf bp gc gf gi s n k (Sm m) ∧ Tr [bh, gc, gf, gi] wc w'
      have hf : ∀ m wq, D m wq → wq.cell? ⟨bs, 5, none⟩ = some (.int .i64 s.P) ∧ wq.cell? ⟨bs, 6, none⟩ = some (.bool s.F) ∧ wq.cell? ⟨bp, 0, none⟩ = some (.slice (some ⟨gc, 0, none⟩) n n) ∧ wq.cell? ⟨bp, 1, none⟩ = some (.slice (some ⟨gf, 0, none⟩) n n) ∧ (∃ z, wq.cell? ⟨gc, x, none⟩ = some (.int .i64 z)) ∧ (∃ b, wq.cell? ⟨gf, x, none⟩ = some (.bool b)) ∧ wq.frozen? ⟨gc, x, none⟩ = false ∧ wq.frozen? ⟨gf, x, none⟩ = false := by
        intro m wq hq
        obtain ⟨r0, r1, r2, r3, r4, r5, r6, r7, r8, r9, r10, g11, f0, f1, f2, f3⟩ := hq.1.reads hxn
        exact ⟨r1, r2, r7, r8, ⟨_, r9⟩, g11, f1, f2⟩
      have FA := Lib.hid hf
      have e0 : D 0 wc.drew := ⟨h2.drew 1, (Tr.refl _ _).drew⟩
      have e1 : ∀ wq, D 0 wq → D 1 (wq.setCell ⟨gc, x, none⟩ (.int .i64 (16 * s.P + c))) := fun wq hq => ⟨hq.1.setCols x _ (by omega), hq.2.setCell _ (by simp) _⟩
      have e2 : ∀ wq, D 1 wq → D 2 (wq.setCell ⟨gf, x, none⟩ (.bool s.F)) := fun wq hq => ⟨hq.1.setFront x _, hq.2.setCell _ (by simp) _⟩
      have e3 : ∀ wq, D 2 wq → PicAt wq bs bw bh bk bf bp gc gf gi s n k ⟨S.cols.set x (16 * s.P + c), S.front.set x s.F, S.first.set x fv, hv⟩ ∧ Tr [bh, gc, gf, gi] wc wq := fun wq hq => hq
      have E1 := Lib.hid e1
      have E2 := Lib.hid e2
      clear hf e1 e2
      clear_value D
      refine wp_region_n [14, 16] D (by kernel_rfl) (by kernel_rfl) (by kernel_rfl) (by kernel_rfl) e0 ?_
      clear r0 r1 r2 r3 r4 r5 r6 r7 r8 r9 r10 r11 f0 f1 f2 f3 e0
      iterate 14
        (refine wpN_other rfl (by decide) (fun K hK => ?_)
         apply Exists.intro
         refine ⟨fun m wq hm hq => ?_, hK _ ?_⟩
         · obtain ⟨r1, r2, r7, r8, ⟨z, r9⟩, ⟨b, r11⟩, f1, f2⟩ := FA.out m wq hq
           go_simp
           first | exact rfl | exact ⟨hq, rfl⟩ | exact ⟨rfl, rfl⟩
         clear hK K
         simp only [Act.put, List.setIfInBounds_toArray, List.set_cons_zero, List.set_cons_succ])
      refine wpN_turn 0 rfl (by decide) rfl (by kernel_rfl) ⟨undef, fun wq hq => ?_, ?_⟩
      · obtain ⟨r1, r2, r7, r8, ⟨z, r9⟩, ⟨b, r11⟩, f1, f2⟩ := FA.out 0 wq hq
        go_simp
        exact E1.out wq hq
      simp only [Act.put, List.setIfInBounds_toArray, List.set_cons_zero, List.set_cons_succ]
      iterate 1
        (refine wpN_other rfl (by decide) (fun K hK => ?_)
         apply Exists.intro
         refine ⟨fun m wq hm hq => ?_, hK _ ?_⟩
         · obtain ⟨r1, r2, r7, r8, ⟨z, r9⟩, ⟨b, r11⟩, f1, f2⟩ := FA.out m wq hq
           go_simp
           first | exact rfl | exact ⟨hq, rfl⟩ | exact ⟨rfl, rfl⟩
         clear hK K
         simp only [Act.put, List.setIfInBounds_toArray, List.set_cons_zero, List.set_cons_succ])
      refine wpN_turn 1 rfl (by decide) rfl (by kernel_rfl) ⟨undef, fun wq hq => ?_, ?_⟩
      · obtain ⟨r1, r2, r7, r8, ⟨z, r9⟩, ⟨b, r11⟩, f1, f2⟩ := FA.out 1 wq hq
        go_simp
        exact E2.out wq hq
      simp only [Act.put, List.setIfInBounds_toArray, List.set_cons_zero, List.set_cons_succ]
      intro w4 hw4
      obtain ⟨h4, T4⟩ := e3 w4 hw4
      clear FA E1 E2 hw4 e3
      have hz := HZ.out
      go_wp2
      rw [HHV.out, HFV.out]
      exact ⟨rfl, .tuple #[], by first | exact rfl | (unfold results; rfl) | kernel_rfl, rfl, h4, T2.trans T4⟩
    · have E : (⟨if nth 0 S.cols x = 0 then S.cols.set x (16 * s.P + c) else S.cols, if nth 0 S.cols x = 0 then S.front.set x s.F else S.front, S.first.set x fv, hv⟩ : SS) = ⟨S.cols, S.front, S.first.set x fv, hv⟩ := by rw [if_neg hz, if_neg hz]
      clear E
      go_wp2
      rw [HHV.out, HFV.out]
      exact ⟨rfl, .tuple #[], by first | exact rfl | (unfold results; rfl) | kernel_rfl, rfl, h2, T2⟩
  · have e : S.dot n k s (s.X + i) c = S := by unfold SS.dot; rw [if_neg (by omega)]
    rw [e]
    by_cases h0 : s.X + i < 0
    · go_enter Try.func77, Try.ntmps77
      go_wp2
      exact ⟨rfl, .tuple #[], by first | exact rfl | (unfold results; rfl) | kernel_rfl, rfl, h, Tr.refl _ _⟩
    · have h1 : (n : Int) ≤ s.X + i := by omega
      go_enter Try.func77, Try.ntmps77
      go_wp2
      exact ⟨rfl, .tuple #[], by first | exact rfl | (unfold results; rfl) | kernel_rfl, rfl, h, Tr.refl _ _⟩
end Go.Proofs.Ytlhnfllfankjhaa
