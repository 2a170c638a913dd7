/- Contracts: a line of a background. -/
import Derived.Test.YtlhnfllfankjhaaTiC
import Derived.Test.YtlhnfllfankjhaaVramE
import Derived.Deep.RegionLaw
namespace Go.Proofs.Ytlhnfllfankjhaa
open Go Go.RowKit
set_option linter.unusedSimpArgs false
set_option linter.unusedVariables false
set_option maxRecDepth 100000

/-- A row of n numbers, of which the first k are laid. -/
def RowG (F : Nat → Int) (n k : Nat) (cur : List Int) : Prop := cur.length = n ∧ ∀ j, j < n → nth 0 cur j = if j < k then F j else 0
theorem RowG.zero (F : Nat → Int) (n : Nat) : RowG F n 0 (List.replicate n 0) := ⟨by simp, fun j hj => by rw [if_neg (by omega)]; exact nth_zeros n j⟩
theorem RowG.done {F : Nat → Int} {n k : Nat} {cur : List Int} (h : RowG F n k cur) (hk : n ≤ k) : cur = (List.range n).map F := by
  refine nth_ext 0 (by rw [h.1]; simp) fun i hi => ?_
  rw [h.1] at hi
  rw [h.2 i hi, if_pos (by omega), nth_lt (by simpa using hi)]
  simp
theorem RowG.copy {F : Nat → Int} {n k : Nat} {cur seg : List Int} (h : RowG F n k cur) (hl : k + seg.length ≤ n) (hs : ∀ j, j < seg.length → nth 0 seg j = F (k + j)) : RowG F n (k + seg.length) (splice cur k seg) := by
  have h1 := h.1
  refine ⟨by rw [length_splice _ _ _ (by omega)]; exact h1, fun j hj => ?_⟩
  have hn : nth 0 (splice cur k seg) j = if j < k then nth 0 cur j else if j < k + seg.length then nth 0 seg (j - k) else nth 0 cur j := by
    unfold splice nth
    simp only [List.getD_eq_getElem?_getD]
    by_cases a : j < k
    · rw [if_pos a, List.getElem?_append_left (by simp; omega), List.getElem?_take, if_pos a]
    · rw [if_neg a, List.getElem?_append_right (by simp; omega)]
      rw [show (List.take k cur).length = k by simp; omega]
      by_cases b : j < k + seg.length
      · rw [if_pos b, List.getElem?_append_left (by omega)]
      · rw [if_neg b, List.getElem?_append_right (by omega), List.getElem?_drop]
        congr 2; omega
  rw [hn]
  by_cases a : j < k
  · rw [if_pos a, if_pos (by omega), h.2 j hj, if_pos a]
  · rw [if_neg a]
    by_cases b : j < k + seg.length
    · rw [if_pos b, if_pos b, hs (j - k) (by omega)]
      congr 1; omega
    · rw [if_neg b, if_neg b, h.2 j hj, if_neg a]

theorem ViewV.px_add {v : ViewV} (hR : v.Right) (k j : Int) (h0 : 0 ≤ k) (hj : 0 ≤ j) (hk : k + j < 65536) (h8 : v.px k % 8 + j < 8) : v.px (k + j) = v.px k + j := by
  obtain ⟨wd, hg, x, y⟩ := v
  unfold ViewV.px at h8 ⊢
  simp only at h8 ⊢
  have hw := hR.1
  simp only at hw
  rcases hw with rfl | rfl | rfl <;> omega

/-- The line. -/
def lineK (f : Int → Int) (v : ViewV) (y : Int) (n : Nat) : List Int := (List.range n).map fun i : Nat => pixel f v i y
theorem lineK_length (f : Int → Int) (v : ViewV) (y : Int) (n : Nat) : (lineK f v y n).length = n := by simp [lineK]
theorem nth_lineK (f : Int → Int) (v : ViewV) (y : Int) (n i : Nat) (hi : i < n) : nth 0 (lineK f v y n) i = pixel f v i y := by
  rw [nth_lt (by rw [lineK_length]; exact hi)]; simp [lineK]
theorem lineK_not (f : Int → Int) (v : ViewV) (y : Int) (n : Nat) (h : ¬ v.Right) : lineK f v y n = List.replicate n 0 := by
  refine nth_ext 0 (by rw [lineK_length]; simp) fun i hi => ?_
  rw [lineK_length] at hi
  rw [nth_lineK _ _ _ _ _ hi, show (List.replicate n 0) = zeros n from rfl, nth_zeros]
  unfold pixel; rw [if_neg h]
/-- What one copy takes over. -/
def segT (f : Int → Int) (v : ViewV) (y : Int) (k n : Nat) : List Int := ((rowK f v.wide (v.px k / 8) (v.py y)).drop (v.px k % 8).toNat).take (n - k)
theorem segT_length (f : Int → Int) (v : ViewV) (y : Int) (k n : Nat) : (segT f v y k n).length = min (8 - (v.px k % 8).toNat) (n - k) := by
  unfold segT; rw [List.length_take, List.length_drop, show (rowK f v.wide (v.px k / 8) (v.py y)).length = 8 from rowTo_length _ _ _ _]; exact Nat.min_comm _ _
theorem nth_segT {f : Int → Int} {v : ViewV} (hR : v.Right) (y : Int) (k n j : Nat) (hn : n ≤ 512) (hj : j < (segT f v y k n).length) : nth 0 (segT f v y k n) j = pixel f v ((k + j : Nat) : Int) y ∧ nth 0 (segT f v y k n) j = nth 0 (rowK f v.wide (v.px k / 8) (v.py y)) ((v.px k % 8).toNat + j) := by
  rw [segT_length] at hj
  have h1 : j < 8 - (v.px k % 8).toNat := Nat.lt_of_lt_of_le hj (Nat.min_le_left _ _)
  have h2 : j < n - k := Nat.lt_of_lt_of_le hj (Nat.min_le_right _ _)
  have hp := ViewV.px_range hR k
  have e0 : nth 0 (segT f v y k n) j = nth 0 (rowK f v.wide (v.px k / 8) (v.py y)) ((v.px k % 8).toNat + j) := by
    unfold segT nth
    simp only [List.getD_eq_getElem?_getD, List.getElem?_take, List.getElem?_drop]
    rw [if_pos h2]
  refine ⟨?_, e0⟩
  rw [e0, rowK_at _ _ _ _ _ (by omega)]
  have hadd := ViewV.px_add hR k j (by omega) (by omega) (by omega) (by omega)
  unfold pixel
  rw [if_pos hR, show ((k + j : Nat) : Int) = (k : Int) + j by omega, hadd, show (v.px k + j) / 8 = v.px k / 8 by omega]
  congr 1; omega

theorem slice8 (g l : Nat) (h1 : l < 8) (a : Int) (ea : a = l) (w : World) :
    (Instr.sliceAt 118 (.pointer (some ⟨g, 0, none⟩)) (some (.int .i64 a)) none none).run Try.prog w = .ok (.slice (some ⟨g, l, none⟩) (8 - l) (8 - l)) w := by
  subst ea
  have hu : Try.prog.underlying 118 = some (.array (Try.prog.arrayLen 118) (Try.prog.elem 118)) := by kernel_rfl
  have hl : Try.prog.arrayLen 118 = 8 := by kernel_rfl
  have he : Try.prog.elem 118 = 3 := by kernel_rfl
  have hs : (Try.prog.info? 3).map (·.size) = some 1 := by kernel_rfl
  obtain ⟨i, hi, hz⟩ := Option.map_eq_some_iff.1 hs
  rw [run_sliceAt_array_l w 118 _ hu .i64 (l : Int) (by omega) (by rw [hl]; omega), hl, he]
  have hso : (sizeOf 3).run Try.prog w = .ok 1 w := by simp [sizeOf, typeInfo, hi, hz]
  rw [hso]
  simp only [Result.andThen_ok, slicedAt, Int.toNat_natCast, Nat.mul_one]
  rw [if_neg (by omega)]
  have e1 : (Addr.add ⟨g, 0, none⟩ l) = ⟨g, l, none⟩ := by unfold Addr.add; split <;> simp_all
  rw [e1]

set_option maxHeartbeats 400000 in
theorem tiles_Line {w : World} {pv : Value} {f : Int → Int} (hW : Words w pv f) (v : ViewV) (y : Int) (n : Nat) (h1 : 1 ≤ n) (hn : n ≤ 512) : Calls Try.prog 37 #[pv, v.val, .int .i64 y, .int .i64 n] w fun e w' =>
    e = .returned (.slice (some ⟨w.heap.size + 1, 0, none⟩) n n) ∧ BlkL (Value.int .i64) w' (w.heap.size + 1) (lineK f v y n) 3 ∧ Below w.heap.size w w' := by
  have hmk := make_ints n (by omega)
  have A5 : Blk (w.alloc (Obj.cells v.cells 42)) w.heap.size v.cells 42 := Blk.new w v.cells 42
  have B1 := (Below.refl w.heap.size w).alloc (Nat.le_refl _) (Obj.cells v.cells 42)
  have hinf : (Try.prog.info? 42).map (·.size) = some v.cells.size := t4v
  have H1 := Lib.hid hinf
  clear hinf
  unfold ViewV.val
  have l5 := A5.lt
  have d0 : decide ((n : Int) < 1) = false := by simp; omega
  have d9 : decide ((n : Int) > 512) = false := by simp; omega
  have d8 : decide ((512 : Int) < n) = false := by simp; omega
  by_cases hR : v.Right
  · have hd : decide v.Right = true := decide_eq_true hR
    have hcr := fun w => tiles_right v w
    rw [hd] at hcr
    clear hd
    unfold ViewV.val at hcr
    have HCR := Lib.hid hcr
    clear hcr
    go_enter Try.func37, Try.ntmps37
    go_wp2_with (refine wpList_load_row rfl 42 _ rfl w.heap.size rfl 42 v.cells (0, 0) _ (Blk.alloc A5 _) Try.underlying42 rfl H1.out ?_)
    have hwv : (w.alloc (Obj.cells v.cells 42)).heap.size = w.heap.size + 1 := by simp
    generalize w.alloc (Obj.cells v.cells 42) = wv at *
    have R0 := BlkL.made (f := Value.int .i64) wv 0 n 3 (g := w.heap.size + 1) hwv.symm
    have Bv := (Below.refl (w.heap.size + 1) wv).alloc (by omega) (.cells (madeCells #[Value.int .i64 0] n) 3)
    have HAV : ∀ wq, Below (w.heap.size + 1) wv wq → Blk wq w.heap.size v.cells 42 := fun wq hq => Blk.below A5 (by rw [hwv]; exact hq)
    have HBV : ∀ wq, Below (w.heap.size + 1) wv wq → Below w.heap.size w wq := fun wq hq => B1.trans (hq.mono (by omega))
    have HAV := Lib.hid HAV
    have HBV := Lib.hid HBV
    clear A5 B1
    generalize wv.alloc (Obj.cells (madeCells #[Value.int .i64 0] n) 3) = w0 at *
    refine (HCR.out _).mono ?_; rintro e w1 ⟨rfl, b1⟩
    have lR := Blk.lt R0
    replace R0 : BlkL (Value.int .i64) w1 (w.heap.size + 1) (List.replicate n 0) 3 := Blk.below R0 b1
    replace Bv := Bv.trans (b1.mono (by omega))
    go_wp2_with fail
    go_loopw [10] (fun i wr => ∃ k : Nat, i = .int .i64 k ∧ k ≤ n ∧ ∃ cur, BlkL (Value.int .i64) wr (w.heap.size + 1) cur 3 ∧ RowG (fun j => pixel f v j y) n k cur ∧ Below (w.heap.size + 1) wv wr) (fun i _ => n - (intOf i).toNat)
    case atStart => exact ⟨0, rfl, by omega, _, R0, RowG.zero _ n, Bv⟩
    case round =>
      clear Bv R0 lR b1
      obtain ⟨k, rfl, hk, cur, hC, hK, Bv⟩ := hrel
      have A5 := HAV.out _ Bv
      have l5 := A5.lt
      have lR := Blk.lt hC
      by_cases hlt : k < n
      · have d1 : decide ((k : Int) < n) = true := by simpa using hlt
        go_wp2_with (refine wpList_load_row rfl 42 _ rfl w.heap.size rfl 42 v.cells (0, 0) _ A5 Try.underlying42 rfl H1.out ?_)
        have hcp := tiles_place v hR k y
        unfold ViewV.val at hcp
        refine (hcp _).mono ?_; rintro e w2 ⟨rfl, b2⟩
        clear hcp
        replace A5 := Blk.below A5 b2
        replace hC : BlkL (Value.int .i64) w2 (w.heap.size + 1) cur 3 := Blk.below hC b2
        replace Bv := Bv.trans (b2.mono (by omega))
        have l5 := A5.lt
        have lR := Blk.lt hC
        have r1 := ViewV.px_range hR k
        have r2 := ViewV.py_range hR y
        have hr := ViewV.Right_range hR
        go_wp2_with (refine wpList_load_row rfl 42 _ rfl w.heap.size rfl 42 v.cells (0, 0) _ A5 Try.underlying42 rfl H1.out ?_)
        have hrow := tiles_row (hW.below (HBV.out _ Bv)) v hR (v.px k / 8) (v.py y) (by omega) (by omega)
        unfold ViewV.val at hrow
        refine hrow.mono ?_; rintro e w3 ⟨rfl, b3⟩
        clear hrow
        replace A5 := Blk.below A5 b3
        replace hC : BlkL (Value.int .i64) w3 (w.heap.size + 1) cur 3 := Blk.below hC b3
        replace Bv := Bv.trans (b3.mono (by omega))
        have l5 := A5.lt
        have lR := Blk.lt hC
        have hs := segT_length f v y k n
        have hst := fun j hj => nth_segT (f := f) hR y k n j hn hj
        have hle : (segT f v y k n).length ≤ n - k := by rw [hs]; exact Nat.min_le_right _ _
        have hK2 := hK.copy (seg := segT f v y k n) (by omega) (fun j hj => (hst j hj).1)
        have hr8 : (rowK f v.wide (v.px k / 8) (v.py y)).length = 8 := rowTo_length _ _ _ _
        have hst2 := fun j hj => (hst j hj).2
        have hcl := hK.1
        clear hst b2 b3 r2 hr
        generalize rowK f v.wide (v.px k / 8) (v.py y) = rw8 at *
        generalize segT f v y k n = seg at *
        generalize v.px k = P at *
        generalize v.py y = Q at *
        have A8 := Blk.new w3 (cellsI (zeros 8)) 118
        have hC' : BlkL (Value.int .i64) _ _ cur _ := Blk.alloc hC (Obj.cells (cellsI (zeros 8)) 118)
        have B2 := Bv.alloc (by omega) (Obj.cells (cellsI (zeros 8)) 118)
        have A5' := Blk.alloc A5 (Obj.cells (cellsI (zeros 8)) 118)
        have hi8 : (Try.prog.info? 118).map (·.size) = some (cellsI rw8).size := by rw [cellsI_size, hr8]; exact t8
        have hz8 : (cellsI (zeros 8)).size = (cellsI rw8).size := by rw [cellsI_size, cellsI_size, hr8, zeros_length]
        have H8 := Lib.hid hi8
        have Z8 := Lib.hid hz8
        have O8 := Lib.hid (cellsI_one rw8)
        clear hi8 hz8
        go_wp2_with (refine wpList_store_row rfl 118 _ _ rfl w3.heap.size (cellsI rw8) rfl rfl 118 _ A8 H8.out Z8.out O8.out ?_)
        have A84 := Blk.setRow A8 (cellsI rw8)
        have hC4 : BlkL (Value.int .i64) _ (w.heap.size + 1) cur 3 := Blk.setRow_other (g := w3.heap.size) hC' (cellsI rw8) (by omega)
        have A54 := Blk.setRow_other (g := w3.heap.size) A5' (cellsI rw8) (by omega)
        have B4 := below_setRow B2 (g := w3.heap.size) (by omega) (cellsI rw8)
        change Code.wp _ _ _ _ ((w3.alloc (Obj.cells (cellsI (zeros 8)) 118)).setRow w3.heap.size (cellsI rw8))
        generalize (w3.alloc (Obj.cells (cellsI (zeros 8)) 118)).setRow w3.heap.size (cellsI rw8) = w4 at *
        generalize hgb : w3.heap.size = gb at *
        obtain ⟨l, hl⟩ : ∃ l : Nat, P % 8 = l := ⟨(P % 8).toNat, by omega⟩
        have q8 : l < 8 := by omega
        rw [hl, Int.toNat_natCast] at hs hst2
        have hsrc : ∀ j, j < seg.length → w4.cell? ⟨gb, l + j, none⟩ = some (.int .i64 (nth 0 seg j)) := by
          intro j hj
          rw [hst2 j hj]
          rw [hs] at hj
          have hj1 : j < 8 - l := Nat.lt_of_lt_of_le hj (Nat.min_le_left _ _)
          exact BlkL.at A84 (by omega)
        have HC := Lib.hid (show ∀ j v, (seg.map (Value.int .i64))[j]? = some v → w4.drew.cell? ((⟨gb, l, none⟩ : Addr).add j) = some v from by
          intro j v hv
          rw [List.getElem?_map] at hv
          have hj : j < seg.length := by
            rcases Nat.lt_or_ge j seg.length with h | h
            · exact h
            · rw [List.getElem?_eq_none h] at hv; cases hv
          rw [List.getElem?_eq_getElem hj] at hv
          have := hsrc j hj
          rw [nth_lt hj] at this
          rw [show (⟨gb, l, none⟩ : Addr).add j = ⟨gb, l + j, none⟩ from by unfold Addr.add; split <;> simp_all]
          exact this.trans hv)
        have hfit : k + seg.length ≤ cur.length := by omega
        have HF := Lib.hid hfit
        have HS : Hid ((seg.map (Value.int .i64)).length = Nat.min (8 - l) (n - k)) := Lib.hid (by rw [List.length_map]; exact hs)
        have hpos : 0 < seg.length := by rw [hs]; omega
        have e3 : IntKind.i64.wrap ((k : Int) + seg.length) = ((k + seg.length : Nat) : Int) := by
          rw [IntWalk.i64_in _ (by omega)]; omega
        have eB : Below (w.heap.size + 1) wv w4.drew := B4.drew
        have a1 : k ≤ n := by omega
        have a2 : ¬ n = k := by omega
        have a4 : ¬ l = 8 := by omega
        have a5 : l ≤ 8 := by omega
        have hmd : P.tmod 8 = (l : Int) := by rw [← hl]; exact Int.tmod_eq_emod_of_nonneg r1.1
        have hsl := slice8 gb l q8 (l : Int) rfl
        have Hl := Lib.hid hl
        clear hl hs hsrc hfit hst2 hC hC' A8 A5 A5' Bv B2 H8 Z8 O8
        simp only [Act.put]
        go_region_law (first
          | (refine step_copy_splice rfl (.tmp 45) (.tmp 48) 22 22 rfl 3 Try.underlying22 (by kernel_rfl) (some ⟨w.heap.size + 1, k, none⟩) (some ⟨gb, l, none⟩) (n - k) (n - k) (8 - l) (8 - l) (by simp only [Act.put, List.getElem_toArray, List.getElem_cons_succ, List.getElem_cons_zero, List.setIfInBounds_toArray, List.set_cons_zero, List.set_cons_succ]; rfl) (by simp only [Act.put, List.getElem_toArray, List.getElem_cons_succ, List.getElem_cons_zero, List.setIfInBounds_toArray, List.set_cons_zero, List.set_cons_succ]; rfl) (w.heap.size + 1) k (cur.map (Value.int .i64)) 3 hC4 (seg.map (Value.int .i64))
              HS.out (fun _ => ⟨rfl, ⟨gb, l, none⟩, rfl, HC.out⟩) (by rw [List.length_map, List.length_map]; exact HF.out) (by simp [Value.oneCell']) (w.heap.size + 1) wv eB (Nat.le_refl _) ?_; intro w1 hg1 hb1))
        have hR1 : BlkL (Value.int .i64) w1 (w.heap.size + 1) (splice cur k seg) 3 := by
          unfold BlkL Blk; rw [splice_map]; exact hg1.out
        clear hg1 HC HF eB hC4 HS A84 A54 B4
        simp only [Act.put, List.getElem_toArray, List.getElem_cons_succ, List.getElem_cons_zero, List.setIfInBounds_toArray, List.set_cons_zero, List.set_cons_succ]
        go_wp2
        go_roundw
        case rel => exact ⟨k + seg.length, by first | rfl | (congr 1; omega), by omega, _, hR1, hK2, hb1⟩
        case measure => simp [intOf]; omega
      · have d1 : decide ((k : Int) < n) = false := by simpa using hlt
        rw [hK.done (by omega)] at hC
        go_wp2
        go_ret
        exact ⟨rfl, hC, HBV.out _ Bv⟩
  · have hd : decide v.Right = false := decide_eq_false hR
    have hcr := fun w => tiles_right v w
    rw [hd] at hcr
    clear hd
    unfold ViewV.val at hcr
    have HCR := Lib.hid hcr
    clear hcr
    rw [lineK_not _ _ _ _ hR]
    go_enter Try.func37, Try.ntmps37
    go_wp2_with (refine wpList_load_row rfl 42 _ rfl w.heap.size rfl 42 v.cells (0, 0) _ (Blk.alloc A5 _) Try.underlying42 rfl H1.out ?_)
    have R0 := BlkL.made (f := Value.int .i64) (w.alloc (Obj.cells v.cells 42)) 0 n 3 (g := w.heap.size + 1) (by simp)
    replace B1 := B1.alloc (by simp) (.cells (madeCells #[Value.int .i64 0] n) 3)
    generalize (w.alloc (Obj.cells v.cells 42)).alloc (Obj.cells (madeCells #[Value.int .i64 0] n) 3) = w0 at *
    refine (HCR.out _).mono ?_; rintro e w1 ⟨rfl, b1⟩
    have lR := Blk.lt R0
    replace R0 : BlkL (Value.int .i64) w1 (w.heap.size + 1) (List.replicate n 0) 3 := Blk.below R0 b1
    replace B1 := B1.trans (b1.mono (by omega))
    go_wp2
    go_ret
    exact ⟨rfl, R0, B1⟩
end Go.Proofs.Ytlhnfllfankjhaa
