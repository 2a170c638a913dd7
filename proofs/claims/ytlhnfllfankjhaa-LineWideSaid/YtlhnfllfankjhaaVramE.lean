/- Contracts: words from a place on. -/
import Derived.Test.YtlhnfllfankjhaaVramD
import Derived.Deep.RegionLaw
namespace Go.Proofs.Ytlhnfllfankjhaa
open Go Go.RowKit
set_option linter.unusedSimpArgs false
set_option linter.unusedVariables false
set_option maxRecDepth 100000

/-- A row of n words, of which the first k are laid. -/
def RowK (V : VS) (p : Int) (n k : Nat) (cur : List Int) : Prop := cur.length = n ∧ ∀ j, j < n → nth 0 cur j = if j < k then V.word (p + j) else 0
theorem RowK.zero (V : VS) (p : Int) (n : Nat) : RowK V p n 0 (List.replicate n 0) := ⟨by simp, fun j hj => by rw [if_neg (by omega)]; exact nth_zeros n j⟩
theorem RowK.done {V : VS} {p : Int} {n k : Nat} {cur : List Int} (h : RowK V p n k cur) (hk : n ≤ k) : cur = wordsK V p n := by
  refine nth_ext 0 (by rw [h.1, wordsK_length]) fun i hi => ?_
  rw [h.1] at hi
  rw [h.2 i hi, if_pos (by omega), nth_wordsK V p n i hi]
theorem RowK.skip {V : VS} {p : Int} {n k m : Nat} {cur : List Int} (h : RowK V p n k cur) (hp : 32768 ≤ (p + k) % 65536) (hm : (m : Int) = 65536 - (p + k) % 65536) : RowK V p n (k + m) cur := by
  refine ⟨h.1, fun j hj => ?_⟩
  rw [h.2 j hj]
  by_cases h1 : j < k
  · rw [if_pos h1, if_pos (by omega)]
  · rw [if_neg h1]
    by_cases h2 : j < k + m
    · rw [if_pos h2]; unfold VS.word; rw [if_neg (by omega)]
    · rw [if_neg h2]
/-- The words that go over. -/
def segK (V : VS) (p : Int) (k n : Nat) : List Int := (V.W.drop ((p + k) % 65536).toNat).take (n - k)
theorem segK_length {V : VS} (hV : V.Ok) (p : Int) (k n : Nat) (hp : (p + k) % 65536 < 32768) : (segK V p k n).length = min (32768 - ((p + k) % 65536).toNat) (n - k) := by
  unfold segK; rw [List.length_take, List.length_drop, hV.len]; exact Nat.min_comm _ _
theorem nth_segK {V : VS} (hV : V.Ok) (p : Int) (k n j : Nat) (hp : (p + k) % 65536 < 32768) (hj : j < (segK V p k n).length) : nth 0 (segK V p k n) j = V.word (p + k + j) := by
  rw [segK_length hV p k n hp] at hj
  have h1 : j < 32768 - ((p + k) % 65536).toNat := Nat.lt_of_lt_of_le hj (Nat.min_le_left _ _)
  have h2 : j < n - k := Nat.lt_of_lt_of_le hj (Nat.min_le_right _ _)
  unfold VS.word
  rw [if_pos (by omega), show ((p + k + j) % 65536).toNat = ((p + k) % 65536).toNat + j by omega]
  unfold segK nth
  simp only [List.getD_eq_getElem?_getD, List.getElem?_take, List.getElem?_drop]
  rw [if_pos h2]
theorem RowK.copy {V : VS} (hV : V.Ok) {p : Int} {n k : Nat} {cur : List Int} (h : RowK V p n k cur) (hk : k < n) (hp : (p + k) % 65536 < 32768) : RowK V p n (k + (segK V p k n).length) (splice cur k (segK V p k n)) := by
  have hl := segK_length hV p k n hp
  have hle : (segK V p k n).length ≤ n - k := by rw [hl]; exact Nat.min_le_right _ _
  have h1 := h.1
  refine ⟨by rw [length_splice _ _ _ (by omega)]; exact h1, fun j hj => ?_⟩
  have hs : nth 0 (splice cur k (segK V p k n)) j = if j < k then nth 0 cur j else if j < k + (segK V p k n).length then nth 0 (segK V p k n) (j - k) else nth 0 cur j := by
    unfold splice nth
    simp only [List.getD_eq_getElem?_getD]
    by_cases a : j < k
    · rw [if_pos a, List.getElem?_append_left (by simp; omega), List.getElem?_take, if_pos a]
    · rw [if_neg a, List.getElem?_append_right (by simp; omega)]
      rw [show (List.take k cur).length = k by simp; omega]
      by_cases b : j < k + (segK V p k n).length
      · rw [if_pos b, List.getElem?_append_left (by omega)]
      · rw [if_neg b, List.getElem?_append_right (by omega), List.getElem?_drop]
        congr 2; omega
  rw [hs]
  by_cases a : j < k
  · rw [if_pos a, if_pos (by omega), h.2 j hj, if_pos a]
  · rw [if_neg a]
    by_cases b : j < k + (segK V p k n).length
    · rw [if_pos b, if_pos b, nth_segK hV p k n (j - k) hp (by omega)]
      congr 1; omega
    · rw [if_neg b, if_neg b, h.2 j hj, if_neg a]

theorem splice_map {α β : Type} (f : α → β) (L cs : List α) (k : Nat) : (splice L k cs).map f = splice (L.map f) k (cs.map f) := by
  simp [splice]

theorem vram_Words {w : World} {p g : Nat} {V : VS} (h : VAt 69 w p g V) (at' : Int) (n : Nat) (hn : n ≤ 65536) : Calls Try.prog 44 #[.pointer (some ⟨p, 0, none⟩), .int .i64 at', .int .i64 n] w fun e w' =>
    e = .returned (.slice (some ⟨w.heap.size, 0, none⟩) n n) ∧ BlkL (Value.int .i64) w' w.heap.size (wordsK V at' n) 3 ∧ Below w.heap.size w w' := by
  have hmk := make_ints n (by omega)
  have hl := h.lt
  obtain ⟨cp, hcp, c0, c1, c2, c3, c4, c5⟩ := h.c
  go_enter Try.func44, Try.ntmps44
  go_wp2_with fail
  refine (vram_none h).mono ?_; rintro e w' ⟨rfl, rfl⟩
  go_wp2_with fail
  refine (bits_Word at' _).mono ?_; rintro e w' ⟨rfl, rfl⟩
  have R0 := BlkL.made (f := Value.int .i64) w 0 n 3 rfl
  have B0 : Below w.heap.size w (w.alloc (.cells (madeCells #[Value.int .i64 0] n) 3)) := (Below.refl _ _).alloc (Nat.le_refl _) _
  generalize (w.alloc (.cells (madeCells #[Value.int .i64 0] n) 3)) = w0 at *
  clear c0 c1 c2 c3 c4 c5
  go_wp2_with fail
  go_loopw [8] (fun i wr => ∃ k : Nat, i = .int .i64 k ∧ k < n + 65537 ∧ ∃ cur, BlkL (Value.int .i64) wr w.heap.size cur 3 ∧ RowK V at' n k cur ∧ Below w.heap.size w wr) (fun i _ => n - (intOf i).toNat)
  case atStart => exact ⟨0, rfl, by omega, _, R0, RowK.zero V at' n, B0⟩
  case round =>
    obtain ⟨k, rfl, hk, cur, hR, hK, hB⟩ := hrel
    have hv := h.below hB
    obtain ⟨cp, hcp, c0, c1, c2, c3, c4, c5⟩ := hv.c
    by_cases hlt : k < n
    · have d1 : decide ((k : Int) < n) = true := by simpa using hlt
      have e1 : IntKind.i64.wrap (at' % 65536 + k) = at' % 65536 + k := IntWalk.i64_in _ (by omega)
      have e2 : (at' % 65536 + k) % 65536 = (at' + k) % 65536 := by omega
      go_wp2_with fail
      refine (bits_Word (at' % 65536 + k) _).mono ?_; rintro e w' ⟨rfl, rfl⟩
      rw [e2]
      obtain ⟨q, hq⟩ : ∃ q : Int, (at' + k) % 65536 = q := ⟨_, rfl⟩
      rw [hq]
      have hq0 : 0 ≤ q := by omega
      have hq6 : q < 65536 := by omega
      have Hq := Lib.hid hq
      clear e1 e2
      by_cases hp : q < 32768
      · have hs := segK_length hv.ok at' k n (by omega)
        rw [hq] at hs
        have hK2 := hK.copy hv.ok hlt (by omega)
        have a1 : k ≤ n := by omega
        have a2 : ¬ n = k := by omega
        have a3 : q ≤ 32768 := by omega
        have a4 : ¬ cp = q.toNat := by omega
        have a5 : q.toNat ≤ cp := by omega
        have a6 : (32768 : Nat) ≤ cp := hcp
        have hsrc : ∀ j, j < (segK V at' k n).length → wr.cell? ⟨g, q.toNat + j, none⟩ = some (.int .i64 (nth 0 (segK V at' k n) j)) := by
          intro j hj
          rw [nth_segK hv.ok at' k n j (by omega) hj]
          rw [hs] at hj
          have hj1 : j < 32768 - q.toNat := by omega
          rw [hv.wordAt (by omega)]
          unfold VS.word
          rw [if_pos (by omega), show ((at' + k + j) % 65536).toNat = q.toNat + j by omega]
        have hfit : k + (segK V at' k n).length ≤ cur.length := by
          rw [hs, hK.1]; omega
        generalize segK V at' k n = seg at *
        have HS := Lib.hid hs
        have HC := Lib.hid (show ∀ j v, (seg.map (Value.int .i64))[j]? = some v → wr.drew.cell? ((⟨g, q.toNat, none⟩ : Addr).add j) = some v from by
          intro j v hv
          rw [List.getElem?_map] at hv
          have hj : j < seg.length := by
            rcases Nat.lt_or_ge j seg.length with h | h
            · exact h
            · rw [List.getElem?_eq_none h] at hv; cases hv
          rw [List.getElem?_eq_getElem hj] at hv
          have := hsrc j hj
          rw [nth_lt hj] at this
          rw [show (⟨g, q.toNat, none⟩ : Addr).add j = ⟨g, q.toNat + j, none⟩ from by unfold Addr.add; split <;> simp_all]
          exact this.trans hv)
        have HF := Lib.hid hfit
        clear hs hsrc hfit hq
        have eB : Below w.heap.size w wr.drew := hB.drew
        have e3 : IntKind.i64.wrap ((k : Int) + seg.length) = ((k + seg.length : Nat) : Int) := by
          have := HS.out; rw [IntWalk.i64_in _ (by omega)]; omega
        go_wp2_with fail
        go_region_law (first
          | (refine step_copy_splice rfl (.tmp 41) (.tmp 47) 22 22 rfl 3 Try.underlying22 (by kernel_rfl) _ _ _ _ _ _ rfl rfl w.heap.size k (cur.map (Value.int .i64)) 3 hR (seg.map (Value.int .i64))
              (by rw [List.length_map]; exact HS.out) (fun _ => ⟨rfl, ⟨g, q.toNat, none⟩, rfl, HC.out⟩) (by rw [List.length_map, List.length_map]; exact HF.out) (by simp [Value.oneCell']) w.heap.size w eB (Nat.le_refl _) ?_; intro w1 hg1 hb1))
        have hR1 : BlkL (Value.int .i64) w1 w.heap.size (splice cur k seg) 3 := by
          unfold BlkL Blk; rw [splice_map]; exact hg1.out
        have hpos : 0 < seg.length := by have := HS.out; omega
        have hle2 : k + seg.length ≤ n := by have := HS.out; omega
        clear hg1 HC HF eB hR hB hv c0 c1 c2 c3 c4 c5 HS
        simp only [Act.put, List.getElem_toArray, List.getElem_cons_succ, List.getElem_cons_zero, List.setIfInBounds_toArray, List.set_cons_zero, List.set_cons_succ]
        go_wp2
        go_roundw
        case rel => exact ⟨k + seg.length, by first | rfl | (congr 1; omega), by omega, _, hR1, hK2, hb1⟩
        case measure => simp [intOf]; omega
      · obtain ⟨m, hm⟩ : ∃ m : Nat, (m : Int) = 65536 - q := ⟨(65536 - q).toNat, by omega⟩
        have hK2 := hK.skip (m := m) (by omega) (by omega)
        clear hq
        go_wp2
        go_roundw
        case rel => exact ⟨k + m, by congr 1; omega, by omega, cur, hR, hK2, hB⟩
        case measure => simp [intOf]; omega
    · have d1 : decide ((k : Int) < n) = false := by simpa using hlt
      rw [hK.done (by omega)] at hR
      go_wp2
      go_ret
      exact ⟨rfl, hR, hB⟩

end Go.Proofs.Ytlhnfllfankjhaa
