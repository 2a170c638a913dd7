/- Printed by merge.py: LineA, LineB, LineC. -/
import Derived.Test.YtlhnfllfankjhaaSl
import Derived.Deep.AppendLies
namespace Go.Proofs.Ytlhnfllfankjhaa
open Go Go.RowKit
set_option linter.unusedSimpArgs false
set_option linter.unusedVariables false

theorem law19_ints (a b : Option Addr) (ca cb : Nat) (xs ys : List Int) (w : World) (hm : xs.length ≤ maxLen) (hm' : ys.length ≤ maxLen) (hx : SlAt (Value.int .i64) 0 w a xs) (hy : SlAt (Value.int .i64) 0 w b ys) :
    Calls Try.prog 57 #[.slice a xs.length ca, .slice b ys.length cb] w fun e w' => e = .returned (.bool (decide (xs = ys))) ∧ ∃ n, w' = w.drewN n := by
  unfold maxLen at hm hm'
  by_cases hl : xs.length = ys.length
  · have hl' : ((xs.length : Int) != (ys.length : Int)) = false := by rw [hl]; simp
    go_enter Try.func57, Try.ntmps57
    go_wp2
    go_loopw [5] (fun i wr => ∃ k : Nat, k ≤ xs.length ∧ i = .int .i64 k ∧ (∀ j, j < k → nth 0 xs j = nth 0 ys j) ∧ ∃ n, wr = w.drewN n) (fun i _ => xs.length - (intOf i).toNat)
    case atStart => exact ⟨0, by omega, rfl, by intro j hj; omega, 0, rfl⟩
    case round =>
      obtain ⟨k, hk, rfl, hall, n, rfl⟩ := hrel
      by_cases hlt : k < xs.length
      · obtain ⟨ad, rfl, c1⟩ := hx.atN k hlt
        obtain ⟨bd, rfl, c2⟩ := hy.atN k (by omega)
        have H := Lib.hid hl; clear hl
        have HA := Lib.hid hall; clear hall
        have i1 : (k : Int) < (xs.length : Int) := by omega
        have i2 : (k : Int) < (ys.length : Int) := by have := H.out; omega
        go_wp2_with fail
        go_quiet (fail)
        by_cases he : (nth 0 xs k != nth 0 ys k) = true
        · go_wp2
          go_ret
          refine ⟨ret_bool ?_, _, by rw [World.drewN_drewN]⟩
          symm; rw [decide_eq_false_iff_not]; rintro rfl; simp at he
        · have he' : (nth 0 xs k != nth 0 ys k) = false := by simpa using he
          clear he
          go_wp2
          go_roundw
          case rel => exact ⟨k + 1, by omega, by go_num, (by intro j hj; rcases (by omega : j < k ∨ j = k) with h | rfl; (exact HA.out j h); simpa using he'), _, rfl⟩
          case measure => simp [intOf]; omega
      · go_wp2
        go_ret
        refine ⟨ret_bool ?_, _, rfl⟩
        symm; rw [decide_eq_true_iff]
        exact nth_ext 0 hl (fun i hi => hall i (by omega))
  · have hl' : ((xs.length : Int) != (ys.length : Int)) = true := by simp; omega
    go_enter Try.func57, Try.ntmps57
    go_wp2
    go_ret
    refine ⟨ret_bool ?_, 0, rfl⟩
    symm; rw [decide_eq_false_iff_not]; rintro rfl; exact hl rfl

end Go.Proofs.Ytlhnfllfankjhaa
namespace Go.Proofs.Ytlhnfllfankjhaa
open Go Go.RowKit
set_option linter.unusedSimpArgs false
set_option linter.unusedVariables false

def mixAt (cols : List Int) (front : List Bool) (i : Nat) (b : Int) : Int :=
  if i < min cols.length front.length ∧ nth 0 cols i ≠ 0 ∧ (nth false front i = true ∨ b = 0) then wrap64 (256 + nth 0 cols i) else b

theorem mix_seen (k n : Nat) (b : Int) (pn ph : Nat) (A1 A2 : Option Addr) (c1 c2 : Nat) (cols : List Int) (front : List Bool) (w : World)
    (hm1 : cols.length ≤ maxLen) (hm2 : front.length ≤ maxLen)
    (hn : min cols.length front.length = n) (hnv : w.cell? ⟨pn, 0, none⟩ = some (.int .i64 n))
    (h0 : w.cell? ⟨ph, 0, none⟩ = some (.slice A1 cols.length c1)) (h1 : w.cell? ⟨ph, 1, none⟩ = some (.slice A2 front.length c2))
    (S1 : SlAt (Value.int .i64) 0 w A1 cols) (S2 : SlAt Value.bool false w A2 front) :
    Calls Try.prog 87 #[.int .i64 k, .int .i64 b, .pointer (some ⟨pn, 0, none⟩), .pointer (some ⟨ph, 0, none⟩)] w fun e w' => e = .returned (.int .i64 (mixAt cols front k b)) ∧ w = w' := by
  unfold maxLen at hm1 hm2
  have hn' : n ≤ cols.length ∧ n ≤ front.length := by omega
  have Hn := Lib.hid hn; clear hn
  by_cases hk : k < n
  · obtain ⟨a1, rfl, g1⟩ := S1.atN k (by omega)
    obtain ⟨a2, rfl, g2⟩ := S2.atN k (by omega)
    have b1 : (k : Int) < (cols.length : Int) := by omega
    have b2 : (k : Int) < (front.length : Int) := by omega
    have hk1 : decide (k < n) = true := by simpa using hk
    by_cases hz : nth 0 cols k = 0
    · have hz' : (nth 0 cols k != 0) = false := by simp [hz]
      have hfin : mixAt cols front k b = b := by simp [mixAt, hz]
      have Hf := Lib.hid hfin; clear hfin hz
      go_enter Try.func87, Try.ntmps87
      go_wp2
      go_ret
      exact ⟨ret_int Hf.out.symm, rfl⟩
    · have hz' : (nth 0 cols k != 0) = true := by simpa using hz
      by_cases hf : nth false front k = true
      · have hfin : mixAt cols front k b = wrap64 (256 + nth 0 cols k) := by simp [mixAt, hz, hf, Hn.out, hk]
        have Hf := Lib.hid hfin; clear hfin hz
        go_enter Try.func87, Try.ntmps87
        go_wp2
        go_ret
        exact ⟨ret_int Hf.out.symm, rfl⟩
      · have hf' : nth false front k = false := by simpa using hf
        clear hf
        by_cases hb : b = 0
        · have hb' : (b == 0) = true := by simpa using hb
          have hfin : mixAt cols front k b = wrap64 (256 + nth 0 cols k) := by simp [mixAt, hz, hf', hb, Hn.out, hk]
          have Hf := Lib.hid hfin; clear hfin hz hb
          go_enter Try.func87, Try.ntmps87
          go_wp2
          go_ret
          exact ⟨ret_int Hf.out.symm, rfl⟩
        · have hb' : (b == 0) = false := by simpa using hb
          have hfin : mixAt cols front k b = b := by simp [mixAt, hz, hf', hb, Hn.out, hk]
          have Hf := Lib.hid hfin; clear hfin hz hb
          go_enter Try.func87, Try.ntmps87
          go_wp2
          go_ret
          exact ⟨ret_int Hf.out.symm, rfl⟩
  · have hk1 : decide (k < n) = false := by simpa using hk
    have hfin : mixAt cols front k b = b := by simp only [mixAt, Hn.out]; rw [if_neg (by omega)]
    have Hf := Lib.hid hfin; clear hfin
    go_enter Try.func87, Try.ntmps87
    go_wp2
    go_ret
    exact ⟨ret_int Hf.out.symm, rfl⟩

/-- What Mix answers. -/
def mixL (back cols : List Int) (front : List Bool) (k : Nat) : List Int := (List.range k).map fun i => mixAt cols front i (nth 0 back i)
theorem mixL_length (back cols : List Int) (front : List Bool) (k : Nat) : (mixL back cols front k).length = k := by simp [mixL]
theorem mixL_succ (back cols : List Int) (front : List Bool) (k : Nat) : mixL back cols front (k + 1) = mixL back cols front k ++ [mixAt cols front k (nth 0 back k)] := by simp [mixL, List.range_succ]

theorem Try.infoInt : (Try.prog.info? 3).map (fun i => (i.zero, i.size, i.bytes)) = some (some (.int .i64 0), 1, 8) := by kernel_rfl

theorem own_snoc {α : Type} {f : α → Value} {w : World} {base : Nat} {e : TypeId} {v : Value} {xs : List α} {x : α} (h : w.ownsRow base e 1 v (xs.length + 1) (xs.map f ++ [f x])) : Own f w base e v (xs ++ [x]) := by
  unfold Own; simpa using h

set_option maxHeartbeats 400000 in
theorem line_Mix (a A1 A2 : Option Addr) (c0 c1 c2 : Nat) (back cols : List Int) (front : List Bool) (w : World)
    (hb : back.length * 8 ≤ 140737488351232) (hm1 : cols.length ≤ maxLen) (hm2 : front.length ≤ maxLen)
    (S0 : SlAt (Value.int .i64) 0 w a back) (S1 : SlAt (Value.int .i64) 0 w A1 cols) (S2 : SlAt Value.bool false w A2 front) :
    Calls Try.prog 59 #[.slice a back.length c0, .agg #[.slice A1 cols.length c1, .slice A2 front.length c2]] w fun e w' =>
      ∃ v, e = .returned v ∧ Own (Value.int .i64) w' w.heap.size 3 v (mixL back cols front back.length) ∧ Below w.heap.size w w' := by
  have hm1' := hm1; have hm2' := hm2
  unfold maxLen at hm1' hm2'
  obtain ⟨i0, hi0, hz0, hz1, hz2⟩ := info_parts Try.infoInt
  have hn : ∃ n, min cols.length front.length = n ∧ ((cols.length ≤ front.length ∧ n = cols.length) ∨ (¬ cols.length ≤ front.length ∧ n = front.length)) := ⟨_, rfl, by omega⟩
  obtain ⟨n, hn, hc⟩ := hn
  have HN := Lib.hid hn; clear hn
  rcases hc with ⟨hle, rfl⟩ | ⟨hle, rfl⟩
  all_goals
    go_enter Try.func59, Try.ntmps59
    go_wp2_with (at_make; refine wpList_make_own _ rfl _ _ 22 rfl (w.heap.size + 2) 3 i0 (.int .i64 0) 1 Try.underlying22 hi0 hz0 hz1 .i64 .i64 _ back.length rfl rfl rfl (by rw [hz2]; omega) (by unfold maxLen; omega) (by simp) ?_; intro w0 hown0 hgrow0)
    have kp := (((Blk.new w #[Value.slice A1 cols.length c1, Value.slice A2 front.length c2] 80).alloc _).grown hgrow0 (by simp))
    have kn := ((Blk.new (w.alloc _) _ 3).grown hgrow0 (by simp))
    have b0 : Below w.heap.size w w0 := (((Below.refl _ _).alloc (Nat.le_refl _) _).alloc (by simp) _).grown hgrow0 (by simp; omega) (by simp)
    simp only [World.size_alloc] at kn hown0
    go_loopw [7, 23] (fun v i wr => ∃ k : Nat, k ≤ back.length ∧ i = .int .i64 k ∧ Own (Value.int .i64) wr (w.heap.size + 2) 3 v (mixL back cols front k) ∧ Below w.heap.size w wr ∧
        Blk wr w.heap.size #[Value.slice A1 cols.length c1, Value.slice A2 front.length c2] 80 ∧ Blk wr (w.heap.size + 1) #[Value.int .i64 _] 3) (fun _ i _ => back.length - (intOf i).toNat)
    case atStart => exact ⟨0, by omega, rfl, hown0, b0, kp, kn⟩
    case round =>
      obtain ⟨k, hk, rfl, hown, hbl, kp, kn⟩ := hrel
      have hge := kn.lt
      by_cases hlt : k < back.length
      · obtain ⟨ad, rfl, g0⟩ := S0.atN k hlt
        have g0' : wr.cell? (ad.add k) = some (.int .i64 (nth 0 back k)) := by
          rw [hbl.cell (World.block_lt_of_cell? w _ g0)]; exact g0
        have i1 : (k : Int) < (back.length : Int) := by omega
        have c0' := kp.cell 0; have c1' := kp.cell 1; have cn := kn.cell 0
        simp only [List.getElem?_toArray, List.getElem?_cons_zero, List.getElem?_cons_succ] at c0' c1' cn
        clear g0
        have hl := mixL_length back cols front k
        have HL := Lib.hid hl; clear hl
        go_wp2_with fail
        refine (mix_seen k _ _ _ _ _ _ _ _ cols front _ hm1 hm2 HN.out cn c0' c1' (S1.below hbl) (S2.below hbl)).mono ?_; rintro e w1 ⟨rfl, rfl⟩
        have hby : (k + 1) * 8 ≤ 140737488355328 := by omega
        go_wp2_with (at_builtin; refine wpList_app1 (f := Value.int .i64) rfl _ _ 22 rfl (w.heap.size + 2) 3 i0 (.int .i64 0) 8 Try.underlying22 hi0 hz0 hz1 hz2 rfl _ _ rfl (hown.alloc _) wr.heap.size 1 (mixAt cols front k (nth 0 back k)) rfl (by simp) rfl (by decide) (by rw [HL.out]; exact hby) (by simp; omega) ?_; intro v1 w1 hown1 hg1)
        have kp1 := (kp.alloc _).grown hg1 (by intro h; have := hown.ge _ h.symm; omega)
        have kn1 := (kn.alloc _).grown hg1 (by intro h; have := hown.ge _ h.symm; omega)
        have hb1 : Below w.heap.size w w1 := (hbl.alloc (by omega) _).grown hg1 (by simp; omega) (fun b hb => by have := hown.ge _ hb; omega)
        rw [← mixL_succ] at hown1
        clear hown hbl kp kn c0' c1' cn g0' hg1 hge
        go_wp2
        go_roundw
        case rel => exact ⟨k + 1, by omega, by go_num, hown1, hb1, kp1, kn1⟩
        case measure => simp [intOf]; omega
      · obtain rfl : k = back.length := by omega
        go_wp2
        go_ret
        exact ⟨_, rfl, ⟨hown.1, hown.2.imp id (fun ⟨g, cap, cur, h1, h2, h3⟩ => ⟨g, cap, cur, h1, by omega, h3⟩)⟩, hbl⟩

end Go.Proofs.Ytlhnfllfankjhaa
namespace Go.Proofs.Ytlhnfllfankjhaa
open Go Go.RowKit
set_option linter.unusedSimpArgs false
set_option linter.unusedVariables false

theorem mix_cases (cols : List Int) (front : List Bool) (k : Nat) (b : Int) :
    (¬ k < cols.length ∧ mixAt cols front k b = b) ∨ (k < cols.length ∧ ¬ k < front.length ∧ mixAt cols front k b = b) ∨
    (k < cols.length ∧ k < front.length ∧ (nth 0 cols k != 0) = false ∧ mixAt cols front k b = b) ∨
    (k < cols.length ∧ k < front.length ∧ (nth 0 cols k != 0) = true ∧ nth false front k = true ∧ mixAt cols front k b = wrap64 (256 + nth 0 cols k)) ∨
    (k < cols.length ∧ k < front.length ∧ (nth 0 cols k != 0) = true ∧ nth false front k = false ∧ (b == 0) = true ∧ mixAt cols front k b = wrap64 (256 + nth 0 cols k)) ∨
    (k < cols.length ∧ k < front.length ∧ (nth 0 cols k != 0) = true ∧ nth false front k = false ∧ (b == 0) = false ∧ mixAt cols front k b = b) := by
  by_cases h1 : k < cols.length
  · by_cases h2 : k < front.length
    · by_cases h3 : nth 0 cols k = 0
      · exact .inr (.inr (.inl ⟨h1, h2, by simp [h3], by simp [mixAt, h3]⟩))
      · cases h4 : nth false front k
        · by_cases h5 : b = 0
          · exact .inr (.inr (.inr (.inr (.inl ⟨h1, h2, by simpa using h3, rfl, by simp [h5], by unfold mixAt; rw [if_pos ⟨by omega, h3, .inr h5⟩]⟩))))
          · exact .inr (.inr (.inr (.inr (.inr ⟨h1, h2, by simpa using h3, rfl, by simpa using h5, by unfold mixAt; rw [if_neg (by rw [h4]; simp [h5])]⟩))))
        · exact .inr (.inr (.inr (.inl ⟨h1, h2, by simpa using h3, rfl, by unfold mixAt; rw [if_pos ⟨by omega, h3, .inl h4⟩]⟩)))
    · exact .inr (.inl ⟨h1, h2, by unfold mixAt; rw [if_neg (by omega)]⟩)
  · exact .inl ⟨h1, by unfold mixAt; rw [if_neg (by omega)]⟩

set_option maxHeartbeats 1000000 in
theorem ref19_Mix (a A1 A2 : Option Addr) (c0 c1 c2 : Nat) (back cols : List Int) (front : List Bool) (w : World)
    (hb : back.length * 8 ≤ 140737488351232) (hm1 : cols.length ≤ maxLen) (hm2 : front.length ≤ maxLen)
    (S0 : SlAt (Value.int .i64) 0 w a back) (S1 : SlAt (Value.int .i64) 0 w A1 cols) (S2 : SlAt Value.bool false w A2 front) :
    Calls Try.prog 85 #[.slice a back.length c0, .slice A1 cols.length c1, .slice A2 front.length c2] w fun e w' =>
      ∃ v, e = .returned v ∧ Own (Value.int .i64) w' w.heap.size 3 v (mixL back cols front back.length) ∧ Below w.heap.size w w' := by
  unfold maxLen at hm1 hm2
  obtain ⟨i0, hi0, hz0, hz1, hz2⟩ := info_parts Try.infoInt
  go_enter Try.func85, Try.ntmps85
  go_wp2
  go_loopw [7, 8] (fun v i wr => ∃ k : Nat, k ≤ back.length ∧ i = .int .i64 k ∧ Own (Value.int .i64) wr w.heap.size 3 v (mixL back cols front k) ∧ Below w.heap.size w wr) (fun _ i _ => back.length - (intOf i).toNat)
  case atStart => exact ⟨0, by omega, rfl, World.ownsRow_nil _ _ _ _, Below.refl _ _⟩
  case round =>
    obtain ⟨k, hk, rfl, hown, hbl⟩ := hrel
    by_cases hlt : k < back.length
    · obtain ⟨ad, rfl, g0⟩ := (S0.below hbl).atN k hlt
      have i1 : (k : Int) < (back.length : Int) := by omega
      have hl := mixL_length back cols front k
      have HL := Lib.hid hl; clear hl
      have hby : (k + 1) * 8 ≤ 140737488355328 := by omega
      rcases mix_cases cols front k (nth 0 back k) with ⟨h1, hf⟩ | ⟨h1, h2, hf⟩ | ⟨h1, h2, h3, hf⟩ | ⟨h1, h2, h3, h4, hf⟩ | ⟨h1, h2, h3, h4, h5, hf⟩ | ⟨h1, h2, h3, h4, h5, hf⟩
      · have Hf := Lib.hid hf; clear hf
        have d1 : decide (k < cols.length) = false := by simpa using h1
        go_wp2_with (at_builtin; refine wpList_app1 (f := Value.int .i64) rfl _ _ 22 rfl w.heap.size 3 i0 (.int .i64 0) 8 Try.underlying22 hi0 hz0 hz1 hz2 rfl _ _ rfl (hown.alloc _) wr.heap.size 1 (mixAt cols front k (nth 0 back k)) rfl (by rw [Hf.out]; simp) rfl (by decide) (by rw [HL.out]; exact hby) (by simp; have := hbl.size; omega) ?_; intro v1 w1 hown1 hg1)
        have hb1 : Below w.heap.size w w1 := (hbl.alloc hbl.size _).grown hg1 (by simp; have := hbl.size; omega) (fun b hb => hown.ge _ hb)
        rw [← mixL_succ] at hown1
        go_roundw
        case rel => exact ⟨k + 1, by omega, by go_num, hown1, hb1⟩
        case measure => simp [intOf]; omega
      · have Hf := Lib.hid hf; clear hf
        have d1 : decide (k < cols.length) = true := by simpa using h1
        have d2 : decide (k < front.length) = false := by simpa using h2
        go_wp2_with (at_builtin; refine wpList_app1 (f := Value.int .i64) rfl _ _ 22 rfl w.heap.size 3 i0 (.int .i64 0) 8 Try.underlying22 hi0 hz0 hz1 hz2 rfl _ _ rfl (hown.alloc _) wr.heap.size 1 (mixAt cols front k (nth 0 back k)) rfl (by rw [Hf.out]; simp) rfl (by decide) (by rw [HL.out]; exact hby) (by simp; have := hbl.size; omega) ?_; intro v1 w1 hown1 hg1)
        have hb1 : Below w.heap.size w w1 := (hbl.alloc hbl.size _).grown hg1 (by simp; have := hbl.size; omega) (fun b hb => hown.ge _ hb)
        rw [← mixL_succ] at hown1
        go_roundw
        case rel => exact ⟨k + 1, by omega, by go_num, hown1, hb1⟩
        case measure => simp [intOf]; omega
      · have Hf := Lib.hid hf; clear hf
        have d1 : decide (k < cols.length) = true := by simpa using h1
        have d2 : decide (k < front.length) = true := by simpa using h2
        obtain ⟨a1, rfl, g1⟩ := (S1.below hbl).atN k h1
        go_wp2_with (at_builtin; refine wpList_app1 (f := Value.int .i64) rfl _ _ 22 rfl w.heap.size 3 i0 (.int .i64 0) 8 Try.underlying22 hi0 hz0 hz1 hz2 rfl _ _ rfl (hown.alloc _) wr.heap.size 1 (mixAt cols front k (nth 0 back k)) rfl (by rw [Hf.out]; simp) rfl (by decide) (by rw [HL.out]; exact hby) (by simp; have := hbl.size; omega) ?_; intro v1 w1 hown1 hg1)
        have hb1 : Below w.heap.size w w1 := (hbl.alloc hbl.size _).grown hg1 (by simp; have := hbl.size; omega) (fun b hb => hown.ge _ hb)
        rw [← mixL_succ] at hown1
        go_roundw
        case rel => exact ⟨k + 1, by omega, by go_num, hown1, hb1⟩
        case measure => simp [intOf]; omega
      all_goals
        have Hf := Lib.hid hf; clear hf
        have d1 : decide (k < cols.length) = true := by simpa using h1
        have d2 : decide (k < front.length) = true := by simpa using h2
        obtain ⟨a1, rfl, g1⟩ := (S1.below hbl).atN k h1
        obtain ⟨a2, rfl, g2⟩ := (S2.below hbl).atN k h2
        have b1 : (k : Int) < (cols.length : Int) := by omega
        have b2 : (k : Int) < (front.length : Int) := by omega
        go_wp2_with (at_builtin; refine wpList_app1 (f := Value.int .i64) rfl _ _ 22 rfl w.heap.size 3 i0 (.int .i64 0) 8 Try.underlying22 hi0 hz0 hz1 hz2 rfl _ _ rfl (hown.alloc _) wr.heap.size 1 (mixAt cols front k (nth 0 back k)) rfl (by rw [Hf.out]; simp) rfl (by decide) (by rw [HL.out]; exact hby) (by simp; have := hbl.size; omega) ?_; intro v1 w1 hown1 hg1)
        have hb1 : Below w.heap.size w w1 := (hbl.alloc hbl.size _).grown hg1 (by simp; have := hbl.size; omega) (fun b hb => hown.ge _ hb)
        rw [← mixL_succ] at hown1
        go_roundw
        case rel => exact ⟨k + 1, by omega, by go_num, hown1, hb1⟩
        case measure => simp [intOf]; omega
    · obtain rfl : k = back.length := by omega
      go_wp2
      go_ret
      exact ⟨_, rfl, hown, hbl⟩

end Go.Proofs.Ytlhnfllfankjhaa
