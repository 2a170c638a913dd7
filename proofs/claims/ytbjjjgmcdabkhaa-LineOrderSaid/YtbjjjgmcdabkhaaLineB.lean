/- Contracts: how a background and sprites are mixed. -/
import Derived.Test.YtbjjjgmcdabkhaaLineA
import Derived.Deep.AppendLies
namespace Go.Proofs.Ytbjjjgmcdabkhaa
open Go Go.RowKit
set_option linter.unusedSimpArgs false
set_option linter.unusedVariables false

def mixAt (cols : List Int) (front : List Bool) (i : Nat) (b : Int) : Int :=
  if i < min cols.length front.length ∧ nth 0 cols i ≠ 0 ∧ (nth false front i = true ∨ b = 0) then wrap64 (256 + nth 0 cols i) else b

theorem mix_seen (k n : Nat) (b : Int) (pn ph : Nat) (A1 A2 : Option Addr) (c1 c2 : Nat) (cols : List Int) (front : List Bool) (w : World)
    (hm1 : cols.length ≤ maxLen) (hm2 : front.length ≤ maxLen)
    (hn : min cols.length front.length = n) (hnv : w.cell? ⟨pn, 0, none⟩ = some (.int .i64 n))
    (h0 : w.cell? ⟨ph, 0, none⟩ = some (.slice A1 cols.length c1)) (h1 : w.cell? ⟨ph, 1, none⟩ = some (.slice A2 front.length c2))
    (S1 : SlAt (Value.int .i64) 0 w A1 cols) (S2 : SlAt Value.bool false w A2 front) :
    Calls Try.prog 28 #[.int .i64 k, .int .i64 b, .pointer (some ⟨pn, 0, none⟩), .pointer (some ⟨ph, 0, none⟩)] w fun e w' => e = .returned (.int .i64 (mixAt cols front k b)) ∧ w = w' := by
  unfold maxLen at hm1 hm2
  have hn' : n ≤ cols.length ∧ n ≤ front.length := by omega
  have Hn := Lib.hid hn; clear hn
  by_cases hk : k < n
  · obtain ⟨a1, rfl, g1⟩ := S1.atN k (by omega)
    obtain ⟨a2, rfl, g2⟩ := S2.atN k (by omega)
    have b1 : (k : Int) < (cols.length : Int) := by omega
    have b2 : (k : Int) < (front.length : Int) := by omega
    have hk1 : decide (k < n) = true := by simpa using hk
    by_cases hz : nth 0 cols k = 0
    · have hz' : (nth 0 cols k != 0) = false := by simp [hz]
      have hfin : mixAt cols front k b = b := by simp [mixAt, hz]
      have Hf := Lib.hid hfin; clear hfin hz
      go_enter Try.func28, Try.ntmps28
      go_wp2
      go_ret
      exact ⟨ret_int Hf.out.symm, rfl⟩
    · have hz' : (nth 0 cols k != 0) = true := by simpa using hz
      by_cases hf : nth false front k = true
      · have hfin : mixAt cols front k b = wrap64 (256 + nth 0 cols k) := by simp [mixAt, hz, hf, Hn.out, hk]
        have Hf := Lib.hid hfin; clear hfin hz
        go_enter Try.func28, Try.ntmps28
        go_wp2
        go_ret
        exact ⟨ret_int Hf.out.symm, rfl⟩
      · have hf' : nth false front k = false := by simpa using hf
        clear hf
        by_cases hb : b = 0
        · have hb' : (b == 0) = true := by simpa using hb
          have hfin : mixAt cols front k b = wrap64 (256 + nth 0 cols k) := by simp [mixAt, hz, hf', hb, Hn.out, hk]
          have Hf := Lib.hid hfin; clear hfin hz hb
          go_enter Try.func28, Try.ntmps28
          go_wp2
          go_ret
          exact ⟨ret_int Hf.out.symm, rfl⟩
        · have hb' : (b == 0) = false := by simpa using hb
          have hfin : mixAt cols front k b = b := by simp [mixAt, hz, hf', hb, Hn.out, hk]
          have Hf := Lib.hid hfin; clear hfin hz hb
          go_enter Try.func28, Try.ntmps28
          go_wp2
          go_ret
          exact ⟨ret_int Hf.out.symm, rfl⟩
  · have hk1 : decide (k < n) = false := by simpa using hk
    have hfin : mixAt cols front k b = b := by simp only [mixAt, Hn.out]; rw [if_neg (by omega)]
    have Hf := Lib.hid hfin; clear hfin
    go_enter Try.func28, Try.ntmps28
    go_wp2
    go_ret
    exact ⟨ret_int Hf.out.symm, rfl⟩

/-- What Mix answers. -/
def mixL (back cols : List Int) (front : List Bool) (k : Nat) : List Int := (List.range k).map fun i => mixAt cols front i (nth 0 back i)
theorem mixL_length (back cols : List Int) (front : List Bool) (k : Nat) : (mixL back cols front k).length = k := by simp [mixL]
theorem mixL_succ (back cols : List Int) (front : List Bool) (k : Nat) : mixL back cols front (k + 1) = mixL back cols front k ++ [mixAt cols front k (nth 0 back k)] := by simp [mixL, List.range_succ]

theorem Try.infoInt : (Try.prog.info? 3).map (fun i => (i.zero, i.size, i.bytes)) = some (some (.int .i64 0), 1, 8) := by kernel_rfl

theorem own_snoc {α : Type} {f : α → Value} {w : World} {base : Nat} {e : TypeId} {v : Value} {xs : List α} {x : α} (h : w.ownsRow base e 1 v (xs.length + 1) (xs.map f ++ [f x])) : Own f w base e v (xs ++ [x]) := by
  unfold Own; simpa using h

set_option maxHeartbeats 400000 in
theorem line_Mix (a A1 A2 : Option Addr) (c0 c1 c2 : Nat) (back cols : List Int) (front : List Bool) (w : World)
    (hb : back.length * 8 ≤ 140737488351232) (hm1 : cols.length ≤ maxLen) (hm2 : front.length ≤ maxLen)
    (S0 : SlAt (Value.int .i64) 0 w a back) (S1 : SlAt (Value.int .i64) 0 w A1 cols) (S2 : SlAt Value.bool false w A2 front) :
    Calls Try.prog 14 #[.slice a back.length c0, .agg #[.slice A1 cols.length c1, .slice A2 front.length c2]] w fun e w' =>
      ∃ v, e = .returned v ∧ Own (Value.int .i64) w' w.heap.size 3 v (mixL back cols front back.length) ∧ Below w.heap.size w w' := by
  have hm1' := hm1; have hm2' := hm2
  unfold maxLen at hm1' hm2'
  obtain ⟨i0, hi0, hz0, hz1, hz2⟩ := info_parts Try.infoInt
  have hn : ∃ n, min cols.length front.length = n ∧ ((cols.length ≤ front.length ∧ n = cols.length) ∨ (¬ cols.length ≤ front.length ∧ n = front.length)) := ⟨_, rfl, by omega⟩
  obtain ⟨n, hn, hc⟩ := hn
  have HN := Lib.hid hn; clear hn
  rcases hc with ⟨hle, rfl⟩ | ⟨hle, rfl⟩
  all_goals
    go_enter Try.func14, Try.ntmps14
    go_wp2_with (at_make; refine wpList_make_own _ rfl _ _ 25 rfl (w.heap.size + 2) 3 i0 (.int .i64 0) 1 Try.underlying25 hi0 hz0 hz1 .i64 .i64 _ back.length rfl rfl rfl (by rw [hz2]; omega) (by unfold maxLen; omega) (by simp) ?_; intro w0 hown0 hgrow0)
    have kp := (((Blk.new w #[Value.slice A1 cols.length c1, Value.slice A2 front.length c2] 28).alloc _).grown hgrow0 (by simp))
    have kn := ((Blk.new (w.alloc _) _ 3).grown hgrow0 (by simp))
    have b0 : Below w.heap.size w w0 := (((Below.refl _ _).alloc (Nat.le_refl _) _).alloc (by simp) _).grown hgrow0 (by simp; omega) (by simp)
    simp only [World.size_alloc] at kn hown0
    go_loopw [7, 23] (fun v i wr => ∃ k : Nat, k ≤ back.length ∧ i = .int .i64 k ∧ Own (Value.int .i64) wr (w.heap.size + 2) 3 v (mixL back cols front k) ∧ Below w.heap.size w wr ∧
        Blk wr w.heap.size #[Value.slice A1 cols.length c1, Value.slice A2 front.length c2] 28 ∧ Blk wr (w.heap.size + 1) #[Value.int .i64 _] 3) (fun _ i _ => back.length - (intOf i).toNat)
    case atStart => exact ⟨0, by omega, rfl, hown0, b0, kp, kn⟩
    case round =>
      obtain ⟨k, hk, rfl, hown, hbl, kp, kn⟩ := hrel
      have hge := kn.lt
      by_cases hlt : k < back.length
      · obtain ⟨ad, rfl, g0⟩ := S0.atN k hlt
        have g0' : wr.cell? (ad.add k) = some (.int .i64 (nth 0 back k)) := by
          rw [hbl.cell (World.block_lt_of_cell? w _ g0)]; exact g0
        have i1 : (k : Int) < (back.length : Int) := by omega
        have c0' := kp.cell 0; have c1' := kp.cell 1; have cn := kn.cell 0
        simp only [List.getElem?_toArray, List.getElem?_cons_zero, List.getElem?_cons_succ] at c0' c1' cn
        clear g0
        have hl := mixL_length back cols front k
        have HL := Lib.hid hl; clear hl
        go_wp2_with fail
        refine (mix_seen k _ _ _ _ _ _ _ _ cols front _ hm1 hm2 HN.out cn c0' c1' (S1.below hbl) (S2.below hbl)).mono ?_; rintro e w1 ⟨rfl, rfl⟩
        have hby : (k + 1) * 8 ≤ 140737488355328 := by omega
        go_wp2_with (at_builtin; refine wpList_app1 (f := Value.int .i64) rfl _ _ 25 rfl (w.heap.size + 2) 3 i0 (.int .i64 0) 8 Try.underlying25 hi0 hz0 hz1 hz2 rfl _ _ rfl (hown.alloc _) wr.heap.size 1 (mixAt cols front k (nth 0 back k)) rfl (by simp) rfl (by decide) (by rw [HL.out]; exact hby) (by simp; omega) ?_; intro v1 w1 hown1 hg1)
        have kp1 := (kp.alloc _).grown hg1 (by intro h; have := hown.ge _ h.symm; omega)
        have kn1 := (kn.alloc _).grown hg1 (by intro h; have := hown.ge _ h.symm; omega)
        have hb1 : Below w.heap.size w w1 := (hbl.alloc (by omega) _).grown hg1 (by simp; omega) (fun b hb => by have := hown.ge _ hb; omega)
        rw [← mixL_succ] at hown1
        clear hown hbl kp kn c0' c1' cn g0' hg1 hge
        go_wp2
        go_roundw
        case rel => exact ⟨k + 1, by omega, by go_num, hown1, hb1, kp1, kn1⟩
        case measure => simp [intOf]; omega
      · obtain rfl : k = back.length := by omega
        go_wp2
        go_ret
        exact ⟨_, rfl, ⟨hown.1, hown.2.imp id (fun ⟨g, cap, cur, h1, h2, h3⟩ => ⟨g, cap, cur, h1, by omega, h3⟩)⟩, hbl⟩

end Go.Proofs.Ytbjjjgmcdabkhaa
