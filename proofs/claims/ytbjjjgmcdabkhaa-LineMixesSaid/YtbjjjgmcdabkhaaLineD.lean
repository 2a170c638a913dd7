/- The law LineMixes, walked. -/
import Derived.Test.YtbjjjgmcdabkhaaLineC
import Derived.Deep.RegionHeld3
import Derived.Deep.DrawnRows
namespace Go.Proofs.Ytbjjjgmcdabkhaa
open Go Go.RowKit
set_option linter.unusedSimpArgs false
set_option linter.unusedVariables false
attribute [local go_sem ↓] Go.wp_at_zero Go.wp_at_succ

theorem law19_ints_same (a b : Option Addr) (n ca cb : Nat) (xs : List Int) (w : World) (hn : xs.length = n) (hm : n ≤ maxLen) (hx : SlAt (Value.int .i64) 0 w a xs) (hy : SlAt (Value.int .i64) 0 w b xs) :
    Calls Try.prog 13 #[.slice a n ca, .slice b n cb] w fun e w' => e = .returned (.bool true) ∧ ∃ n, w' = w.drewN n := by
  subst hn
  exact (law19_ints a b ca cb xs xs w hm hm hx hy).mono (fun e w' ⟨he, hw⟩ => ⟨by simpa using he, hw⟩)

theorem keep_step {w x y : World} {h : Nat} {v0 v1 : Value} (c0 : x.cell? ⟨h, 0, none⟩ = some v0) (c1 : x.cell? ⟨h, 1, none⟩ = some v1) (hb : Below w.heap.size w x) (hs : Below x.heap.size x y) :
    y.cell? ⟨h, 0, none⟩ = some v0 ∧ y.cell? ⟨h, 1, none⟩ = some v1 ∧ Below w.heap.size w y :=
  ⟨by rw [hs.cell (World.block_lt_of_cell? x _ c0)]; exact c0, by rw [hs.cell (World.block_lt_of_cell? x _ c1)]; exact c1, hb.trans (hs.mono hb.size)⟩

theorem Blk.new' (w : World) (cs : Array Value) (t : TypeId) {n : Nat} (h : n = w.heap.size) : Blk (w.alloc (.cells cs t)) n cs t := by subst h; exact Blk.new w cs t
theorem SlAt.lit3 {α : Type} {f : α → Value} {d : α} {w : World} {g : Nat} {x0 x1 x2 : α} {t : TypeId} (h : Blk w g #[f x0, f x1, f x2] t) : SlAt f d w (some ⟨g, 0, none⟩) [x0, x1, x2] := by
  intro i hi
  refine ⟨_, rfl, ?_⟩
  have e1 : (Addr.add ⟨g, 0, none⟩ i) = ⟨g, i, none⟩ := by unfold Addr.add; split <;> simp_all
  rw [e1, h.cell]
  match i, hi with
  | 0, _ => rfl
  | 1, _ => rfl
  | 2, _ => rfl

theorem mix_small (g1 g2 g3 : Nat) (w : World) (h1 : Blk w g1 #[Value.int .i64 0, Value.int .i64 5, Value.int .i64 5] 3) (h2 : Blk w g2 #[Value.int .i64 3, Value.int .i64 3, Value.int .i64 3] 3)
    (h3 : Blk w g3 #[Value.bool false, Value.bool false, Value.bool true] 4) :
    Calls Try.prog 14 #[.slice (some ⟨g1, 0, none⟩) 3 3, .agg #[.slice (some ⟨g2, 0, none⟩) 3 3, .slice (some ⟨g3, 0, none⟩) 3 3]] w fun e w' =>
      ∃ a cap, e = .returned (.slice a 3 cap) ∧ SlAt (Value.int .i64) 0 w' a [259, 5, 259] ∧ Below w.heap.size w w' := by
  have em : mixL [0, 5, 5] [3, 3, 3] [false, false, true] 3 = [259, 5, 259] := by unfold mixL mixAt wrap64; decide +kernel
  refine (line_Mix (some ⟨g1, 0, none⟩) (some ⟨g2, 0, none⟩) (some ⟨g3, 0, none⟩) 3 3 3 [0, 5, 5] [3, 3, 3] [false, false, true] w (by decide) (by simp [maxLen]) (by simp [maxLen]) (SlAt.lit3 h1) (SlAt.lit3 h2) (SlAt.lit3 h3)).mono ?_
  rintro e w4 ⟨v4, rfl, ho4, hb4⟩
  obtain ⟨s4, p4, rfl, -, -, hs4⟩ := ho4.sl (d := 0)
  have em' : mixL [0, 5, 5] [3, 3, 3] [false, false, true] (List.length ([0, 5, 5] : List Int)) = [259, 5, 259] := em
  rw [em'] at hs4 ⊢
  exact ⟨s4, p4, rfl, hs4, hb4⟩

theorem ints_small (a : Option Addr) (g c : Nat) (w : World) (h : SlAt (Value.int .i64) 0 w a [259, 5, 259]) (hb : Blk w g #[Value.int .i64 259, Value.int .i64 5, Value.int .i64 259] 3) :
    Calls Try.prog 13 #[.slice a 3 c, .slice (some ⟨g, 0, none⟩) 3 3] w fun e w' => e = .returned (.bool true) ∧ ∃ n, w' = w.drewN n :=
  law19_ints_same a _ 3 c 3 [259, 5, 259] w rfl (by simp [maxLen]) h (SlAt.lit3 hb)

set_option maxRecDepth 100000 in
set_option maxHeartbeats 4000000 in
theorem mixes_walk (a A1 A2 : Option Addr) (c0 c1 c2 : Nat) (back cols : List Int) (front : List Bool) (w : World)
    (hb : back.length * 8 ≤ 140737488351232) (hm1 : cols.length * 8 ≤ 140737488351232) (hm2 : front.length ≤ 140737488351232)
    (S0 : SlAt (Value.int .i64) 0 w a back) (S1 : SlAt (Value.int .i64) 0 w A1 cols) (S2 : SlAt Value.bool false w A2 front) :
    Calls Try.prog 4 #[.slice a back.length c0, .agg #[.slice A1 cols.length c1, .slice A2 front.length c2]] w fun e w' => e = .returned (.bool true) ∧ Below w.heap.size w w' := by
  have k0 := Blk.new w #[Value.slice A1 cols.length c1, Value.slice A2 front.length c2] 28
  have bb : Below w.heap.size w (w.alloc (Obj.cells #[Value.slice A1 cols.length c1, Value.slice A2 front.length c2] 28)) := (Below.refl _ _).alloc (Nat.le_refl _) _
  by_cases hlen : (2000 : Int) < back.length + cols.length + front.length
  · go_enter Try.func4, Try.ntmps4
    go_wp2
    go_ret
    exact ⟨rfl, bb⟩
  · go_enter Try.func4, Try.ntmps4
    go_wp2
    go_loop [5] (fun i => ∃ k : Nat, k ≤ cols.length ∧ i = .int .i64 k) (fun i => cols.length - (intOf i).toNat)
    case atStart => exact ⟨0, by omega, rfl⟩
    case round =>
      obtain ⟨k, hk, rfl⟩ := hrel
      by_cases hlt : k < cols.length
      · obtain ⟨ad, rfl, g0⟩ := (S1.below bb).atN k hlt
        have i1 : (k : Int) < (cols.length : Int) := by omega
        by_cases hgt : (1099511627776 : Int) < nth 0 cols k
        · go_wp2
          go_ret
          exact ⟨rfl, bb⟩
        · go_wp2
          go_round
          case rel => exact ⟨k + 1, by omega, by go_num⟩
          case measure => simp [intOf]; omega
      · go_wp2
        have c0' := k0.cell 0; have c1' := k0.cell 1
        simp only [List.getElem?_toArray, List.getElem?_cons_zero, List.getElem?_cons_succ] at c0' c1'
        generalize w.alloc (Obj.cells #[Value.slice A1 cols.length c1, Value.slice A2 front.length c2] 28) = W at *
        have tok1 : True := trivial
        have tok2 : True := trivial
        have hbm : (mixL back cols front back.length).length ≤ maxLen := by rw [mixL_length]; unfold maxLen; omega
        have HBM := Lib.hid hbm; clear hbm
        go_region_held3 (fun w' => w'.cell? ⟨w.heap.size, 0, none⟩ = some (Value.slice A1 cols.length c1) ∧ w'.cell? ⟨w.heap.size, 1, none⟩ = some (Value.slice A2 front.length c2) ∧ Below w.heap.size w w')
          (first
            | exact keep_step c0' c1' bb (Go.Joins.below_draws _ _ 1)
            | (go_split_ands; first
                | exact keep_step (by assumption) (by assumption) (by assumption) (by assumption)
                | exact keep_step (by assumption) (by assumption) (by assumption) ((Below.refl _ _).alloc (Nat.le_refl _) _)
                | exact keep_step (by assumption) (by assumption) (by assumption) (Go.Joins.below_draws _ _ _)))
          (first
            | (go_at_call 14; have _t := tok1; go_split_ands; refine (line_Mix a A1 A2 c0 c1 c2 back cols front _ (by omega) (by unfold maxLen; omega) (by unfold maxLen; omega) (S0.below (by assumption)) (S1.below (by assumption)) (S2.below (by assumption))).mono ?_; rintro e w1 ⟨v1, rfl, ho1, hb1⟩; obtain ⟨s1, p1, rfl, -, -, hs1⟩ := ho1.sl (d := 0); clear ho1 tok1)
            | (go_at_call 15; go_split_ands; refine (ref19_Mix a A1 A2 c0 c1 c2 back cols front _ (by omega) (by unfold maxLen; omega) (by unfold maxLen; omega) (S0.below (by assumption)) (S1.below (by assumption)) (S2.below (by assumption))).mono ?_; rintro e w2 ⟨v2, rfl, ho2, hb2⟩; obtain ⟨s2, p2, rfl, -, -, hs2⟩ := ho2.sl (d := 0))
            | (go_at_call 13; have _t := tok2; refine (law19_ints_same _ _ _ _ _ (mixL back cols front back.length) _ rfl HBM.out (hs1.below hb2) hs2).mono ?_; rintro e w3 ⟨rfl, nd, rfl⟩; clear tok2)
            | (go_at_call 13; refine (ints_small _ _ _ _ (by first | exact hs4 | exact hs4.below ((Below.refl _ _).alloc (Nat.le_refl _) _)) (by first | exact Blk.new' _ _ _ (by simp) | (refine Blk.below ?_ hb4; repeat (first | exact Blk.new' _ _ _ (by simp) | refine Blk.alloc ?_ _)))).mono ?_; rintro e w5 ⟨rfl, nd5, rfl⟩)
            | (go_at_call 14; refine (mix_small _ _ _ _ (by repeat (first | exact Blk.new' _ _ _ (by simp) | refine Blk.alloc ?_ _)) (by repeat (first | exact Blk.new' _ _ _ (by simp) | refine Blk.alloc ?_ _)) (by repeat (first | exact Blk.new' _ _ _ (by simp) | refine Blk.alloc ?_ _))).mono ?_; rintro e w4 ⟨s4, p4, rfl, hs4, hb4⟩))
        all_goals (go_split_ands; go_wp2; go_ret; exact ⟨rfl, by assumption⟩)

end Go.Proofs.Ytbjjjgmcdabkhaa
