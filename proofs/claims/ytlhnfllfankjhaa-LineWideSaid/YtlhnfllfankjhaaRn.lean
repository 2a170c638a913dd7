/- A region that draws its order and holds operations that write, each behind the one before: all others keep what is known. -/
import Derived.Test.YtlhnfllfankjhaaR2
namespace Go.Proofs.Ytlhnfllfankjhaa
open Go Go.RowKit
set_option linter.unusedSimpArgs false
set_option linter.unusedVariables false

section
variable {P : Program} {ops : Array Oper} {md : Region.Mode} {ks : List Nat} {i : Nat} {D : Nat → World → Prop} {o : Oper} {v : Value} {a : Act}

def Pn (md : Region.Mode) (ops : Array Oper) (ks : List Nat) (D : Nat → World → Prop) (L : Array Bool) (w : World) : Prop :=
  L.size = ops.size ∧ ClosedL md ops L ∧ ∃ m, m ≤ ks.length ∧ (∀ j, j < m → L.getD (ks.getD j 0) false = true) ∧ (∀ j, m ≤ j → j < ks.length → L.getD (ks.getD j 0) false = false) ∧ D m w

/-- Each waits for the one before; none stands twice. -/
def chainedB (md : Region.Mode) (ops : Array Oper) (ks : List Nat) : Bool :=
  (List.range ks.length).all fun j => (j == 0 || Region.waitsFor md ops (ks.getD j 0) (ks.getD (j - 1) 0)) && (List.range ks.length).all fun j' => j == j' || ks.getD j 0 != ks.getD j' 0
theorem chainedB_waits (h : chainedB md ops ks = true) {j : Nat} (hj : j < ks.length) (h0 : j ≠ 0) : Region.waitsFor md ops (ks.getD j 0) (ks.getD (j - 1) 0) = true := by
  have := List.all_eq_true.1 h j (List.mem_range.2 hj)
  simp only [Bool.and_eq_true, Bool.or_eq_true, beq_iff_eq] at this
  exact this.1.resolve_left h0
theorem chainedB_ne (h : chainedB md ops ks = true) {j j' : Nat} (hj : j < ks.length) (hj' : j' < ks.length) (hne : j ≠ j') : ks.getD j 0 ≠ ks.getD j' 0 := by
  have := List.all_eq_true.1 h j (List.mem_range.2 hj)
  simp only [Bool.and_eq_true] at this
  have h2 := List.all_eq_true.1 this.2 j' (List.mem_range.2 hj')
  simp only [Bool.or_eq_true, beq_iff_eq, bne_iff_ne] at h2
  exact h2.resolve_left hne

theorem YL.otherN (hg : Region.wanted o (yielded ops a.tmps) = true) (hi : ∀ j, j < ks.length → i ≠ ks.getD j 0) (h : ∀ m w, m ≤ ks.length → D m w → lUpon P (D m) v ((execOp a.eval o).run P w)) : YL P md ops (Pn md ops ks D) i o v a := by
  refine .inl ⟨hg, fun L w hr hC => ?_⟩
  obtain ⟨hz, hc, m, hm, ha, hb, hd⟩ := hC
  have e : ∀ w', D m w' → Pn md ops ks D (L.setIfInBounds i true) w' := fun w' hw' =>
    ⟨by simpa using hz, hc.set hr, m, hm, fun j hj => by rw [getD_set_ne false (hi j (by omega))]; exact ha j hj, fun j hj hl => by rw [getD_set_ne false (hi j hl)]; exact hb j hj hl, hw'⟩
  have h3 := h m w hm hd
  generalize (execOp a.eval o).run P w = r at *
  cases r with
  | ok n w' =>
    cases n <;> simp only [lUpon] at h3 ⊢
    case value u => exact ⟨e _ h3.1, h3.2⟩
    case skip => exact ⟨e _ h3.1, h3.2⟩
    case enter f args => exact h3.mono fun _ w'' ⟨he, hw⟩ => ⟨he, e _ hw⟩
  | halt x w' => simp only [lUpon] at h3
theorem YL.noN (hg : Region.wanted o (yielded ops a.tmps) = false) (hi : ∀ j, j < ks.length → i ≠ ks.getD j 0) : YL P md ops (Pn md ops ks D) i o undef a := by
  refine .inr ⟨hg, rfl, fun L w hr hC => ?_⟩
  obtain ⟨hz, hc, m, hm, ha, hb, hd⟩ := hC
  exact ⟨by simpa using hz, hc.set hr, m, hm, fun j hj => by rw [getD_set_ne false (hi j (by omega))]; exact ha j hj, fun j hj hl => by rw [getD_set_ne false (hi j hl)]; exact hb j hj hl, hd⟩

theorem YL.turnN {j : Nat} (hg : Region.wanted o (yielded ops a.tmps) = true) (hj : j < ks.length) (hi : i = ks.getD j 0) (hch : chainedB md ops ks = true) (h : ∀ w, D j w → lUpon P (D (j + 1)) v ((execOp a.eval o).run P w)) : YL P md ops (Pn md ops ks D) i o v a := by
  refine .inl ⟨hg, fun L w hr hC => ?_⟩
  obtain ⟨hz, hc, m, hm, ha, hb, hd⟩ := hC
  have hf := ready_false hr
  have hlt := (ready_lt hr).1
  obtain rfl : m = j := by
    rcases Nat.lt_trichotomy m j with h1 | h1 | h1
    · exfalso
      obtain ⟨o2, ho2, e2, he2, hb2, hon⟩ := Region.waitsFor_spec (chainedB_waits hch hj (by omega))
      obtain ⟨_, o', ho', hall⟩ := mem_ready.1 hr
      rw [hi] at ho'
      obtain rfl : o2 = o' := Option.some.inj (ho2.symm.trans ho')
      have := hall e2 he2 hb2
      rw [hon, hb (j - 1) (by omega) (by omega)] at this
      cases this
    · exact h1
    · exfalso
      have := ha j h1
      rw [← hi, hf] at this; cases this
  have e : ∀ w', D (m + 1) w' → Pn md ops ks D (L.setIfInBounds i true) w' := fun w' hw' => by
    refine ⟨by simpa using hz, hc.set hr, m + 1, by omega, fun j' hj' => ?_, fun j' hj' hl => ?_, hw'⟩
    · by_cases hjm : j' = m
      · subst hjm; rw [← hi]; exact getD_set_self false (by omega)
      · rw [getD_set_ne false (by rw [hi]; exact chainedB_ne hch hj (by omega) (Ne.symm hjm))]; exact ha j' (by omega)
    · rw [getD_set_ne false (by rw [hi]; exact chainedB_ne hch hj hl (by omega))]; exact hb j' (by omega) hl
  have h3 := h w hd
  generalize (execOp a.eval o).run P w = r at *
  cases r with
  | ok n w' =>
    cases n <;> simp only [lUpon] at h3 ⊢
    case value u => exact ⟨e _ h3.1, h3.2⟩
    case skip => exact ⟨e _ h3.1, h3.2⟩
    case enter f args => exact h3.mono fun _ w'' ⟨he, hw⟩ => ⟨he, e _ hw⟩
  | halt x w' => simp only [lUpon] at h3

theorem wpN_other {Q : Act → Prop} {rest : List Oper} (hg : Region.wanted o (yielded ops a.tmps) = true) (hi : ∀ j, j < ks.length → i ≠ ks.getD j 0)
    (h : ∀ K : Act → Prop, (∀ a, wpL P md ops (Pn md ops ks D) Q rest (i + 1) a → K a) → ∃ v, (∀ m w, m ≤ ks.length → D m w → lUpon P (D m) v ((execOp a.eval o).run P w)) ∧ K (a.put o.dst v)) : wpL P md ops (Pn md ops ks D) Q (o :: rest) i a :=
  let ⟨v, h4, h3⟩ := h _ (fun _ h => h)
  ⟨v, YL.otherN hg hi h4, h3⟩
theorem wpN_skip {Q : Act → Prop} {rest : List Oper} (hg : Region.wanted o (yielded ops a.tmps) = false) (hi : ∀ j, j < ks.length → i ≠ ks.getD j 0)
    (h : wpL P md ops (Pn md ops ks D) Q rest (i + 1) (a.put o.dst undef)) : wpL P md ops (Pn md ops ks D) Q (o :: rest) i a :=
  ⟨undef, YL.noN hg hi, h⟩
theorem wpN_turn {Q : Act → Prop} {rest : List Oper} (j : Nat) (hg : Region.wanted o (yielded ops a.tmps) = true) (hj : j < ks.length) (hi : i = ks.getD j 0) (hch : chainedB md ops ks = true)
    (h : ∃ v, (∀ w, D j w → lUpon P (D (j + 1)) v ((execOp a.eval o).run P w)) ∧ wpL P md ops (Pn md ops ks D) Q rest (i + 1) (a.put o.dst v)) : wpL P md ops (Pn md ops ks D) Q (o :: rest) i a :=
  let ⟨v, h4, h3⟩ := h
  ⟨v, YL.turnN hg hj hi hch h4, h3⟩

/-- The region. -/
theorem wp_region_n {id : Nat} {Q : Exit → Act → World → Prop} {W : World} {l : List Oper} (ks : List Nat) (D : Nat → World → Prop) (hm : P.follows .mixedOrders = true) (hB : Region.lexB .any l.toArray = true) (hE : edgesB .any l.toArray = true)
    (hk : ks.all (· < l.length) = true) (hD : D 0 W.drew)
    (h : wpL P .any l.toArray (Pn .any l.toArray ks D) (fun a' => ∀ w', D ks.length w' → Q .normal a' w') l 0 a) : (Code.region id l.toArray true).wp P Q a W := by
  have hmono : ∀ (C : Array Bool → World → Prop) (K K' : Act → Prop), (∀ a, K a → K' a) → ∀ (l' : List Oper) (j : Nat) (a : Act), wpL P .any l.toArray C K l' j a → wpL P .any l.toArray C K' l' j a := by
    intro C K K' hK l'
    induction l' with
    | nil => intro j a h; exact hK _ h
    | cons o l' ih => intro j a ⟨v, h1, h2⟩; exact ⟨v, h1, ih _ _ h2⟩
  refine wp_region_L (Pn .any l.toArray ks D) hm hB ?_ (hmono _ _ _ ?_ _ _ _ h)
  · refine ⟨by simp, ?_, 0, Nat.zero_le _, fun j hj => by omega, fun j _ _ => getD_replicate_false _ _, hD⟩
    intro j oj _ hl; rw [getD_replicate_false] at hl; cases hl
  · intro a' hq L w' hr hC
    refine hq w' ?_
    obtain ⟨hz, hc, m, hm', ha, hb, hd⟩ := hC
    rcases Nat.lt_or_ge m ks.length with h1 | h1
    · exfalso
      have hlt : ks.getD m 0 < l.length := by
        have := List.all_eq_true.1 hk (ks.getD m 0) (by rw [List.getD_eq_getElem?_getD, List.getElem?_eq_getElem h1]; exact List.getElem_mem h1)
        simpa using this
      have h2 := none_left hE hr (ks.getD m 0 + 1) (ks.getD m 0) (by omega) (by simpa using hlt)
      have h3 := hb m (Nat.le_refl _) h1
      have hs : ks.getD m 0 < L.size := by rw [hz]; simpa using hlt
      generalize ks.getD m 0 = x at *
      simp [hs] at h2 h3
      rw [h2] at h3; cases h3
    · obtain rfl : m = ks.length := by omega
      exact hd
end

end Go.Proofs.Ytlhnfllfankjhaa
