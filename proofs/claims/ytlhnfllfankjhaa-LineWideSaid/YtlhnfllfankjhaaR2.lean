/- A region that draws its order and holds two operations that write, one behind the other: all others read. -/
import Derived.Test.YtlhnfllfankjhaaRl
namespace Go.Proofs.Ytlhnfllfankjhaa
open Go Go.RowKit
set_option linter.unusedSimpArgs false
set_option linter.unusedVariables false

section
variable {P : Program} {ops : Array Oper} {md : Region.Mode} {k1 k2 i : Nat} {D0 D1 D2 : World → Prop} {o : Oper} {v : Value} {a : Act}

def P2 (md : Region.Mode) (ops : Array Oper) (k1 k2 : Nat) (D0 D1 D2 : World → Prop) (L : Array Bool) (w : World) : Prop :=
  L.size = ops.size ∧ ClosedL md ops L ∧ (L.getD k1 false = false → D0 w) ∧ (L.getD k1 false = true → L.getD k2 false = false → D1 w) ∧ (L.getD k2 false = true → D2 w)

theorem ready_false {L : Array Bool} (hr : i ∈ Region.ready md ops L) : L.getD i false = false := getD_false_of (ready_lt hr).2

theorem YL.other2 (hg : Region.wanted o (yielded ops a.tmps) = true) (h1 : i ≠ k1) (h2 : i ≠ k2) (h : ∀ w, (D0 w ∨ D1 w ∨ D2 w) → lUpon P (fun w' => w' = w) v ((execOp a.eval o).run P w)) : YL P md ops (P2 md ops k1 k2 D0 D1 D2) i o v a := by
  refine .inl ⟨hg, fun L w hr hC => ?_⟩
  obtain ⟨hz, hc, ha, hb, hd⟩ := hC
  have hD : D0 w ∨ D1 w ∨ D2 w := by
    cases e2 : L.getD k2 false with
    | true => exact .inr (.inr (hd e2))
    | false =>
      cases e1 : L.getD k1 false with
      | true => exact .inr (.inl (hb e1 e2))
      | false => exact .inl (ha e1)
  have e : P2 md ops k1 k2 D0 D1 D2 (L.setIfInBounds i true) w :=
    ⟨by simpa using hz, hc.set hr, by rw [getD_set_ne false h1]; exact ha, by rw [getD_set_ne false h1, getD_set_ne false h2]; exact hb, by rw [getD_set_ne false h2]; exact hd⟩
  have h3 := h w hD
  generalize (execOp a.eval o).run P w = r at *
  cases r with
  | ok n w' =>
    cases n <;> simp only [lUpon] at h3 ⊢
    case value u => obtain ⟨rfl, rfl⟩ := h3; exact ⟨e, rfl⟩
    case skip => obtain ⟨rfl, rfl⟩ := h3; exact ⟨e, rfl⟩
    case enter f args => exact h3.mono fun _ w'' ⟨he, hw⟩ => ⟨he, by rw [hw]; exact e⟩
  | halt x w' => simp only [lUpon] at h3

theorem YL.first2 (hg : Region.wanted o (yielded ops a.tmps) = true) (hne : k1 ≠ k2) (hw : Region.waitsFor md ops k2 k1 = true) (h : ∀ w, D0 w → lUpon P D1 v ((execOp a.eval o).run P w)) : YL P md ops (P2 md ops k1 k2 D0 D1 D2) k1 o v a := by
  refine .inl ⟨hg, fun L w hr hC => ?_⟩
  obtain ⟨hz, hc, ha, hb, hd⟩ := hC
  have hf := ready_false hr
  obtain ⟨o2, ho2, e2, he2, hb2, hon⟩ := Region.waitsFor_spec hw
  have hk2 : L.getD k2 false = false := by
    cases e : L.getD k2 false with
    | false => rfl
    | true => have := hc k2 o2 ho2 e e2 he2 hb2; rw [hon, hf] at this; cases this
  have e : ∀ w', D1 w' → P2 md ops k1 k2 D0 D1 D2 (L.setIfInBounds k1 true) w' := fun w' hw' =>
    ⟨by simpa using hz, hc.set hr, by rw [getD_set_self false (by have := (ready_lt hr).1; omega)]; (intro hh; cases hh), fun _ _ => hw', by rw [getD_set_ne false hne, hk2]; (intro hh; cases hh)⟩
  have h3 := h w (ha hf)
  generalize (execOp a.eval o).run P w = r at *
  cases r with
  | ok n w' =>
    cases n <;> simp only [lUpon] at h3 ⊢
    case value u => exact ⟨e _ h3.1, h3.2⟩
    case skip => exact ⟨e _ h3.1, h3.2⟩
    case enter f args => exact h3.mono fun _ w'' ⟨he, hw⟩ => ⟨he, e _ hw⟩
  | halt x w' => simp only [lUpon] at h3

theorem YL.second2 (hg : Region.wanted o (yielded ops a.tmps) = true) (hne : k1 ≠ k2) (hw : Region.waitsFor md ops k2 k1 = true) (h : ∀ w, D1 w → lUpon P D2 v ((execOp a.eval o).run P w)) : YL P md ops (P2 md ops k1 k2 D0 D1 D2) k2 o v a := by
  refine .inl ⟨hg, fun L w hr hC => ?_⟩
  obtain ⟨hz, hc, ha, hb, hd⟩ := hC
  have hf := ready_false hr
  obtain ⟨o2, ho2, e2, he2, hb2, hon⟩ := Region.waitsFor_spec hw
  have hk1 : L.getD k1 false = true := by
    obtain ⟨_, o', ho', hall⟩ := mem_ready.1 hr
    obtain rfl : o2 = o' := Option.some.inj (ho2.symm.trans ho')
    have := hall e2 he2 hb2
    rwa [hon] at this
  have e : ∀ w', D2 w' → P2 md ops k1 k2 D0 D1 D2 (L.setIfInBounds k2 true) w' := fun w' hw' =>
    ⟨by simpa using hz, hc.set hr, by rw [getD_set_ne false (Ne.symm hne), hk1]; (intro hh; cases hh), by rw [getD_set_self false (by have := (ready_lt hr).1; omega)]; (intro _ hh; cases hh), fun _ => hw'⟩
  have h3 := h w (hb hk1 hf)
  generalize (execOp a.eval o).run P w = r at *
  cases r with
  | ok n w' =>
    cases n <;> simp only [lUpon] at h3 ⊢
    case value u => exact ⟨e _ h3.1, h3.2⟩
    case skip => exact ⟨e _ h3.1, h3.2⟩
    case enter f args => exact h3.mono fun _ w'' ⟨he, hw⟩ => ⟨he, e _ hw⟩
  | halt x w' => simp only [lUpon] at h3

theorem wp2_other {Q : Act → Prop} {rest : List Oper} (hg : Region.wanted o (yielded ops a.tmps) = true) (h1 : i ≠ k1) (h2 : i ≠ k2)
    (h : ∀ K : Act → Prop, (∀ a, wpL P md ops (P2 md ops k1 k2 D0 D1 D2) Q rest (i + 1) a → K a) → ∃ v, (∀ w, (D0 w ∨ D1 w ∨ D2 w) → lUpon P (fun w' => w' = w) v ((execOp a.eval o).run P w)) ∧ K (a.put o.dst v)) : wpL P md ops (P2 md ops k1 k2 D0 D1 D2) Q (o :: rest) i a :=
  let ⟨v, h4, h3⟩ := h _ (fun _ h => h)
  ⟨v, YL.other2 hg h1 h2 h4, h3⟩
theorem wp2_first {Q : Act → Prop} {rest : List Oper} (hg : Region.wanted o (yielded ops a.tmps) = true) (hne : k1 ≠ k2) (hw : Region.waitsFor md ops k2 k1 = true)
    (h : ∃ v, (∀ w, D0 w → lUpon P D1 v ((execOp a.eval o).run P w)) ∧ wpL P md ops (P2 md ops k1 k2 D0 D1 D2) Q rest (k1 + 1) (a.put o.dst v)) : wpL P md ops (P2 md ops k1 k2 D0 D1 D2) Q (o :: rest) k1 a :=
  let ⟨v, h4, h3⟩ := h
  ⟨v, YL.first2 hg hne hw h4, h3⟩
theorem wp2_second {Q : Act → Prop} {rest : List Oper} (hg : Region.wanted o (yielded ops a.tmps) = true) (hne : k1 ≠ k2) (hw : Region.waitsFor md ops k2 k1 = true)
    (h : ∃ v, (∀ w, D1 w → lUpon P D2 v ((execOp a.eval o).run P w)) ∧ wpL P md ops (P2 md ops k1 k2 D0 D1 D2) Q rest (k2 + 1) (a.put o.dst v)) : wpL P md ops (P2 md ops k1 k2 D0 D1 D2) Q (o :: rest) k2 a :=
  let ⟨v, h4, h3⟩ := h
  ⟨v, YL.second2 hg hne hw h4, h3⟩

/-- The region. -/
theorem wp_region_two {id : Nat} {Q : Exit → Act → World → Prop} {W : World} {l : List Oper} (k1 k2 : Nat) (D0 D1 D2 : World → Prop) (hm : P.follows .mixedOrders = true) (hB : Region.lexB .any l.toArray = true) (hE : edgesB .any l.toArray = true)
    (hk : k2 < l.length) (hD : D0 W.drew)
    (h : wpL P .any l.toArray (P2 .any l.toArray k1 k2 D0 D1 D2) (fun a' => ∀ w', D2 w' → Q .normal a' w') l 0 a) : (Code.region id l.toArray true).wp P Q a W := by
  have hmono : ∀ (C : Array Bool → World → Prop) (K K' : Act → Prop), (∀ a, K a → K' a) → ∀ (l' : List Oper) (j : Nat) (a : Act), wpL P .any l.toArray C K l' j a → wpL P .any l.toArray C K' l' j a := by
    intro C K K' hK l'
    induction l' with
    | nil => intro j a h; exact hK _ h
    | cons o l' ih => intro j a ⟨v, h1, h2⟩; exact ⟨v, h1, ih _ _ h2⟩
  refine wp_region_L (P2 .any l.toArray k1 k2 D0 D1 D2) hm hB ?_ (hmono _ _ _ ?_ _ _ _ h)
  · refine ⟨by simp, ?_, fun _ => hD, ?_, ?_⟩
    · intro j oj _ hl; rw [getD_replicate_false] at hl; cases hl
    · intro h; rw [getD_replicate_false] at h; cases h
    · intro h; rw [getD_replicate_false] at h; cases h
  · intro a' hq L w' hr hC
    refine hq w' (hC.2.2.2.2 ?_)
    have h1 := none_left hE hr (k2 + 1) k2 (by omega) (by simpa using hk)
    have hs : k2 < L.size := by rw [hC.1]; simpa using hk
    simp [hs] at h1 ⊢; exact h1
end

end Go.Proofs.Ytlhnfllfankjhaa
