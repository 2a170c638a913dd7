/- A region that draws its order, whose last operation writes (a store, or a call that does): all ahead of it read, or call what makes memory of its own at most. -/
import Derived.Test.YtnllkgjmoipgbaaReg
import Derived.Test.YtnllkgjmoipgbaaQb
namespace Go.Proofs.Ytnllkgjmoipgbaa
open Go Go.RowKit
set_option linter.unusedSimpArgs false
set_option linter.unusedVariables false

section
variable {P : Program} {ops : Array Oper} {md : Region.Mode} {s i : Nat} {D0 D2 : World → Prop} {o : Oper} {v : Value} {a : Act}

def Pl (md : Region.Mode) (ops : Array Oper) (s : Nat) (D0 D2 : World → Prop) (L : Array Bool) (w : World) : Prop :=
  L.size = ops.size ∧ ClosedL md ops L ∧ (L.getD s true = false → D0 w) ∧ (L.getD s true = true → (∀ j, j < ops.size → L.getD j true = true) ∧ D2 w)

theorem Pl.head {L : Array Bool} {w : World} (h : Pl md ops s D0 D2 L w) (hr : i ∈ Region.ready md ops L) : L.getD s true = false ∧ D0 w := by
  obtain ⟨hz, hc, ha, hb⟩ := h
  obtain ⟨hlt, hun⟩ := ready_lt hr
  cases hst : L.getD s true with
  | true => have := (hb hst).1 i hlt; rw [this] at hun; cases hun
  | false => exact ⟨rfl, ha hst⟩
theorem Pl.other {L : Array Bool} {w w' : World} (h : Pl md ops s D0 D2 L w) (hr : i ∈ Region.ready md ops L) (hs : i ≠ s) (h0 : D0 w') : Pl md ops s D0 D2 (L.setIfInBounds i true) w' := by
  have h1 := h.head hr
  obtain ⟨hz, hc, ha, hb⟩ := h
  refine ⟨by simpa using hz, hc.set hr, fun _ => h0, ?_⟩
  intro hst
  rw [getD_set_ne true hs] at hst
  rw [hst] at h1; cases h1.1

theorem YL.headP (hg : Region.wanted o (yielded ops a.tmps) = true) (hs : i ≠ s) (h : ∀ w, D0 w → lUpon P D0 v ((execOp a.eval o).run P w)) : YL P md ops (Pl md ops s D0 D2) i o v a := by
  refine .inl ⟨hg, fun L w hr hC => ?_⟩
  have h3 := h w (hC.head hr).2
  generalize (execOp a.eval o).run P w = r at *
  cases r with
  | ok n w' =>
    cases n <;> simp only [lUpon] at h3 ⊢
    case value u => exact ⟨hC.other hr hs h3.1, h3.2⟩
    case skip => exact ⟨hC.other hr hs h3.1, h3.2⟩
    case enter f args => exact h3.mono fun _ w'' ⟨he, hw⟩ => ⟨he, hC.other hr hs hw⟩
  | halt x w' => simp only [lUpon] at h3
theorem YL.headNo (hg : Region.wanted o (yielded ops a.tmps) = false) (hs : i ≠ s) : YL P md ops (Pl md ops s D0 D2) i o undef a :=
  .inr ⟨hg, rfl, fun L w hr hC => hC.other hr hs (hC.head hr).2⟩

theorem YL.lastP (hg : Region.wanted o (yielded ops a.tmps) = true) (hs : s + 1 = ops.size) (hsink : Region.sinkB md ops s = true) (hchain : Region.chainB md ops s = true)
    (h : ∀ w, D0 w → lUpon P D2 v ((execOp a.eval o).run P w)) : YL P md ops (Pl md ops s D0 D2) s o v a := by
  refine .inl ⟨hg, fun L w hr hC => ?_⟩
  have hD := (hC.head hr).2
  obtain ⟨hz, hc, ha, hb⟩ := hC
  obtain ⟨hlt, hun⟩ := ready_lt hr
  have inv : HeadInv md ops s L := ⟨hz, hc, fun t h1 h2 => by obtain rfl : t = s := by omega
                                                              exact hun⟩
  have all : ∀ j, j < s → L.getD j true = true := by
    intro j hj
    cases hjL : L.getD j true with
    | true => rfl
    | false => exact absurd hr (tail_waits hsink hchain hlt inv (s - j) j rfl hj hjL s (Nat.le_refl _))
  have e : ∀ w', D2 w' → Pl md ops s D0 D2 (L.setIfInBounds s true) w' := by
    intro w' hd
    refine ⟨by simpa using hz, hc.set hr, ?_, ?_⟩
    · intro hsf; rw [getD_set_self true (by omega)] at hsf; cases hsf
    · intro _
      refine ⟨fun j hj => ?_, hd⟩
      by_cases hjs : j = s
      · subst hjs; exact getD_set_self true (by omega)
      · rw [getD_set_ne true (Ne.symm hjs)]; exact all j (by omega)
  have h3 := h w hD
  generalize (execOp a.eval o).run P w = r at *
  cases r with
  | ok n w' =>
    cases n <;> simp only [lUpon] at h3 ⊢
    case value u => exact ⟨e _ h3.1, h3.2⟩
    case skip => exact ⟨e _ h3.1, h3.2⟩
    case enter f args => exact h3.mono fun _ w'' ⟨he, hw⟩ => ⟨he, e _ hw⟩
  | halt x w' => simp only [lUpon] at h3

theorem wpP_head {Q : Act → Prop} {rest : List Oper} (hg : Region.wanted o (yielded ops a.tmps) = true) (hs : i ≠ s)
    (h : ∀ K : Act → Prop, (∀ a, wpL P md ops (Pl md ops s D0 D2) Q rest (i + 1) a → K a) → ∃ v, (∀ w, D0 w → lUpon P D0 v ((execOp a.eval o).run P w)) ∧ K (a.put o.dst v)) : wpL P md ops (Pl md ops s D0 D2) Q (o :: rest) i a :=
  let ⟨v, h2, h3⟩ := h _ (fun _ h => h)
  ⟨v, YL.headP hg hs h2, h3⟩
theorem wpP_skip {Q : Act → Prop} {rest : List Oper} (hg : Region.wanted o (yielded ops a.tmps) = false) (hs : i ≠ s)
    (h : wpL P md ops (Pl md ops s D0 D2) Q rest (i + 1) (a.put o.dst undef)) : wpL P md ops (Pl md ops s D0 D2) Q (o :: rest) i a :=
  ⟨undef, YL.headNo hg hs, h⟩
theorem wpP_last {Q : Act → Prop} (hg : Region.wanted o (yielded ops a.tmps) = true) (hs : s + 1 = ops.size) (hsink : Region.sinkB md ops s = true) (hchain : Region.chainB md ops s = true)
    (h : ∃ v, (∀ w, D0 w → lUpon P D2 v ((execOp a.eval o).run P w)) ∧ Q (a.put o.dst v)) : wpL P md ops (Pl md ops s D0 D2) Q [o] s a :=
  let ⟨v, h2, h3⟩ := h
  ⟨v, YL.lastP hg hs hsink hchain h2, h3⟩

/-- The region: the head in the text's order, and what writes at its end; D2 is what is known behind it. -/
theorem wp_region_last {id : Nat} {Q : Exit → Act → World → Prop} {W : World} {l : List Oper} (s : Nat) (D2 : World → Prop) (hm : P.follows .mixedOrders = true) (hB : Region.lexB .any l.toArray = true) (hE : edgesB .any l.toArray = true)
    (hs : s < l.length)
    (h : wpL P .any l.toArray (Pl .any l.toArray s (fun w' => Below W.heap.size W w') D2) (fun a' => ∀ w', D2 w' → Q .normal a' w') l 0 a) : (Code.region id l.toArray true).wp P Q a W := by
  have hmono : ∀ (C : Array Bool → World → Prop) (K K' : Act → Prop), (∀ a, K a → K' a) → ∀ (l' : List Oper) (j : Nat) (a : Act), wpL P .any l.toArray C K l' j a → wpL P .any l.toArray C K' l' j a := by
    intro C K K' hK l'
    induction l' with
    | nil => intro j a h; exact hK _ h
    | cons o l' ih => intro j a ⟨v, h1, h2⟩; exact ⟨v, h1, ih _ _ h2⟩
  refine wp_region_L (Pl .any l.toArray s (fun w' => Below W.heap.size W w') D2) hm hB ?_ (hmono _ _ _ ?_ _ _ _ h)
  · refine ⟨by simp, ?_, ?_, ?_⟩
    · intro j oj _ hl; rw [getD_replicate_false] at hl; cases hl
    · intro _; exact (Below.refl _ _).drew
    · intro h; exfalso; simp [hs] at h
  · intro a' hq L w' hr hC
    refine hq w' ?_
    have h1 := none_left hE hr (s + 1) s (by omega) (by simpa using hs)
    exact (hC.2.2.2 h1).2

theorem last_call {f : FuncId} {args : Array Value} {w : World} {v : Value} {D : World → Prop} (h : Calls P f args w fun e w' => e = .returned v ∧ D w') : Calls P f args w fun e w' => e = .returned v ∧ D w' := h
end

end Go.Proofs.Ytnllkgjmoipgbaa
