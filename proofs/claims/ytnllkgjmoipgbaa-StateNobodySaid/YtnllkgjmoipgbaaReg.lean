/- A region that draws its order: one walk in the text's order serves every order, where each operation has ONE value whenever it comes up. The class of worlds hangs on which operations have come up: so an allocation and a store may be among them. -/
import Derived.Test.YtnllkgjmoipgbaaBase
import Derived.Still
import Derived.StillTail
namespace Go.Proofs.Ytnllkgjmoipgbaa
open Go Go.RowKit
set_option linter.unusedSimpArgs false
set_option linter.unusedVariables false

section
variable {P : Program} {ops : Array Oper} {md : Region.Mode} {C : Array Bool → World → Prop}

/-- What an operation's run must come to: the value v, in a world of C'. -/
def lUpon (P : Program) (C' : World → Prop) (v : Value) : Result Next → Prop
  | .ok (.value u) w' => C' w' ∧ u = v
  | .ok .skip w' => C' w' ∧ v = undef
  | .ok (.enter f args) w' => Calls P f args w' (fun e w'' => e = .returned v ∧ C' w'')
  | _ => False

/-- Operation i, in state a, has the value v whenever it may come up. -/
def YL (P : Program) (md : Region.Mode) (ops : Array Oper) (C : Array Bool → World → Prop) (i : Nat) (o : Oper) (v : Value) (a : Act) : Prop :=
  (Region.wanted o (yielded ops a.tmps) = true ∧ ∀ L w, i ∈ Region.ready md ops L → C L w → lUpon P (C (L.setIfInBounds i true)) v ((execOp a.eval o).run P w)) ∨
  (Region.wanted o (yielded ops a.tmps) = false ∧ v = undef ∧ ∀ L w, i ∈ Region.ready md ops L → C L w → C (L.setIfInBounds i true) w)

theorem YL.of_same {i : Nat} {o : Oper} {v : Value} {a a' : Act} (h : YL P md ops C i o v a) (he : execOp a'.eval o = execOp a.eval o)
    (hw : Region.wanted o (yielded ops a'.tmps) = Region.wanted o (yielded ops a.tmps)) : YL P md ops C i o v a' := by
  unfold YL at *; rw [he, hw]; exact h

def qL (P : Program) (md : Region.Mode) (ops : Array Oper) (C : Array Bool → World → Prop) (i : Nat) (K : Act → Prop) (a : Act) : Prop :=
  ∀ o, ops[i]? = some o → ∃ v, YL P md ops C i o v a ∧ K (a.put o.dst v)

theorem qL_mono {i : Nat} {a : Act} {K K' : Act → Prop} (h : ∀ a, K a → K' a) (hh : qL P md ops C i K a) : qL P md ops C i K' a :=
  fun o ho => let ⟨v, h1, h2⟩ := hh o ho; ⟨v, h1, h _ h2⟩

def wpAnyL (P : Program) (md : Region.Mode) (ops : Array Oper) (C : Array Bool → World → Prop) (Q : Act → Prop) : Nat → Array Bool → Act → Prop
  | 0, L, a => Region.ready md ops L = [] ∧ Q a
  | fuel + 1, L, a => (Region.ready md ops L = [] → Q a) ∧ ∀ i ∈ Region.ready md ops L, qL P md ops C i (wpAnyL P md ops C Q fuel (L.setIfInBounds i true)) a

theorem wpOp_of_qL {i : Nat} {L : Array Bool} {a : Act} {w : World} {K : Act → Prop} {K' : Act → World → Prop} {Q : Exit → Act → World → Prop} (hr : i ∈ Region.ready md ops L) (hC : C L w)
    (h : ∀ a' w', C (L.setIfInBounds i true) w' → K a' → K' a' w') (hh : qL P md ops C i K a) : wpOp P ops Q i K' a w := by
  obtain ⟨_, o, ho, _⟩ := mem_ready.1 hr
  obtain ⟨v, hy, hK⟩ := hh o ho
  unfold wpOp
  simp only [ho]
  rcases hy with ⟨hw, hv⟩ | ⟨hw, rfl, hv⟩
  · simp only [hw, if_true]
    refine .inl ?_
    have h3 := hv L w hr hC
    unfold Oper.wp
    generalize (execOp a.eval o).run P w = r at *
    cases r with
    | ok n w' =>
      cases n <;> simp only [lUpon] at h3 <;> simp only [Oper.upon]
      case value u => obtain ⟨h4, rfl⟩ := h3; exact h _ _ h4 hK
      case skip => obtain ⟨h4, rfl⟩ := h3; exact h _ _ h4 hK
      case enter f args => exact h3.mono fun e w'' ⟨he, hc⟩ => by subst he; exact h _ _ hc hK
    | halt x w' => simp only [lUpon] at h3
  · simp only [hw, Bool.false_eq_true, if_false]
    exact h _ _ (hv L w hr hC) hK

theorem wpAny_of_L {Q : Act → Prop} {Q' : Exit → Act → World → Prop} (hQ : ∀ L a w, Region.ready md ops L = [] → C L w → Q a → Q' .normal a w) : ∀ (fuel : Nat) (L : Array Bool) (a : Act) (w : World), C L w →
    wpAnyL P md ops C Q fuel L a → wpAny P md ops Q' fuel L a w
  | 0, L, _, _, hC, h => ⟨h.1, hQ L _ _ h.1 hC h.2⟩
  | fuel + 1, L, _, _, hC, h => ⟨fun h0 => hQ L _ _ h0 hC (h.1 h0), fun i hi => wpOp_of_qL hi hC (fun a' w' hc hk => wpAny_of_L hQ fuel _ a' w' hc hk) (h.2 i hi)⟩

theorem qL_put {i j : Nat} {oi oj : Oper} {v : Value} (hj : ops[j]? = some oj) (hap : oi.apart ops oj = true)
    (hsi : ∀ cs b, oi.op ≠ .select cs b) (hsj : ∀ cs b, oj.op ≠ .select cs b) {K : Act → Prop} {a : Act}
    (hy : YL P md ops C i oi v a) (h : qL P md ops C j K (a.put oi.dst v)) : qL P md ops C j (fun a' => YL P md ops C i oi v a' ∧ K (a'.put oi.dst v)) a := by
  obtain ⟨h1, h2, h3⟩ := Oper.apart_spec hap
  intro o ho
  obtain rfl : oj = o := Option.some.inj (hj.symm.trans ho)
  obtain ⟨u, hu, hK⟩ := h oj hj
  refine ⟨u, hu.of_same (execOp_put oj hsj a oi.dst v h1).symm (wanted_put oj a oi.dst v h1).symm, hy.of_same (execOp_put oi hsi a oj.dst u h3) (wanted_put oi a oj.dst u h3), ?_⟩
  rw [← Act.put_comm a v u h2]; exact hK

theorem wpAnyL_first {Q : Act → Prop} {i : Nat} {oi : Oper} {v : Value} (hi : ops[i]? = some oi) (hsel : ∀ (j : Nat) (o : Oper) cs b, ops[j]? = some o → o.op ≠ .select cs b) :
    ∀ (fuel : Nat) (L : Array Bool) (a : Act),
      (∀ j oj, ops[j]? = some oj → j ≠ i → L.getD j true = false → (∀ e ∈ oj.after, Region.binds md e = true → e.on ≠ i) → oi.apart ops oj = true) →
      i ∈ Region.ready md ops L → YL P md ops C i oi v a →
      wpAnyL P md ops C Q fuel (L.setIfInBounds i true) (a.put oi.dst v) → wpAnyL P md ops C Q (fuel + 1) L a := by
  have own : ∀ (K : Act → Prop) (a : Act), YL P md ops C i oi v a → K (a.put oi.dst v) → qL P md ops C i K a := by
    intro K a hy hK o ho
    obtain rfl : oi = o := Option.some.inj (hi.symm.trans ho)
    exact ⟨v, hy, hK⟩
  intro fuel
  induction fuel with
  | zero =>
    intro L a _ hr hy H
    refine ⟨fun h => (by rw [h] at hr; cases hr), fun j hj => ?_⟩
    by_cases hji : j = i
    · subst hji; exact own _ _ hy H
    · have := ready_mono hj hji
      rw [H.1] at this
      cases this
  | succ fuel ih =>
    intro L a hfree hr hy H
    refine ⟨fun h => (by rw [h] at hr; cases hr), fun j hj => ?_⟩
    by_cases hji : j = i
    · subst hji; exact own _ _ hy H
    · have h1 := H.2 j (ready_mono hj hji)
      obtain ⟨hjun, oj, hoj, hall⟩ := mem_ready.1 hj
      have hnot : ∀ e ∈ oj.after, Region.binds md e = true → e.on ≠ i := fun e he hb heq => by
        have h1 := hall e he hb
        have h0 := (mem_ready.1 hr).1
        rw [heq] at h1
        rcases Nat.lt_or_ge i L.size with h' | h'
        · simp [h'] at h0 h1; rw [h0] at h1; cases h1
        · simp [Array.getElem?_eq_none h'] at h1
      have h2 := qL_put hoj (hfree j oj hoj hji hjun hnot) (fun cs b => hsel i oi cs b hi) (fun cs b => hsel j oj cs b hoj) hy h1
      have hfree' : ∀ k ok, ops[k]? = some ok → k ≠ i → (L.setIfInBounds j true).getD k true = false →
          (∀ e ∈ ok.after, Region.binds md e = true → e.on ≠ i) → oi.apart ops ok = true := fun k ok hk hki hun hno => by
        refine hfree k ok hk hki ?_ hno
        by_cases hjk : j = k
        · subst hjk; exact hjun
        · rw [getD_set_ne true hjk] at hun; exact hun
      refine qL_mono (fun a' h3 => ih (L.setIfInBounds j true) a' hfree' (ready_mono hr (Ne.symm hji)) h3.1 ?_) h2
      rw [Array.setIfInBounds_comm _ _ hji]
      exact h3.2

/-- The walk in the text's order. -/
def wpL (P : Program) (md : Region.Mode) (ops : Array Oper) (C : Array Bool → World → Prop) (Q : Act → Prop) : List Oper → Nat → Act → Prop
  | [], _, a => Q a
  | o :: rest, k, a => ∃ v, YL P md ops C k o v a ∧ wpL P md ops C Q rest (k + 1) (a.put o.dst v)

theorem wpAnyL_lex {Q : Act → Prop} (hs : Region.noSelect ops = true) : ∀ (l : List Oper) (k : Nat) (L : Array Bool) (a : Act), (∀ j, l[j]? = ops[k + j]?) →
    Region.lexFrom md ops l.length k L = true → wpL P md ops C Q l k a → wpAnyL P md ops C Q l.length L a
  | [], _, _, _, _, hB, h => ⟨by simpa [Region.lexFrom] using hB, h⟩
  | o :: l, k, L, a, hl, hB, h => by
    have h0 : ops[k]? = some o := by simpa using (hl 0).symm
    simp only [List.length_cons, Region.lexFrom, Bool.and_eq_true] at hB
    obtain ⟨⟨hr, hf⟩, hB'⟩ := hB
    obtain ⟨v, hy, hK⟩ := h
    exact wpAnyL_first h0 (Region.noSelect_spec hs) l.length L a (Region.free_spec h0 hf) (by simpa using hr) hy
      (wpAnyL_lex hs l (k + 1) _ _ (fun j => by have := hl (j + 1); simpa [Nat.add_assoc, Nat.add_comm 1 j] using this) hB' hK)

theorem wp_region_L {id : Nat} {Q : Exit → Act → World → Prop} {a : Act} {w : World} {l : List Oper} (C : Array Bool → World → Prop) (hm : P.follows .mixedOrders = true) (hB : Region.lexB .any l.toArray = true) (hC : C (Array.replicate l.length false) w.drew)
    (h : wpL P .any l.toArray C (fun a' => ∀ L w', Region.ready .any l.toArray L = [] → C L w' → Q .normal a' w') l 0 a) : (Code.region id l.toArray true).wp P Q a w := by
  simp only [Region.lexB, Bool.and_eq_true] at hB
  refine wp_region_any hm (wpAny_of_L (C := C) (Q := fun a' => ∀ L w', Region.ready .any l.toArray L = [] → C L w' → Q .normal a' w') (fun L _ w' hr hw' h => h L w' hr hw') _ _ _ _ (by simpa using hC) ?_)
  have := wpAnyL_lex (C := C) (md := .any) hB.1 l 0 (Array.replicate l.length false) a (by simp) (by simpa using hB.2) h
  simpa using this

/-! ### The class for an allocation (number k) and a store (number s, the last): three kinds of worlds, one behind the other -/
def ClosedL (md : Region.Mode) (ops : Array Oper) (L : Array Bool) : Prop := ∀ j oj, ops[j]? = some oj → L.getD j false = true → ∀ e ∈ oj.after, Region.binds md e = true → L.getD e.on false = true
def Ph (md : Region.Mode) (ops : Array Oper) (k s : Nat) (D0 D1 D2 : World → Prop) (L : Array Bool) (w : World) : Prop :=
  L.size = ops.size ∧ ClosedL md ops L ∧ (L.getD s true = false → (L.getD k false = false → D0 w) ∧ (L.getD k false = true → D1 w)) ∧ (L.getD s true = true → (∀ j, j < ops.size → L.getD j true = true) ∧ D2 w)

theorem ClosedL.set {L : Array Bool} {i : Nat} (h : ClosedL md ops L) (hr : i ∈ Region.ready md ops L) : ClosedL md ops (L.setIfInBounds i true) := by
  intro j oj hj hl e he hb
  obtain ⟨_, oi, hoi, hall⟩ := mem_ready.1 hr
  by_cases hij : i = j
  · subst hij
    obtain rfl : oj = oi := Option.some.inj (hj.symm.trans hoi)
    exact getD_set_true (hall e he hb)
  · rw [getD_set_ne false hij] at hl
    exact getD_set_true (h j oj hj hl e he hb)

theorem ready_lt {L : Array Bool} {i : Nat} (hr : i ∈ Region.ready md ops L) : i < ops.size ∧ L.getD i true = false := by
  obtain ⟨h, o, ho, _⟩ := mem_ready.1 hr
  exact ⟨(Array.getElem?_eq_some_iff.1 ho).1, h⟩
theorem getD_false_of {L : Array Bool} {i : Nat} (h : L.getD i true = false) : L.getD i false = false := getD_both h
theorem getD_set_self {L : Array Bool} {i : Nat} (d : Bool) (h : i < L.size) : (L.setIfInBounds i true).getD i d = true := by simp [h]

/-- What a head operation's run comes to: a value, and the world it got, but for draws. -/
def hUpon (P : Program) (w : World) (v : Value) : Result Next → Prop
  | .ok (.value u) w' => w' = w ∧ u = v
  | .ok .skip w' => w' = w ∧ v = undef
  | .ok (.enter f args) w' => w' = w ∧ Calls P f args w (fun e w'' => e = .returned v ∧ ∃ n, w'' = w.drewN n)
  | _ => False

section
variable {k s i : Nat} {D0 D1 D2 : World → Prop} {o : Oper} {v : Value} {a : Act}

theorem Ph.other {L : Array Bool} {w w' : World} (h : Ph md ops k s D0 D1 D2 L w) (hr : i ∈ Region.ready md ops L) (hk : i ≠ k) (hs : i ≠ s) (h0 : D0 w → D0 w') (h1 : D1 w → D1 w') : Ph md ops k s D0 D1 D2 (L.setIfInBounds i true) w' := by
  obtain ⟨hz, hc, ha, hb⟩ := h
  obtain ⟨hlt, hun⟩ := ready_lt hr
  refine ⟨by simpa using hz, hc.set hr, ?_, ?_⟩
  · intro hsf
    rw [getD_set_ne true hs] at hsf
    rw [getD_set_ne false hk]
    exact ⟨fun h => h0 ((ha hsf).1 h), fun h => h1 ((ha hsf).2 h)⟩
  · intro hst
    rw [getD_set_ne true hs] at hst
    have := (hb hst).1 i hlt
    rw [this] at hun; cases hun

theorem Ph.head {L : Array Bool} {w : World} (h : Ph md ops k s D0 D1 D2 L w) (hr : i ∈ Region.ready md ops L) : D0 w ∨ D1 w := by
  obtain ⟨hz, hc, ha, hb⟩ := h
  obtain ⟨hlt, hun⟩ := ready_lt hr
  cases hst : L.getD s true with
  | true => have := (hb hst).1 i hlt; rw [this] at hun; cases hun
  | false =>
    cases hkL : L.getD k false with
    | true => exact .inr ((ha hst).2 hkL)
    | false => exact .inl ((ha hst).1 hkL)

theorem YL.head (hg : Region.wanted o (yielded ops a.tmps) = true) (hk : i ≠ k) (hs : i ≠ s) (h0 : ∀ w n, D0 w → D0 (w.drewN n)) (h1 : ∀ w n, D1 w → D1 (w.drewN n))
    (h : ∀ w, (D0 w ∨ D1 w) → hUpon P w v ((execOp a.eval o).run P w)) : YL P md ops (Ph md ops k s D0 D1 D2) i o v a := by
  refine .inl ⟨hg, fun L w hr hC => ?_⟩
  have hstep : ∀ n, Ph md ops k s D0 D1 D2 (L.setIfInBounds i true) (w.drewN n) := fun n => hC.other hr hk hs (h0 _ _) (h1 _ _)
  have h3 := h w (hC.head hr)
  generalize (execOp a.eval o).run P w = r at *
  cases r with
  | ok n w' =>
    cases n <;> simp only [hUpon] at h3 <;> simp only [lUpon]
    case value u => obtain ⟨rfl, rfl⟩ := h3; exact ⟨hstep 0, rfl⟩
    case skip => obtain ⟨rfl, rfl⟩ := h3; exact ⟨hstep 0, rfl⟩
    case enter f args => obtain ⟨rfl, h4⟩ := h3; exact h4.mono fun e w'' ⟨he, n, hw⟩ => ⟨he, by rw [hw]; exact hstep n⟩
  | halt x w' => simp only [hUpon] at h3

theorem YL.alloc (hg : Region.wanted o (yielded ops a.tmps) = true) (hks : k ≠ s) (h : ∀ w, D0 w → lUpon P D1 v ((execOp a.eval o).run P w)) : YL P md ops (Ph md ops k s D0 D1 D2) k o v a := by
  refine .inl ⟨hg, fun L w hr hC => ?_⟩
  obtain ⟨hz, hc, ha, hb⟩ := hC
  obtain ⟨hlt, hun⟩ := ready_lt hr
  have hsf : L.getD s true = false := by
    cases hst : L.getD s true with
    | true => have := (hb hst).1 k hlt; rw [this] at hun; cases hun
    | false => rfl
  have e : ∀ w', D1 w' → Ph md ops k s D0 D1 D2 (L.setIfInBounds k true) w' := by
    intro w' hd
    refine ⟨by simpa using hz, hc.set hr, ?_, ?_⟩
    · intro _; rw [getD_set_self false (by omega)]; exact ⟨(fun h => nomatch h), fun _ => hd⟩
    · intro hst; rw [getD_set_ne true hks, hsf] at hst; cases hst
  have h3 := h w ((ha hsf).1 (getD_false_of hun))
  generalize (execOp a.eval o).run P w = r at *
  cases r with
  | ok n w' =>
    cases n <;> simp only [lUpon] at h3 ⊢
    case value u => exact ⟨e _ h3.1, h3.2⟩
    case skip => exact ⟨e _ h3.1, h3.2⟩
    case enter f args => exact h3.mono fun _ w'' ⟨he, hw⟩ => ⟨he, e _ hw⟩
  | halt x w' => simp only [lUpon] at h3

theorem YL.last (hg : Region.wanted o (yielded ops a.tmps) = true) (hks : k < s) (hs : s + 1 = ops.size) (hsink : Region.sinkB md ops s = true) (hchain : Region.chainB md ops s = true)
    (h : ∀ w, D1 w → lUpon P D2 v ((execOp a.eval o).run P w)) : YL P md ops (Ph md ops k s D0 D1 D2) s o v a := by
  refine .inl ⟨hg, fun L w hr hC => ?_⟩
  obtain ⟨hz, hc, ha, hb⟩ := hC
  obtain ⟨hlt, hun⟩ := ready_lt hr
  have inv : HeadInv md ops s L := ⟨hz, hc, fun t h1 h2 => by obtain rfl : t = s := by omega
                                                              exact hun⟩
  have all : ∀ j, j < s → L.getD j true = true := by
    intro j hj
    cases hjL : L.getD j true with
    | true => rfl
    | false => exact absurd hr (tail_waits hsink hchain hlt inv (s - j) j rfl hj hjL s (Nat.le_refl _))
  have hkt : L.getD k false = true := by
    have h1 := all k hks
    simp [show k < L.size by omega] at h1 ⊢; exact h1
  have e : ∀ w', D2 w' → Ph md ops k s D0 D1 D2 (L.setIfInBounds s true) w' := by
    intro w' hd
    refine ⟨by simpa using hz, hc.set hr, ?_, ?_⟩
    · intro hsf; rw [getD_set_self true (by omega)] at hsf; cases hsf
    · intro _
      refine ⟨fun j hj => ?_, hd⟩
      by_cases hjs : j = s
      · subst hjs; exact getD_set_self true (by omega)
      · rw [getD_set_ne true (Ne.symm hjs)]; exact all j (by omega)
  have h3 := h w ((ha hun).2 hkt)
  generalize (execOp a.eval o).run P w = r at *
  cases r with
  | ok n w' =>
    cases n <;> simp only [lUpon] at h3 ⊢
    case value u => exact ⟨e _ h3.1, h3.2⟩
    case skip => exact ⟨e _ h3.1, h3.2⟩
    case enter f args => exact h3.mono fun _ w'' ⟨he, hw⟩ => ⟨he, e _ hw⟩
  | halt x w' => simp only [lUpon] at h3

theorem wpL_head {Q : Act → Prop} {rest : List Oper} (hg : Region.wanted o (yielded ops a.tmps) = true) (hk : i ≠ k) (hs : i ≠ s) (h0 : ∀ w n, D0 w → D0 (w.drewN n)) (h1 : ∀ w n, D1 w → D1 (w.drewN n))
    (h : ∀ K : Act → Prop, (∀ a, wpL P md ops (Ph md ops k s D0 D1 D2) Q rest (i + 1) a → K a) → ∃ v, (∀ w, (D0 w ∨ D1 w) → hUpon P w v ((execOp a.eval o).run P w)) ∧ K (a.put o.dst v)) : wpL P md ops (Ph md ops k s D0 D1 D2) Q (o :: rest) i a :=
  let ⟨v, h2, h3⟩ := h _ (fun _ h => h)
  ⟨v, YL.head hg hk hs h0 h1 h2, h3⟩
theorem wpL_alloc {Q : Act → Prop} {rest : List Oper} (hg : Region.wanted o (yielded ops a.tmps) = true) (hks : k ≠ s)
    (h : ∀ K : Act → Prop, (∀ a, wpL P md ops (Ph md ops k s D0 D1 D2) Q rest (k + 1) a → K a) → ∃ v, (∀ w, D0 w → lUpon P D1 v ((execOp a.eval o).run P w)) ∧ K (a.put o.dst v)) : wpL P md ops (Ph md ops k s D0 D1 D2) Q (o :: rest) k a :=
  let ⟨v, h2, h3⟩ := h _ (fun _ h => h)
  ⟨v, YL.alloc hg hks h2, h3⟩
theorem wpL_last {Q : Act → Prop} (hg : Region.wanted o (yielded ops a.tmps) = true) (hks : k < s) (hs : s + 1 = ops.size) (hsink : Region.sinkB md ops s = true) (hchain : Region.chainB md ops s = true)
    (h : ∃ v, (∀ w, D1 w → lUpon P D2 v ((execOp a.eval o).run P w)) ∧ Q (a.put o.dst v)) : wpL P md ops (Ph md ops k s D0 D1 D2) Q [o] s a :=
  let ⟨v, h2, h3⟩ := h
  ⟨v, YL.last hg hks hs hsink hchain h2, h3⟩
theorem call0 {f : FuncId} {args : Array Value} {w : World} (h : Calls P f args w fun e w' => e = .returned v ∧ w = w') : Calls P f args w fun e w' => e = .returned v ∧ ∃ n, w' = w.drewN n :=
  h.mono fun _ _ ⟨he, hw⟩ => ⟨he, 0, hw.symm⟩
attribute [go_sem] hUpon lUpon

/-- Every edge leads back. -/
def edgesB (md : Region.Mode) (ops : Array Oper) : Bool := (List.range ops.size).all fun i => match ops[i]? with
  | some o => o.after.all fun e => !Region.binds md e || decide (e.on < i)
  | none => true
theorem none_left {L : Array Bool} (he : edgesB md ops = true) (hr : Region.ready md ops L = []) : ∀ n, ∀ j, j < n → j < ops.size → L.getD j true = true := by
  intro n
  induction n with
  | zero => intro j hj; omega
  | succ n ih =>
    intro j hj hlt
    cases hjL : L.getD j true with
    | true => rfl
    | false =>
      exfalso
      have hm : j ∈ Region.ready md ops L := by
        refine mem_ready.2 ⟨hjL, ops[j], Array.getElem?_eq_getElem hlt, fun e hee hb => ?_⟩
        have h1 := List.all_eq_true.1 he j (List.mem_range.2 hlt)
        simp only [Array.getElem?_eq_getElem hlt] at h1
        have h2 := Array.all_eq_true_iff_forall_mem.1 h1 e hee
        simp only [hb, Bool.not_true, Bool.false_or, decide_eq_true_eq] at h2
        have h3 := ih e.on (by omega) (by omega)
        rcases Nat.lt_or_ge e.on L.size with hl | hl
        · simp [hl] at h3 ⊢; exact h3
        · exfalso
          have : L.getD j true = true := by simp [show ¬ j < L.size by omega]
          rw [this] at hjL; cases hjL
      rw [hr] at hm; cases hm

/-- The region: the head in the text's order, one allocation in it, and the store at its end. -/
theorem wp_region_alloc_store {id : Nat} {Q : Exit → Act → World → Prop} {w : World} {l : List Oper} (k s : Nat) (D0 D1 D2 : World → Prop) (hm : P.follows .mixedOrders = true) (hB : Region.lexB .any l.toArray = true) (hE : edgesB .any l.toArray = true)
    (hs : s < l.length) (hD : D0 w.drew)
    (h : wpL P .any l.toArray (Ph .any l.toArray k s D0 D1 D2) (fun a' => ∀ w', D2 w' → Q .normal a' w') l 0 a) : (Code.region id l.toArray true).wp P Q a w := by
  have hmono : ∀ (K K' : Act → Prop), (∀ a, K a → K' a) → ∀ (l' : List Oper) (j : Nat) (a : Act), wpL P .any l.toArray (Ph .any l.toArray k s D0 D1 D2) K l' j a → wpL P .any l.toArray (Ph .any l.toArray k s D0 D1 D2) K' l' j a := by
    intro K K' hK l'
    induction l' with
    | nil => intro j a h; exact hK _ h
    | cons o l' ih => intro j a ⟨v, h1, h2⟩; exact ⟨v, h1, ih _ _ h2⟩
  refine wp_region_L (Ph .any l.toArray k s D0 D1 D2) hm hB ?_ (hmono _ _ ?_ _ _ _ h)
  · refine ⟨by simp, ?_, ?_, ?_⟩
    · intro j oj _ hl; rw [getD_replicate_false] at hl; cases hl
    · intro _; exact ⟨fun _ => hD, fun h => by rw [getD_replicate_false] at h; cases h⟩
    · intro h; exfalso; simp [hs] at h
  · intro a' hq L w' hr hC
    refine hq w' ?_
    have h1 := none_left hE hr (s + 1) s (by omega) (by simpa using hs)
    exact (hC.2.2.2 h1).2
end
end

end Go.Proofs.Ytnllkgjmoipgbaa
