/- Contracts of the program's functions, and what they rest on, part 3: each function's call returns what its plain form says; no condition but those typed. -/
import Derived.Test.YtnllkgjmoipgbaaGreatDoorK2
import Derived.Maps.AppendAt
import Derived.Laws.CopyOwn
-- SmO
namespace Go.Proofs.YtnllkgjmoipgbaaGreatDoor
open Go Go.RowKit
set_option linter.unusedSimpArgs false
set_option linter.unusedVariables false
set_option maxRecDepth 100000

section
variable {w : World} {l : BusL} {B : BusV}
set_option maxHeartbeats 4000000 in
theorem bus_colours (h : BusAt w l B) (a : Int) : Calls Tryz.prog 65 #[.pointer (some ⟨l.p, 0, none⟩), .int .i64 a] w fun e w' => e = .returned (.int .i64 (B.vce.read a)) ∧ BusAt w' l { B with vce := B.vce.got a } ∧ Tr l.own w w' := by
  have hv := h.ok.vce
  have hg := hv.got a
  have hr := h.vce
  have HC := Lib.hid (fun w => vce_Read B.vce hv a w)
  have hl1 := VceV.length hv.len
  have hl2 := VceV.length hg.len
  have hs1 : (Tryz.prog.info? 40).map (·.size) = some B.vce.cells.length := by rw [hl1]; exact tVce
  have hs2 : (Tryz.prog.info? 40).map (·.size) = some (B.vce.got a).cells.toArray.size := by rw [VceV.size hg.len]; exact tVce
  have hz2 : (Tryz.zeroCells40).size = (B.vce.got a).cells.toArray.size := by rw [VceV.size hg.len]; exact zeroVceSize
  have HO := Lib.hid (VceV.one (v := B.vce.got a))
  have HS1 := Lib.hid hs1
  have HS2 := Lib.hid hs2
  have HZ2 := Lib.hid hz2
  have HP : ∀ w', BusAt w' l B → BusAt (w'.setCells l.p 8483 (B.vce.got a).cells) l { B with vce := B.vce.got a } := fun w' h' =>
    h'.put 10 (vs := (B.vce.got a).cells) (x := B.vce.cells) (B' := { B with vce := B.vce.got a }) (o := 8483) rfl (by rw [hl1, hl2]) (by decide) rfl { h'.ok with vce := hg } rfl rfl
  have HTH : ∀ w', BusAt w' l B → w'.there l.p 8483 (B.vce.got a).cells.toArray.size := fun w' h' => by
    rw [VceV.size hg.len]; exact h'.there 8483 514 (by decide)
  have HPH := Lib.hid HP
  have HTHH := Lib.hid HTH
  have HB := Lib.hid h
  clear h hs1 hs2 hz2 hl1 hl2 HP HTH hg hv
  have HTL := Lib.hid (show (B.vce.got a).cells.toArray.toList = (B.vce.got a).cells from rfl)
  go_enter Tryz.func65, Tryz.ntmps65
  go_wp2_with (first
    | (refine wpList_load_mid rfl 40 _ rfl l.p 8483 (by first | rfl | kernel_rfl) B.vce.cells _ hr Tryz.underlying40 rfl HS1.out ?_))
  refine (HC.out _).mono ?_; rintro e w3 ⟨rfl, b3⟩
  have H3 := HB.out.below b3
  have T3 : Tr l.own w w3 := Tr.of_below0 b3
  have Z := Blk.new w3 Tryz.zeroCells40 40
  have Z2 := Blk.setRow Z (B.vce.got a).cells.toArray
  have b5 : Below w3.heap.size w3 ((w3.alloc (Obj.cells Tryz.zeroCells40 40)).setRow w3.heap.size (B.vce.got a).cells.toArray) := below_setRow (bal (Below.refl _ _)) (Nat.le_refl _) _
  have H5 := H3.below b5
  have T5 := T3.of_below b5
  have th := HTHH.out _ H5
  have HL := Lib.hid (HPH.out _ H5)
  have TL := Lib.hid (Tr.laid (B.vce.got a).cells 8483 (g := l.p) T5 (by unfold BusL.own; simp))
  clear H5 T5 b5 H3 T3 hr HC HPH HTHH b3
  generalize hgc : (B.vce.got a).cells = gc at *
  clear hgc
  go_wp2_with (first
    | (refine wpList_store_row rfl 40 _ _ rfl w3.heap.size gc.toArray rfl rfl 40 Tryz.zeroCells40 Z HS2.out HZ2.out HO.out ?_)
    | (refine wpList_load_row rfl 40 _ rfl w3.heap.size rfl 40 gc.toArray (0, 0) _ Z2 Tryz.underlying40 rfl HS2.out ?_)
    | (refine wpList_store_mid rfl 40 _ _ rfl l.p 8483 gc.toArray (by first | rfl | kernel_rfl) rfl th HS2.out HO.out ?_))
  go_ret
  exact ⟨rfl, HL.out, TL.out⟩
end
end Go.Proofs.YtnllkgjmoipgbaaGreatDoor
-- Rg
namespace Go.Proofs.YtnllkgjmoipgbaaGreatDoor
open Go Go.RowKit
set_option linter.unusedSimpArgs false
set_option linter.unusedVariables false

section
variable {P : Program} {ops : Array Oper} {md : Region.Mode} (Y : Nat → Oper → Value → Act → Prop)

def qY (ops : Array Oper) (i : Nat) (K : Act → Prop) (a : Act) : Prop := ∀ o, ops[i]? = some o → ∃ v, Y i o v a ∧ K (a.put o.dst v)
theorem qY_mono {i : Nat} {a : Act} {K K' : Act → Prop} (h : ∀ a, K a → K' a) (hh : qY Y ops i K a) : qY Y ops i K' a :=
  fun o ho => let ⟨v, h1, h2⟩ := hh o ho; ⟨v, h1, h _ h2⟩
def wpAnyY (md : Region.Mode) (ops : Array Oper) (Q : Act → Prop) : Nat → Array Bool → Act → Prop
  | 0, L, a => Region.ready md ops L = [] ∧ Q a
  | fuel + 1, L, a => (Region.ready md ops L = [] → Q a) ∧ ∀ i ∈ Region.ready md ops L, qY Y ops i (wpAnyY md ops Q fuel (L.setIfInBounds i true)) a
def wpY (Q : Act → Prop) : List Oper → Nat → Act → Prop
  | [], _, a => Q a
  | o :: rest, k, a => ∃ v, Y k o v a ∧ wpY Q rest (k + 1) (a.put o.dst v)
/-- What is laid where an operation does not look changes nothing for it. -/
def StabY (ops : Array Oper) : Prop := ∀ i o v a d u, ops[i]? = some o → (∀ cs b, o.op ≠ .select cs b) → (∀ x, d = some x → x ∉ o.looksAt ops) → (Y i o v (a.put d u) ↔ Y i o v a)

variable {Y}
theorem qY_put (hY : StabY Y ops) {i j : Nat} {oi oj : Oper} {v : Value} (hi : ops[i]? = some oi) (hj : ops[j]? = some oj) (hap : oi.apart ops oj = true)
    (hsi : ∀ cs b, oi.op ≠ .select cs b) (hsj : ∀ cs b, oj.op ≠ .select cs b) {K : Act → Prop} {a : Act}
    (hy : Y i oi v a) (h : qY Y ops j K (a.put oi.dst v)) : qY Y ops j (fun a' => Y i oi v a' ∧ K (a'.put oi.dst v)) a := by
  obtain ⟨h1, h2, h3⟩ := Oper.apart_spec hap
  intro o ho
  obtain rfl : oj = o := Option.some.inj (hj.symm.trans ho)
  obtain ⟨u, hu, hK⟩ := h oj hj
  refine ⟨u, (hY j oj u a oi.dst v hj hsj h1).1 hu, (hY i oi v a oj.dst u hi hsi h3).2 hy, ?_⟩
  rw [← Act.put_comm a v u h2]; exact hK
theorem wpAnyY_first (hY : StabY Y ops) {Q : Act → Prop} {i : Nat} {oi : Oper} {v : Value} (hi : ops[i]? = some oi) (hsel : ∀ (j : Nat) (o : Oper) cs b, ops[j]? = some o → o.op ≠ .select cs b) :
    ∀ (fuel : Nat) (L : Array Bool) (a : Act),
      (∀ j oj, ops[j]? = some oj → j ≠ i → L.getD j true = false → (∀ e ∈ oj.after, Region.binds md e = true → e.on ≠ i) → oi.apart ops oj = true) →
      i ∈ Region.ready md ops L → Y i oi v a →
      wpAnyY Y md ops Q fuel (L.setIfInBounds i true) (a.put oi.dst v) → wpAnyY Y md ops Q (fuel + 1) L a := by
  have own : ∀ (K : Act → Prop) (a : Act), Y i oi v a → K (a.put oi.dst v) → qY Y ops i K a := by
    intro K a hy hK o ho
    obtain rfl : oi = o := Option.some.inj (hi.symm.trans ho)
    exact ⟨v, hy, hK⟩
  intro fuel
  induction fuel with
  | zero =>
    intro L a _ hr hy H
    refine ⟨fun h => (by rw [h] at hr; cases hr), fun j hj => ?_⟩
    by_cases hji : j = i
    · subst hji; exact own _ _ hy H
    · have := ready_mono hj hji
      rw [H.1] at this
      cases this
  | succ fuel ih =>
    intro L a hfree hr hy H
    refine ⟨fun h => (by rw [h] at hr; cases hr), fun j hj => ?_⟩
    by_cases hji : j = i
    · subst hji; exact own _ _ hy H
    · have h1 := H.2 j (ready_mono hj hji)
      obtain ⟨hjun, oj, hoj, hall⟩ := mem_ready.1 hj
      have hnot : ∀ e ∈ oj.after, Region.binds md e = true → e.on ≠ i := fun e he hb heq => by
        have h1 := hall e he hb
        have h0 := (mem_ready.1 hr).1
        rw [heq] at h1
        rcases Nat.lt_or_ge i L.size with h' | h'
        · simp [h'] at h0 h1; rw [h0] at h1; cases h1
        · simp [Array.getElem?_eq_none h'] at h1
      have h2 := qY_put hY hi hoj (hfree j oj hoj hji hjun hnot) (fun cs b => hsel i oi cs b hi) (fun cs b => hsel j oj cs b hoj) hy h1
      have hfree' : ∀ k ok, ops[k]? = some ok → k ≠ i → (L.setIfInBounds j true).getD k true = false →
          (∀ e ∈ ok.after, Region.binds md e = true → e.on ≠ i) → oi.apart ops ok = true := fun k ok hk hki hun hno => by
        refine hfree k ok hk hki ?_ hno
        by_cases hjk : j = k
        · subst hjk; exact hjun
        · rw [getD_set_ne true hjk] at hun; exact hun
      refine qY_mono Y (fun a' h3 => ih (L.setIfInBounds j true) a' hfree' (ready_mono hr (Ne.symm hji)) h3.1 ?_) h2
      rw [Array.setIfInBounds_comm _ _ hji]
      exact h3.2
theorem wpAnyY_lex (hY : StabY Y ops) {Q : Act → Prop} (hs : Region.noSelect ops = true) : ∀ (l : List Oper) (k : Nat) (L : Array Bool) (a : Act), (∀ j, l[j]? = ops[k + j]?) →
    Region.lexFrom md ops l.length k L = true → wpY Y Q l k a → wpAnyY Y md ops Q l.length L a
  | [], _, _, _, _, hB, h => ⟨by simpa [Region.lexFrom] using hB, h⟩
  | o :: l, k, L, a, hl, hB, h => by
    have h0 : ops[k]? = some o := by simpa using (hl 0).symm
    simp only [List.length_cons, Region.lexFrom, Bool.and_eq_true] at hB
    obtain ⟨⟨hr, hf⟩, hB'⟩ := hB
    obtain ⟨v, hy, hK⟩ := h
    exact wpAnyY_first hY h0 (Region.noSelect_spec hs) l.length L a (Region.free_spec h0 hf) (by simpa using hr) hy
      (wpAnyY_lex hY hs l (k + 1) _ _ (fun j => by have := hl (j + 1); simpa [Nat.add_assoc, Nat.add_comm 1 j] using this) hB' hK)
end

section
variable {P : Program} {ops : Array Oper} {md : Region.Mode}
theorem wpOp_lUpon {i : Nat} {o : Oper} {v : Value} {a : Act} {w : World} {C' : World → Prop} {K : Act → World → Prop} {Q : Exit → Act → World → Prop} (ho : ops[i]? = some o) (hw : Region.wanted o (yielded ops a.tmps) = true)
    (h : lUpon P C' v ((execOp a.eval o).run P w)) (hK : ∀ w', C' w' → K (a.put o.dst v) w') : wpOp P ops Q i K a w := by
  unfold wpOp
  simp only [ho, hw, if_true]
  refine .inl ?_
  unfold Oper.wp
  generalize (execOp a.eval o).run P w = r at *
  cases r with
  | ok n w' =>
    cases n <;> simp only [lUpon] at h <;> simp only [Oper.upon]
    case value u => obtain ⟨h4, rfl⟩ := h; exact hK _ h4
    case skip => obtain ⟨h4, rfl⟩ := h; exact hK _ h4
    case enter f args => exact h.mono fun e w'' ⟨he, hc⟩ => by subst he; exact hK _ hc
  | halt x w' => simp only [lUpon] at h

/-- What the law is told of a region: the operations that write, what is known then; the allocation's number and slot, the store's, its row. -/
structure GSpec where
  ks : List Nat
  D : Nat → World → Prop
  S : List Nat
  n : Nat
  k : Nat
  s : Nat
  dk : Tmp
  ty : TypeId
  y : Operand
  zc : Array Value
  cs : Array Value
  T : TypeId
variable {G : GSpec}
def ptrTo (g : Nat) : Value := .pointer (some ⟨g, 0, none⟩)
/-- An operation that does not look at the new block. -/
def YO (P : Program) (md : Region.Mode) (ops : Array Oper) (G : GSpec) (i : Nat) (o : Oper) (v : Value) (a : Act) : Prop :=
  (Region.wanted o (yielded ops a.tmps) = true ∧ ∀ L w, i ∈ Region.ready md ops L → Pn md ops G.ks G.D L w → lUpon P (fun w' => Pn md ops G.ks G.D (L.setIfInBounds i true) w' ∧ Tr G.S w w') v ((execOp a.eval o).run P w)) ∨
  (Region.wanted o (yielded ops a.tmps) = false ∧ v = undef ∧ ∀ L w, i ∈ Region.ready md ops L → Pn md ops G.ks G.D L w → Pn md ops G.ks G.D (L.setIfInBounds i true) w)
def YG (P : Program) (md : Region.Mode) (ops : Array Oper) (G : GSpec) (i : Nat) (o : Oper) (v : Value) (a : Act) : Prop :=
  (i ≠ G.k ∧ i ≠ G.s ∧ YO P md ops G i o v a) ∨ (i = G.k ∧ v = undef) ∨ (i = G.s ∧ v = undef ∧ a.eval G.y = .agg G.cs)
/-- No other operation looks at the new block's slot, or writes it. -/
def ghostB (ops : Array Oper) (k s : Nat) (dk : Tmp) : Bool := (List.range ops.size).all fun j => j == k || j == s || (match ops[j]? with
  | some o => !(o.looksAt ops).contains dk && o.dst != some dk
  | none => true)
theorem ghostB_spec {k s : Nat} {dk : Tmp} (h : ghostB ops k s dk = true) {j : Nat} {o : Oper} (ho : ops[j]? = some o) (hk : j ≠ k) (hs : j ≠ s) : dk ∉ o.looksAt ops ∧ o.dst ≠ some dk := by
  have h1 := List.all_eq_true.1 h j (List.mem_range.2 (Array.getElem?_eq_some_iff.1 ho).1)
  simp only [ho, Bool.or_eq_true, beq_iff_eq, hk, hs, false_or, Bool.and_eq_true, Bool.not_eq_true', bne_iff_ne] at h1
  exact ⟨by simpa using h1.1, h1.2⟩
/-- What the operations k and s are. -/
structure GOk (P : Program) (md : Region.Mode) (ops : Array Oper) (G : GSpec) : Prop where
  ne : G.k ≠ G.s
  alloc : ∃ o, ops[G.k]? = some o ∧ o.guard = none ∧ o.dst = some G.dk ∧ ∀ (a : Act) w, (execOp a.eval o).run P w = .ok (.value (ptrTo w.heap.size)) (w.alloc (.cells G.zc G.T))
  store : ∃ o, ops[G.s]? = some o ∧ o.guard = none ∧ o.dst = none ∧ o.op = .store G.ty (.tmp G.dk) G.y
  y : G.y ≠ .tmp G.dk
  ghost : ghostB ops G.k G.s G.dk = true
  waits : Region.waitsFor md ops G.s G.k = true
  nk : ∀ j, j < G.ks.length → G.k ≠ G.ks.getD j 0
  nsk : ∀ j, j < G.ks.length → G.s ≠ G.ks.getD j 0
  size : (P.info? G.ty).map (·.size) = some G.cs.size
  zsize : G.zc.size = G.cs.size
  one : G.cs.all (·.oneCell') = true
  below : ∀ m w w', G.D m w → Below G.n w w' → G.D m w'
  base : ∀ m w, G.D m w → G.n ≤ w.heap.size
  own : ∀ x ∈ G.S, x < G.n
theorem eval_put_ne {a : Act} {d : Option Tmp} {u : Value} {x : Operand} (h : ∀ t, d = some t → x ≠ .tmp t) : (a.put d u).eval x = a.eval x := Act.eval_put h
theorem YG.stab (hG : GOk P md ops G) : StabY (YG P md ops G) ops := by
  intro i o v a d u ho hsel hx
  have e1 := execOp_put o hsel a d u hx
  have e2 := wanted_put o a d u hx
  have e3 : i = G.s → (a.put d u).eval G.y = a.eval G.y := fun hi => by
    obtain ⟨os, h1, h2, h3, h4⟩ := hG.store
    subst hi
    obtain rfl : os = o := Option.some.inj (h1.symm.trans ho)
    refine eval_put_ne fun t ht hy => hx t ht ?_
    unfold Oper.looksAt
    refine List.mem_append_left _ (List.mem_filterMap.2 ⟨.tmp t, ?_, rfl⟩)
    rw [h4, ← hy]
    simp [Op.operands]
  unfold YG YO
  rw [e1, e2]
  constructor
  · rintro (h | h | ⟨h1, h2, h3⟩)
    · exact .inl h
    · exact .inr (.inl h)
    · exact .inr (.inr ⟨h1, h2, (e3 h1).symm.trans h3⟩)
  · rintro (h | h | ⟨h1, h2, h3⟩)
    · exact .inl h
    · exact .inr (.inl h)
    · exact .inr (.inr ⟨h1, h2, (e3 h1).trans h3⟩)

/-- The real state beside that of the text's order: the new block's slot. -/
def RelG (G : GSpec) (L : Array Bool) (a ar : Act) (w : World) : Prop :=
  G.dk < ar.tmps.size ∧ ((L.getD G.k false = false ∧ ar = a) ∨ (L.getD G.k false = true ∧ ∃ g, G.n ≤ g ∧ ar = a.put (some G.dk) (ptrTo g) ∧ (L.getD G.s false = false → Blk w g G.zc G.T) ∧ (L.getD G.s false = true → Blk w g G.cs G.T)))
theorem put_size (a : Act) (d : Option Tmp) (v : Value) : (a.put d v).tmps.size = a.tmps.size := by cases d <;> simp [Act.put]
theorem put_put (a : Act) (d : Tmp) (u v : Value) : (a.put (some d) u).put (some d) v = a.put (some d) v := by simp [Act.put]
theorem lUpon_mono {C C' : World → Prop} {v : Value} {r : Result Next} (h : lUpon P C v r) (hC : ∀ w, C w → C' w) : lUpon P C' v r := by
  cases r with
  | ok n w' =>
    cases n <;> simp only [lUpon] at h ⊢
    case value u => exact ⟨hC _ h.1, h.2⟩
    case skip => exact ⟨hC _ h.1, h.2⟩
    case enter f args => exact h.mono fun _ w'' ⟨he, hw⟩ => ⟨he, hC _ hw⟩
  | halt x w' => simp only [lUpon] at h
theorem Pn.step {w w' : World} {L : Array Bool} {i : Nat} (h : Pn md ops G.ks G.D L w) (hr : i ∈ Region.ready md ops L) (hi : ∀ j, j < G.ks.length → i ≠ G.ks.getD j 0) (hD : ∀ m, G.D m w → G.D m w') : Pn md ops G.ks G.D (L.setIfInBounds i true) w' := by
  obtain ⟨hz, hc, m, hm, ha, hb, hd⟩ := h
  exact ⟨by simpa using hz, hc.set hr, m, hm, fun j hj => by rw [getD_set_ne false (hi j (by omega))]; exact ha j hj, fun j hj hl => by rw [getD_set_ne false (hi j hl)]; exact hb j hj hl, hD m hd⟩
theorem wpAny_of_Y (hG : GOk P md ops G) (hsel : ∀ (j : Nat) (o : Oper) cs b, ops[j]? = some o → o.op ≠ .select cs b) {Q : Act → Prop} {Q' : Exit → Act → World → Prop}
    (hQ : ∀ L a ar w, Region.ready md ops L = [] → Pn md ops G.ks G.D L w → RelG G L a ar w → Q a → Q' .normal ar w) : ∀ (fuel : Nat) (L : Array Bool) (a ar : Act) (w : World), Pn md ops G.ks G.D L w → RelG G L a ar w →
    wpAnyY (YG P md ops G) md ops Q fuel L a → wpAny P md ops Q' fuel L ar w
  | 0, L, a, ar, w, hC, hr, h => ⟨h.1, hQ L a ar w h.1 hC hr h.2⟩
  | fuel + 1, L, a, ar, w, hC, hR, h => by
    refine ⟨fun h0 => hQ L a ar w h0 hC hR (h.1 h0), fun i hi => ?_⟩
    obtain ⟨_, o, ho, hall⟩ := mem_ready.1 hi
    obtain ⟨v, hy, hK⟩ := h.2 i hi o ho
    have hif := ready_false hi
    have hlt := (ready_lt hi).1
    have hz : L.size = ops.size := hC.1
    have ih := fun a' ar' w' => wpAny_of_Y hG hsel hQ fuel (L.setIfInBounds i true) a' ar' w'
    obtain ⟨hdk, hR⟩ := hR
    rcases hy with ⟨hk, hs, hy⟩ | ⟨rfl, rfl⟩ | ⟨rfl, rfl, hy⟩
    · obtain ⟨g1, g2⟩ := ghostB_spec hG.ghost ho hk hs
      have ek : (L.setIfInBounds i true).getD G.k false = L.getD G.k false := getD_set_ne false hk
      have es : (L.setIfInBounds i true).getD G.s false = L.getD G.s false := getD_set_ne false hs
      rcases hR with ⟨hR, rfl⟩ | ⟨hR, g, hg, rfl, hA, hB⟩
      · rcases hy with ⟨hw, hv⟩ | ⟨hw, rfl, hv⟩
        · exact wpOp_lUpon ho hw (hv L w hi hC) fun w' hw' => ih _ _ w' hw'.1 ⟨by rw [put_size]; exact hdk, .inl ⟨ek.trans hR, rfl⟩⟩ hK
        · unfold wpOp
          simp only [ho, hw, Bool.false_eq_true, if_false]
          exact ih _ _ w (hv L w hi hC) ⟨by rw [put_size]; exact hdk, .inl ⟨ek.trans hR, rfl⟩⟩ hK
      · have hl : ∀ d, some G.dk = some d → d ∉ o.looksAt ops := fun d hd => by obtain rfl := Option.some.inj hd; exact g1
        have hcm : ∀ v, (a.put (some G.dk) (ptrTo g)).put o.dst v = (a.put o.dst v).put (some G.dk) (ptrTo g) := fun v => Act.put_comm a (ptrTo g) v (fun d hd hd' => g2 (by rw [hd', ← hd]))
        have e2 := wanted_put (ops := ops) o a (some G.dk) (ptrTo g) hl
        have hx : execOp (a.put (some G.dk) (ptrTo g)).eval o = execOp a.eval o := execOp_put (ops := ops) o (fun cs b => hsel i o cs b ho) a _ _ hl
        have hkeep : ∀ w', Tr G.S w w' → RelG G (L.setIfInBounds i true) (a.put o.dst v) ((a.put (some G.dk) (ptrTo g)).put o.dst v) w' := fun w' ht =>
          ⟨by rw [put_size]; exact hdk, .inr ⟨ek.trans hR, g, hg, hcm v, fun h => Blk.tr (hA (es.symm.trans h)) ht (fun hm => by have := hG.own g hm; omega), fun h => Blk.tr (hB (es.symm.trans h)) ht (fun hm => by have := hG.own g hm; omega)⟩⟩
        rcases hy with ⟨hw, hv⟩ | ⟨hw, rfl, hv⟩
        · refine wpOp_lUpon (v := v) (C' := fun w' => Pn md ops G.ks G.D (L.setIfInBounds i true) w' ∧ Tr G.S w w') ho (e2.trans hw) (by rw [hx]; exact hv L w hi hC) fun w' hw' => ih _ _ w' hw'.1 (hkeep w' hw'.2) hK
        · unfold wpOp
          simp only [ho, e2.trans hw, Bool.false_eq_true, if_false]
          exact ih _ _ w (hv L w hi hC) (hkeep w (Tr.refl _ _)) hK
    · obtain ⟨ok, h1, h2, h3, h4⟩ := hG.alloc
      obtain rfl : ok = o := Option.some.inj (h1.symm.trans ho)
      obtain ⟨_, rfl⟩ | ⟨hR, _⟩ := hR
      · have hwnt : Region.wanted ok (yielded ops ar.tmps) = true := by unfold Region.wanted; rw [h2]
        have hn := hC.2.2
        have hbase : G.n ≤ w.heap.size := let ⟨m, _, _, _, hd⟩ := hn; hG.base m w hd
        have hsf : L.getD G.s false = false := by
          cases e : L.getD G.s false with
          | false => rfl
          | true =>
            obtain ⟨o2, ho2, e2, he2, hb2, hon⟩ := Region.waitsFor_spec hG.waits
            have := hC.2.1 G.s o2 ho2 e e2 he2 hb2
            rw [hon, hif] at this; cases this
        refine wpOp_lUpon (v := ptrTo w.heap.size) (C' := fun w' => w' = w.alloc (.cells G.zc G.T)) ho hwnt (by rw [h4]; exact ⟨rfl, rfl⟩) ?_
        rintro w' rfl
        refine ih _ _ _ (hC.step hi hG.nk fun m hd => hG.below m _ _ hd ((Below.refl _ _).alloc hbase _)) ⟨by rw [put_size]; exact hdk, .inr ⟨getD_set_self false (by omega), w.heap.size, hbase, ?_, fun _ => Blk.new _ _ _, ?_⟩⟩ hK
        · rw [h3, put_put]
        · rw [getD_set_ne false hG.ne, hsf]; intro h; cases h
      · rw [hif] at hR; cases hR
    · obtain ⟨os, h1, h2, h3, h4⟩ := hG.store
      obtain rfl : os = o := Option.some.inj (h1.symm.trans ho)
      have hkt : L.getD G.k false = true := by
        obtain ⟨o2, ho2, e2, he2, hb2, hon⟩ := Region.waitsFor_spec hG.waits
        obtain rfl : o2 = os := Option.some.inj (ho2.symm.trans ho)
        have := hall e2 he2 hb2
        rw [hon] at this; exact this
      obtain ⟨hR, _⟩ | ⟨_, g, hg, rfl, hA, hB⟩ := hR
      · rw [hkt] at hR; cases hR
      · have hwnt : Region.wanted os (yielded ops (a.put (some G.dk) (ptrTo g)).tmps) = true := by unfold Region.wanted; rw [h2]
        have hx : (a.put (some G.dk) (ptrTo g)).eval (.tmp G.dk) = .pointer (some ⟨g, 0, none⟩) := by
          rw [put_size] at hdk
          simp [Act.eval, Act.put, hdk, ptrTo]
        have hyy : (a.put (some G.dk) (ptrTo g)).eval G.y = .agg G.cs := by
          rw [eval_put_ne fun t ht hy => hG.y (by obtain rfl := Option.some.inj ht; exact hy)]; exact hy
        have hb := hA hif
        refine wpOp_lUpon (v := undef) (C' := fun w' => w' = w.setRow g G.cs) ho hwnt (store_row_upon G.ty (.tmp G.dk) G.y h4 g G.cs hx hyy G.T G.zc hb hG.size hG.zsize hG.one rfl) ?_
        rintro w' rfl
        refine ih _ _ _ (hC.step hi hG.nsk fun m hd => hG.below m _ _ hd (below_setRow (Below.refl _ _) hg _)) ⟨by rw [put_size]; exact hdk, .inr ⟨?_, g, hg, ?_, ?_, fun _ => Blk.setRow hb _⟩⟩ hK
        · rw [getD_set_ne false (Ne.symm hG.ne)]; exact hkt
        · rw [h3]; rfl
        · rw [getD_set_self false (by omega)]; intro h; cases h

/-- The region. -/
theorem wp_region_g {id : Nat} {Q : Exit → Act → World → Prop} {a : Act} {W : World} {l : List Oper} (G : GSpec) (hm : P.follows .mixedOrders = true) (hB : Region.lexB .any l.toArray = true) (hE : edgesB .any l.toArray = true)
    (hG : GOk P .any l.toArray G) (hk : G.ks.all (· < l.length) = true) (hks : G.k < l.length) (hss : G.s < l.length) (hdk : G.dk < a.tmps.size) (hD : G.D 0 W.drew)
    (h : wpY (YG P .any l.toArray G) (fun a' => ∀ g w', G.n ≤ g → Blk w' g G.cs G.T → G.D G.ks.length w' → Q .normal (a'.put (some G.dk) (ptrTo g)) w') l 0 a) : (Code.region id l.toArray true).wp P Q a W := by
  simp only [Region.lexB, Bool.and_eq_true] at hB
  refine wp_region_any hm ?_
  have h2 := wpAnyY_lex (YG.stab hG) (md := .any) hB.1 l 0 (Array.replicate l.length false) a (by simp) (by simpa using hB.2) h
  have h3 := wpAny_of_Y hG (Region.noSelect_spec hB.1) (Q' := Q) (fun L a ar w hr hC hR hq => ?_) l.length (Array.replicate l.length false) a a W.drew ?_ ?_ h2
  · simpa using h3
  · have hL := none_left hE hr
    obtain ⟨hz, hc, m, hm', ha, hb, hd⟩ := hC
    have htrue : ∀ j, j < l.length → L.getD j false = true := fun j hj => by
      have := hL (j + 1) j (by omega) (by simpa using hj)
      have hjs : j < L.size := by rw [hz]; simpa using hj
      simp [hjs] at this ⊢; exact this
    obtain ⟨_, ⟨hR, _⟩ | ⟨_, g, hg, rfl, _, hB⟩⟩ := hR
    · rw [htrue _ hks] at hR; cases hR
    · refine hq g w hg (hB (htrue _ hss)) ?_
      rcases Nat.lt_or_ge m G.ks.length with h1 | h1
      · exfalso
        have hlt : G.ks.getD m 0 < l.length := by
          have := List.all_eq_true.1 hk (G.ks.getD m 0) (by rw [List.getD_eq_getElem?_getD, List.getElem?_eq_getElem h1]; exact List.getElem_mem h1)
          simpa using this
        have := hb m (Nat.le_refl _) h1
        rw [htrue _ hlt] at this; cases this
      · obtain rfl : m = G.ks.length := by omega
        exact hd
  · refine ⟨by simp, ?_, 0, Nat.zero_le _, fun j hj => by omega, fun j _ _ => getD_replicate_false _ _, hD⟩
    intro j oj _ hl; rw [getD_replicate_false] at hl; cases hl
  · exact ⟨hdk, .inl ⟨getD_replicate_false _ _, rfl⟩⟩

section
variable {o : Oper} {i : Nat} {a : Act} {Q : Act → Prop} {rest : List Oper}
theorem wpG_other (hg : Region.wanted o (yielded ops a.tmps) = true) (hk : i ≠ G.k) (hs : i ≠ G.s) (hi : ∀ j, j < G.ks.length → i ≠ G.ks.getD j 0)
    (h : ∀ K : Act → Prop, (∀ a, wpY (YG P md ops G) Q rest (i + 1) a → K a) → ∃ v, (∀ m w, m ≤ G.ks.length → G.D m w → lUpon P (fun w' => G.D m w' ∧ Tr G.S w w') v ((execOp a.eval o).run P w)) ∧ K (a.put o.dst v)) : wpY (YG P md ops G) Q (o :: rest) i a := by
  obtain ⟨v, h1, h2⟩ := h _ (fun _ h => h)
  refine ⟨v, .inl ⟨hk, hs, .inl ⟨hg, fun L w hr hC => ?_⟩⟩, h2⟩
  obtain ⟨hz, hc, m, hm, ha, hb, hd⟩ := hC
  exact lUpon_mono (h1 m w hm hd) fun w' hw' => ⟨⟨by simpa using hz, hc.set hr, m, hm, fun j hj => by rw [getD_set_ne false (hi j (by omega))]; exact ha j hj, fun j hj hl => by rw [getD_set_ne false (hi j hl)]; exact hb j hj hl, hw'.1⟩, hw'.2⟩
theorem wpG_skip (hg : Region.wanted o (yielded ops a.tmps) = false) (hk : i ≠ G.k) (hs : i ≠ G.s) (hi : ∀ j, j < G.ks.length → i ≠ G.ks.getD j 0)
    (h : wpY (YG P md ops G) Q rest (i + 1) (a.put o.dst undef)) : wpY (YG P md ops G) Q (o :: rest) i a := by
  refine ⟨undef, .inl ⟨hk, hs, .inr ⟨hg, rfl, fun L w hr hC => ?_⟩⟩, h⟩
  obtain ⟨hz, hc, m, hm, ha, hb, hd⟩ := hC
  exact ⟨by simpa using hz, hc.set hr, m, hm, fun j hj => by rw [getD_set_ne false (hi j (by omega))]; exact ha j hj, fun j hj hl => by rw [getD_set_ne false (hi j hl)]; exact hb j hj hl, hd⟩
theorem wpG_turn (j : Nat) (hg : Region.wanted o (yielded ops a.tmps) = true) (hk : i ≠ G.k) (hs : i ≠ G.s) (hj : j < G.ks.length) (hi : i = G.ks.getD j 0) (hch : chainedB md ops G.ks = true)
    (h : ∃ v, (∀ w, G.D j w → lUpon P (fun w' => G.D (j + 1) w' ∧ Tr G.S w w') v ((execOp a.eval o).run P w)) ∧ wpY (YG P md ops G) Q rest (i + 1) (a.put o.dst v)) : wpY (YG P md ops G) Q (o :: rest) i a := by
  obtain ⟨v, h1, h2⟩ := h
  refine ⟨v, .inl ⟨hk, hs, .inl ⟨hg, fun L w hr hC => ?_⟩⟩, h2⟩
  obtain ⟨hz, hc, m, hm, ha, hb, hd⟩ := hC
  have hf := ready_false hr
  have hlt := (ready_lt hr).1
  obtain rfl : m = j := by
    rcases Nat.lt_trichotomy m j with h1 | h1 | h1
    · exfalso
      obtain ⟨o2, ho2, e2, he2, hb2, hon⟩ := Region.waitsFor_spec (chainedB_waits hch hj (by omega))
      obtain ⟨_, o', ho', hall⟩ := mem_ready.1 hr
      rw [hi] at ho'
      obtain rfl : o2 = o' := Option.some.inj (ho2.symm.trans ho')
      have := hall e2 he2 hb2
      rw [hon, hb (j - 1) (by omega) (by omega)] at this
      cases this
    · exact h1
    · exfalso
      have := ha j h1
      rw [← hi, hf] at this; cases this
  refine lUpon_mono (h1 w hd) fun w' hw' => ⟨⟨by simpa using hz, hc.set hr, m + 1, by omega, fun j' hj' => ?_, fun j' hj' hl => ?_, hw'.1⟩, hw'.2⟩
  · by_cases hjm : j' = m
    · subst hjm; rw [← hi]; exact getD_set_self false (by omega)
    · rw [getD_set_ne false (by rw [hi]; exact chainedB_ne hch hj (by omega) (Ne.symm hjm))]; exact ha j' (by omega)
  · rw [getD_set_ne false (by rw [hi]; exact chainedB_ne hch hj hl (by omega))]; exact hb j' (by omega) hl
theorem wpG_alloc (hk : i = G.k) (h : wpY (YG P md ops G) Q rest (i + 1) (a.put o.dst undef)) : wpY (YG P md ops G) Q (o :: rest) i a := ⟨undef, .inr (.inl ⟨hk, rfl⟩), h⟩
theorem wpG_store (hs : i = G.s) (hy : a.eval G.y = .agg G.cs) (h : wpY (YG P md ops G) Q rest (i + 1) (a.put o.dst undef)) : wpY (YG P md ops G) Q (o :: rest) i a := ⟨undef, .inr (.inr ⟨hs, rfl, hy⟩), h⟩
end

/-- The plain kind: all others read, or call what makes memory of its own at most. -/
abbrev GSpec.plain (W : World) (k s : Nat) (dk : Tmp) (ty : TypeId) (y : Operand) (zc cs : Array Value) (T : TypeId) : GSpec := ⟨[], fun _ w' => Below W.heap.size W w', [], W.heap.size, k, s, dk, ty, y, zc, cs, T⟩
theorem wpG0_other {W : World} {k s : Nat} {dk : Tmp} {ty : TypeId} {y : Operand} {zc cs : Array Value} {T : TypeId} {o : Oper} {i : Nat} {a : Act} {Q : Act → Prop} {rest : List Oper} (hg : Region.wanted o (yielded ops a.tmps) = true) (hk : i ≠ k) (hs : i ≠ s)
    (h : ∀ K : Act → Prop, (∀ a, wpY (YG P md ops (GSpec.plain W k s dk ty y zc cs T)) Q rest (i + 1) a → K a) → ∃ v, (∀ w, Below W.heap.size W w → lUpon P (fun w' => Below w.heap.size w w') v ((execOp a.eval o).run P w)) ∧ K (a.put o.dst v)) : wpY (YG P md ops (GSpec.plain W k s dk ty y zc cs T)) Q (o :: rest) i a := by
  refine wpG_other hg hk hs (fun j hj => by cases hj) fun K hK => ?_
  obtain ⟨v, h1, h2⟩ := h K hK
  exact ⟨v, fun m w hm hw => lUpon_mono (h1 w hw) fun w' hw' => ⟨hw.trans (hw'.mono hw.size), Tr.of_below0 hw'⟩, h2⟩
theorem GOk.plain {W : World} {k s : Nat} {dk : Tmp} {ty : TypeId} {y : Operand} {zc cs : Array Value} {T : TypeId} (ne : k ≠ s)
    (alloc : ∃ o, ops[k]? = some o ∧ o.guard = none ∧ o.dst = some dk ∧ ∀ (a : Act) w, (execOp a.eval o).run P w = .ok (.value (ptrTo w.heap.size)) (w.alloc (.cells zc T)))
    (store : ∃ o, ops[s]? = some o ∧ o.guard = none ∧ o.dst = none ∧ o.op = .store ty (.tmp dk) y) (hy : y ≠ .tmp dk) (ghost : ghostB ops k s dk = true) (waits : Region.waitsFor md ops s k = true)
    (size : (P.info? ty).map (·.size) = some cs.size) (zsize : zc.size = cs.size) (one : cs.all (·.oneCell') = true) : GOk P md ops (GSpec.plain W k s dk ty y zc cs T) :=
  ⟨ne, alloc, store, hy, ghost, waits, fun j hj => by (simp at hj), fun j hj => by (simp at hj), size, zsize, one, fun m w w' h hb => h.trans hb, fun m w h => h.size, fun x hx => by cases hx⟩
theorem GOk.full {ks : List Nat} {D : Nat → World → Prop} {S : List Nat} {n k s : Nat} {dk : Tmp} {ty : TypeId} {y : Operand} {zc cs : Array Value} {T : TypeId} (ne : k ≠ s)
    (alloc : ∃ o, ops[k]? = some o ∧ o.guard = none ∧ o.dst = some dk ∧ ∀ (a : Act) w, (execOp a.eval o).run P w = .ok (.value (ptrTo w.heap.size)) (w.alloc (.cells zc T)))
    (store : ∃ o, ops[s]? = some o ∧ o.guard = none ∧ o.dst = none ∧ o.op = .store ty (.tmp dk) y) (hy : y ≠ .tmp dk) (ghost : ghostB ops k s dk = true) (waits : Region.waitsFor md ops s k = true)
    (nk : ∀ j, j < ks.length → k ≠ ks.getD j 0) (nsk : ∀ j, j < ks.length → s ≠ ks.getD j 0)
    (size : (P.info? ty).map (·.size) = some cs.size) (zsize : zc.size = cs.size) (one : cs.all (·.oneCell') = true)
    (below : ∀ m w w', D m w → Below n w w' → D m w') (base : ∀ m w, D m w → n ≤ w.heap.size) (own : ∀ x ∈ S, x < n) : GOk P md ops ⟨ks, D, S, n, k, s, dk, ty, y, zc, cs, T⟩ :=
  ⟨ne, alloc, store, hy, ghost, waits, nk, nsk, size, zsize, one, below, base, own⟩
section
variable {ks : List Nat} {D : Nat → World → Prop} {S : List Nat} {n k s : Nat} {dk : Tmp} {ty : TypeId} {y : Operand} {zc cs : Array Value} {T : TypeId} {o : Oper} {i : Nat} {a : Act} {Q : Act → Prop} {rest : List Oper}
theorem wpGf_other (hg : Region.wanted o (yielded ops a.tmps) = true) (hk : i ≠ k) (hs : i ≠ s) (hi : ∀ j, j < ks.length → i ≠ ks.getD j 0)
    (h : ∀ K : Act → Prop, (∀ a, wpY (YG P md ops ⟨ks, D, S, n, k, s, dk, ty, y, zc, cs, T⟩) Q rest (i + 1) a → K a) → ∃ v, (∀ m w, m ≤ ks.length → D m w → lUpon P (fun w' => D m w' ∧ Tr S w w') v ((execOp a.eval o).run P w)) ∧ K (a.put o.dst v)) : wpY (YG P md ops ⟨ks, D, S, n, k, s, dk, ty, y, zc, cs, T⟩) Q (o :: rest) i a := wpG_other hg hk hs hi h
theorem wpGf_turn (j : Nat) (hg : Region.wanted o (yielded ops a.tmps) = true) (hk : i ≠ k) (hs : i ≠ s) (hj : j < ks.length) (hi : i = ks.getD j 0) (hch : chainedB md ops ks = true)
    (h : ∃ v, (∀ w, D j w → lUpon P (fun w' => D (j + 1) w' ∧ Tr S w w') v ((execOp a.eval o).run P w)) ∧ wpY (YG P md ops ⟨ks, D, S, n, k, s, dk, ty, y, zc, cs, T⟩) Q rest (i + 1) (a.put o.dst v)) : wpY (YG P md ops ⟨ks, D, S, n, k, s, dk, ty, y, zc, cs, T⟩) Q (o :: rest) i a := wpG_turn j hg hk hs hj hi hch h
end
end
end Go.Proofs.YtnllkgjmoipgbaaGreatDoor
-- SmP
namespace Go.Proofs.YtnllkgjmoipgbaaGreatDoor
open Go Go.RowKit
set_option linter.unusedSimpArgs false
set_option linter.unusedVariables false
set_option maxRecDepth 100000

section
variable {w : World} {l : BusL} {B : BusV}
set_option maxHeartbeats 4000000 in
theorem bus_Settle (h : BusAt w l B) (hlag : 0 ≤ B.lag ∧ B.lag ≤ 1099511627776) : Calls Tryz.prog 23 #[.pointer (some ⟨l.p, 0, none⟩)] w fun e w' => e = .returned (.tuple #[]) ∧ BusAt w' l B.settle ∧ Tr l.own w w' := by
  have HN := Lib.hid (bus_none h)
  have HA : Hid (∀ w, Calls Tryz.prog 60 #[.agg #[.int .i64 B.timer.reload, .int .i64 B.timer.count, .bool B.timer.on, .int .i64 B.timer.pre], .int .i64 B.lag] w fun e w' => e = .returned (.tuple #[.agg #[.int .i64 (B.timer.adv B.lag).reload, .int .i64 (B.timer.adv B.lag).count, .bool (B.timer.adv B.lag).on, .int .i64 (B.timer.adv B.lag).pre], .int .i64 (B.timer.around B.lag)]) ∧ Below w.heap.size w w') := Lib.hid (fun w => timer_Advance h.ok.timer B.lag hlag w)
  have ct := h.timer
  have c9262 := h.lag
  have t0 : w.cell? ⟨l.p, 9241, none⟩ = some (.int .i64 B.timer.reload) := by simpa using ct 0 (.int .i64 B.timer.reload) rfl
  have t1 : w.cell? ⟨l.p, 9242, none⟩ = some (.int .i64 B.timer.count) := by simpa using ct 1 (.int .i64 B.timer.count) rfl
  have t2 : w.cell? ⟨l.p, 9243, none⟩ = some (.bool B.timer.on) := by simpa using ct 2 (.bool B.timer.on) rfl
  have t3 : w.cell? ⟨l.p, 9244, none⟩ = some (.int .i64 B.timer.pre) := by simpa using ct 3 (.int .i64 B.timer.pre) rfl
  have HS := Lib.hid (show ∀ w', Below w.heap.size w w' → w'.cell? ⟨l.p, 9241, none⟩ = some (.int .i64 B.timer.reload) ∧ w'.cell? ⟨l.p, 9242, none⟩ = some (.int .i64 B.timer.count) ∧ w'.cell? ⟨l.p, 9243, none⟩ = some (.bool B.timer.on) ∧ w'.cell? ⟨l.p, 9244, none⟩ = some (.int .i64 B.timer.pre) ∧ w'.cell? ⟨l.p, 9262, none⟩ = some (.int .i64 B.lag) ∧ Below w.heap.size w w' from fun w' hb => by
    have h' := h.below hb
    have ct := h'.timer
    exact ⟨by simpa using ct 0 (.int .i64 B.timer.reload) rfl, by simpa using ct 1 (.int .i64 B.timer.count) rfl, by simpa using ct 2 (.bool B.timer.on) rfl, by simpa using ct 3 (.int .i64 B.timer.pre) rfl, h'.lag, hb⟩)
  have HB := Lib.hid h
  clear h ct
  go_enter Tryz.func23, Tryz.ntmps23
  go_wp2_with fail
  refine HN.out.mono ?_; rintro e w' ⟨rfl, rfl⟩
  go_wp2_with fail
  refine wp_region_g (GSpec.plain _ 12 13 2 48 (.tmp 16) #[.int .i64 0, .int .i64 0, .bool false, .int .i64 0] #[.int .i64 (B.timer.adv B.lag).reload, .int .i64 (B.timer.adv B.lag).count, .bool (B.timer.adv B.lag).on, .int .i64 (B.timer.adv B.lag).pre] 48) (by kernel_rfl) (by kernel_rfl) (by kernel_rfl) (GOk.plain (by decide) ⟨_, rfl, rfl, rfl, fun a w => ?_⟩ ⟨_, rfl, rfl, rfl, rfl⟩ (by intro h; cases h) (by kernel_rfl) (by kernel_rfl) (by kernel_rfl) (by rfl) (by first | rfl | simp [Value.oneCell'])) (by kernel_rfl) (Nat.le_of_ble_eq_true (by kernel_rfl)) (Nat.le_of_ble_eq_true (by kernel_rfl)) (Nat.le_of_ble_eq_true (by kernel_rfl)) (Below.refl _ _).drew ?_
  · go_simp
    try rfl
  iterate 12
    (refine wpG0_other rfl (by decide) (by decide) (fun K hK => ?_)
     apply Exists.intro
     refine ⟨fun wq hq => ?_, hK _ ?_⟩
     · obtain ⟨z0, z1, z2, z3, z4, z5⟩ := HS.out wq hq
       go_simp
       first | exact ⟨Below.refl _ _, rfl⟩ | exact Below.refl _ _ | exact HA.out _
     clear hK K
     simp only [Act.put, List.setIfInBounds_toArray, List.set_cons_zero, List.set_cons_succ])
  refine wpG_alloc rfl ?_
  simp only [Act.put, List.setIfInBounds_toArray, List.set_cons_zero, List.set_cons_succ]
  refine wpG_store rfl (rfl) ?_
  simp only [Act.put, List.setIfInBounds_toArray, List.set_cons_zero, List.set_cons_succ]
  iterate 1
    (refine wpG0_other rfl (by decide) (by decide) (fun K hK => ?_)
     apply Exists.intro
     refine ⟨fun wq hq => ?_, hK _ ?_⟩
     · go_simp
       first | exact ⟨Below.refl _ _, rfl⟩ | exact Below.refl _ _
     clear hK K
     simp only [Act.put, List.setIfInBounds_toArray, List.set_cons_zero, List.set_cons_succ])
  intro g wg hg hgb hgw
  simp only [Act.put, List.setIfInBounds_toArray, List.set_cons_zero, List.set_cons_succ]
  simp only [ptrTo]
  have hga : Blk wg g #[.int .i64 (B.timer.adv B.lag).reload, .int .i64 (B.timer.adv B.lag).count, .bool (B.timer.adv B.lag).on, .int .i64 (B.timer.adv B.lag).pre] 48 := hgb
  have g0 := Blk.cell hga 0
  have g1 := Blk.cell hga 1
  have g2 := Blk.cell hga 2
  have g3 := Blk.cell hga 3
  simp only [List.getElem?_toArray, List.getElem?_cons_zero, List.getElem?_cons_succ] at g0 g1 g2 g3
  have H1 := HB.out.below hgw
  have T1 : Tr l.own w wg := Tr.of_below0 hgw
  have hr := B.timer.around_pos HB.out.ok.timer B.lag
  have K0 := HB.out.ok.settle
  have HP : BusAt ((wg.setCells l.p 9241 (B.timer.adv B.lag).cells).setCell ⟨l.p, 9262, none⟩ (.int .i64 0)) l { B with timer := B.timer.adv B.lag, lag := 0 } := by
    have k1 : BusV.Ok { B with timer := B.timer.adv B.lag } := { HB.out.ok with timer := HB.out.ok.timer.adv _ }
    have a1 := H1.put 12 (vs := (B.timer.adv B.lag).cells) (B' := { B with timer := B.timer.adv B.lag }) (o := 9241) rfl rfl (by decide) rfl k1 rfl rfl
    exact a1.put1 17 (v := .int .i64 0) (B' := { B with timer := B.timer.adv B.lag, lag := 0 }) (o := 9262) rfl (by decide) rfl { k1 with lag := Int.le_refl 0 } rfl rfl
  have T2 : Tr l.own w ((wg.setCells l.p 9241 (B.timer.adv B.lag).cells).setCell ⟨l.p, 9262, none⟩ (.int .i64 0)) := (Tr.laid _ _ T1 (by unfold BusL.own; simp)).setCell _ (by unfold BusL.own; simp) _
  have ct := H1.timer
  have q0 : wg.cell? ⟨l.p, 9241, none⟩ = some (.int .i64 B.timer.reload) := by simpa using ct 0 (.int .i64 B.timer.reload) rfl
  have q1 : wg.cell? ⟨l.p, 9242, none⟩ = some (.int .i64 B.timer.count) := by simpa using ct 1 (.int .i64 B.timer.count) rfl
  have q2 : wg.cell? ⟨l.p, 9243, none⟩ = some (.bool B.timer.on) := by simpa using ct 2 (.bool B.timer.on) rfl
  have q3 : wg.cell? ⟨l.p, 9244, none⟩ = some (.int .i64 B.timer.pre) := by simpa using ct 3 (.int .i64 B.timer.pre) rfl
  have q4 := H1.lag
  have ci := H1.irq
  have r0 : wg.cell? ⟨l.p, 9245, none⟩ = some (.int .i64 B.mask) := by simpa using ci 0 (.int .i64 B.mask) rfl
  have r1 : wg.cell? ⟨l.p, 9246, none⟩ = some (.int .i64 B.lines) := by simpa using ci 1 (.int .i64 B.lines) rfl
  clear ci
  have f0 := H1.free 9241
  have f1 := H1.free 9242
  have f2 := H1.free 9243
  have f3 := H1.free 9244
  have f4 := H1.free 9262
  have HPH := Lib.hid HP
  have HT2 := Lib.hid T2
  clear HP T2 T1 H1 ct hgb hga hgw t0 t1 t2 t3 c9262 HS HA HN
  have HR := Lib.hid (fun w => irq_Raise4 HB.out.ok.mask HB.out.ok.lines w)
  rcases (show B.timer.around B.lag ≤ 0 ∨ 0 < B.timer.around B.lag by omega) with hz | hz
  · have hn : ¬ B.timer.rings B.lag := fun h => by have := hr.2 h; omega
    have e1 : B.settle = { B with timer := B.timer.adv B.lag, lag := 0 } := by unfold BusV.settle; rw [if_neg hn]
    have HE := Lib.hid e1
    clear hn e1 hr K0 HB
    have hz2 : decide (0 < B.timer.around B.lag) = false := by simpa using hz
    go_wp2
    exact ⟨rfl, .tuple #[], by first | exact rfl | (unfold results; rfl) | kernel_rfl, rfl, (by rw [HE.out]; exact HPH.out), HT2.out⟩
  · have hn := hr.1 hz
    have e1 : B.settle = { B with timer := B.timer.adv B.lag, lag := 0, lines := orBit B.lines 4 } := by unfold BusV.settle; rw [if_pos hn]
    rw [e1] at K0
    have HE := Lib.hid e1
    have HK := Lib.hid K0
    clear hn e1 hr HB K0
    have hz2 : decide (0 < B.timer.around B.lag) = true := by simpa using hz
    go_wp2_with fail
    refine (HR.out _).mono ?_; rintro e w3 ⟨rfl, b3⟩
    have H3 := HPH.out.below b3
    have T3 := HT2.out.of_below b3
    clear q0 q1 q2 q3 q4 f0 f1 f2 f3 f4 r0 r1 g0 g1 g2 g3 HR HPH HT2 b3
    have c1 := H3.irq
    have r0 : w3.cell? ⟨l.p, 9245, none⟩ = some (.int .i64 B.mask) := by simpa using c1 0 (.int .i64 B.mask) rfl
    have r1 : w3.cell? ⟨l.p, 9246, none⟩ = some (.int .i64 B.lines) := by simpa using c1 1 (.int .i64 B.lines) rfl
    have f1 := H3.free 9245
    have f2 := H3.free 9246
    have HL := Lib.hid (H3.put 13 (vs := [.int .i64 B.mask, .int .i64 (orBit B.lines 4)]) (B' := { B with timer := B.timer.adv B.lag, lag := 0, lines := orBit B.lines 4 }) (o := 9245) rfl rfl (by decide) rfl HK.out rfl rfl)
    have HTH := Lib.hid (Tr.laid [.int .i64 B.mask, .int .i64 (orBit B.lines 4)] 9245 (g := l.p) T3 (by unfold BusL.own; simp))
    clear c1 H3 T3
    go_wp2
    exact ⟨rfl, .tuple #[], by first | exact rfl | (unfold results; rfl) | kernel_rfl, rfl, (by rw [HE.out]; exact HL.out), HTH.out⟩
end
end Go.Proofs.YtnllkgjmoipgbaaGreatDoor
-- Bh
namespace Go.Proofs.YtnllkgjmoipgbaaGreatDoor
open Go Go.RowKit
set_option linter.unusedSimpArgs false
set_option linter.unusedVariables false
set_option maxRecDepth 100000

theorem store_mid_upon {P : Program} {o : Oper} {a : Act} {D : World → Prop} {w : World} (ty : TypeId) (x y : Operand) (ho : o.op = .store ty x y) (g off : Nat) (hx : a.eval x = .pointer (some ⟨g, off, none⟩)) (cells : Array Value) (hy : a.eval y = .agg cells)
    (ht : w.there g off cells.size) (hsz : (P.info? ty).map (·.size) = some cells.size) (h1 : cells.all (·.oneCell') = true) (hD : D (w.setCells g off cells.toList)) : lUpon P D undef ((execOp a.eval o).run P w) := by
  unfold execOp
  simp only [ho, hx, hy, Instr.storeAt, Instr.sureAddr, Sem.run_bind, Sem.run_pure, Result.andThen_ok, run_storeVar_mid w g off ty cells ht hsz h1, lUpon]
  exact ⟨hD, trivial⟩
section
variable {w : World} {l : BusL} {B : BusV}
theorem BusL.mem (l : BusL) : l.p ∈ l.own := by unfold BusL.own; simp
theorem BusAt.timerC (h : BusAt w l B) : w.cell? ⟨l.p, 9241, none⟩ = some (.int .i64 B.timer.reload) ∧ w.cell? ⟨l.p, 9242, none⟩ = some (.int .i64 B.timer.count) ∧ w.cell? ⟨l.p, 9243, none⟩ = some (.bool B.timer.on) ∧ w.cell? ⟨l.p, 9244, none⟩ = some (.int .i64 B.timer.pre) :=
  have ct := h.timer
  ⟨by simpa using ct 0 (.int .i64 B.timer.reload) rfl, by simpa using ct 1 (.int .i64 B.timer.count) rfl, by simpa using ct 2 (.bool B.timer.on) rfl, by simpa using ct 3 (.int .i64 B.timer.pre) rfl⟩
theorem BusAt.irqC (h : BusAt w l B) : w.cell? ⟨l.p, 9245, none⟩ = some (.int .i64 B.mask) ∧ w.cell? ⟨l.p, 9246, none⟩ = some (.int .i64 B.lines) :=
  have ct := h.irq
  ⟨by simpa using ct 0 (.int .i64 B.mask) rfl, by simpa using ct 1 (.int .i64 B.lines) rfl⟩
theorem BusAt.portC (h : BusAt w l B) : w.cell? ⟨l.p, 9247, none⟩ = some (.bool B.port.sel) ∧ w.cell? ⟨l.p, 9248, none⟩ = some (.bool B.port.clr) ∧ w.cell? ⟨l.p, 9249, none⟩ = some (.bool B.port.second) ∧ w.cell? ⟨l.p, 9250, none⟩ = some (.int .i64 B.port.index) :=
  have ct := h.port
  ⟨by simpa using ct 0 (.bool B.port.sel) rfl, by simpa using ct 1 (.bool B.port.clr) rfl, by simpa using ct 2 (.bool B.port.second) rfl, by simpa using ct 3 (.int .i64 B.port.index) rfl⟩
theorem BusAt.setHold (h : BusAt w l B) (x : Int) (hx : 0 ≤ x ∧ x ≤ 255) : BusAt (w.setCell ⟨l.p, 9261, none⟩ (.int .i64 x)) l { B with hold := x } :=
  h.put1 16 (v := .int .i64 x) (B' := { B with hold := x }) (o := 9261) rfl (by decide) rfl { h.ok with hold := hx } rfl rfl
end
theorem and255_128 (n : Int) (h : 0 ≤ n ∧ n ≤ 255) : bits .and .i64 n 128 = n / 128 * 128 := by
  have : ∀ k : Fin 256, bits .and .i64 (k.val : Int) 128 = (k.val : Int) / 128 * 128 := by decide +kernel
  have := this ⟨n.toNat, by omega⟩
  have e : ((n.toNat : Nat) : Int) = n := by omega
  simpa only [e] using this
theorem and255_248 (n : Int) (h : 0 ≤ n ∧ n ≤ 255) : bits .and .i64 n 248 = n / 8 * 8 := by
  have : ∀ k : Fin 256, bits .and .i64 (k.val : Int) 248 = (k.val : Int) / 8 * 8 := by decide +kernel
  have := this ⟨n.toNat, by omega⟩
  have e : ((n.toNat : Nat) : Int) = n := by omega
  simpa only [e] using this
theorem or_128 (n c : Int) (h : 0 ≤ n ∧ n ≤ 255) (hc : 0 ≤ c ∧ c ≤ 127) : bits .or .i64 (n / 128 * 128) c = n / 128 * 128 + c := or_join64 7 _ _ (by omega) (by omega) hc.1 (by simp; omega) (by omega) (by simp)
theorem or_8 (n c : Int) (h : 0 ≤ n ∧ n ≤ 255) (hc : 0 ≤ c ∧ c ≤ 7) : bits .or .i64 (n / 8 * 8) c = n / 8 * 8 + c := or_join64 3 _ _ (by omega) (by omega) hc.1 (by simp; omega) (by omega) (by simp)
end Go.Proofs.YtnllkgjmoipgbaaGreatDoor
-- SmQ
namespace Go.Proofs.YtnllkgjmoipgbaaGreatDoor
open Go Go.RowKit
set_option linter.unusedSimpArgs false
set_option linter.unusedVariables false
set_option maxRecDepth 100000

section
variable {w : World} {l : BusL} {B : BusV}
set_option maxHeartbeats 4000000 in
theorem bus_held5 (h : BusAt w l B) (hlag : 0 ≤ B.lag ∧ B.lag ≤ 1099511627776) (a : Int) : Calls Tryz.prog 66 #[.pointer (some ⟨l.p, 0, none⟩), .int .i64 5, .int .i64 a] w fun e w' => e = .returned (.int .i64 (B.goHeld 5 a).hold) ∧ BusAt w' l (B.goHeld 5 a) ∧ Tr l.own w w' := by
  have HS := Lib.hid (bus_Settle h hlag)
  have e1 : B.goHeld 5 a = { B.settle with hold := B.hold / 128 * 128 + B.settle.timer.count } := by unfold BusV.goHeld; rw [if_pos rfl]
  have hc := h.ok.settle.timer.count
  have hh := h.ok.hold
  have ea := and255_128 B.hold hh
  have eo := or_128 B.hold B.settle.timer.count hh hc
  have eh : B.settle.hold = B.hold := rfl
  rw [e1]
  have HE := Lib.hid (show 0 ≤ B.hold / 128 * 128 + B.settle.timer.count ∧ B.hold / 128 * 128 + B.settle.timer.count ≤ 255 by omega)
  have HT : Hid (∀ w, Calls Tryz.prog 135 #[.agg #[.int .i64 B.settle.timer.reload, .int .i64 B.settle.timer.count, .bool B.settle.timer.on, .int .i64 B.settle.timer.pre]] w fun e w' => e = .returned (.int .i64 B.settle.timer.count) ∧ Below w.heap.size w w') := Lib.hid (fun w => timer_Read B.settle.timer w)
  have HEH := Lib.hid eh
  clear h e1 hc hh eh
  go_enter Tryz.func66, Tryz.ntmps66
  go_wp2_with fail
  refine HS.out.mono ?_; rintro e w1 ⟨rfl, b1, t1⟩
  have HB := Lib.hid b1
  have HT1 := Lib.hid t1
  clear b1 t1 HS
  go_wp2_with fail
  refine wp_region_last 14 (fun w' => BusAt w' l { B.settle with hold := B.hold / 128 * 128 + B.settle.timer.count } ∧ Tr l.own w w') (by kernel_rfl) (by kernel_rfl) (by kernel_rfl) (by decide) ?_
  iterate 14
    (refine wpP_head rfl (by decide) (fun K hK => ?_)
     apply Exists.intro
     refine ⟨fun wq hq => ?_, hK _ ?_⟩
     · have h' := HB.out.below hq
       obtain ⟨c0, c1, c2, c3⟩ := h'.timerC
       have c4 := h'.hold
       rw [HEH.out] at c4
       go_simp
       first | exact rfl | exact ⟨hq, rfl⟩ | exact ⟨rfl, rfl⟩ | exact calls_under hq (HT.out wq)
     clear hK K
     simp only [Act.put, List.setIfInBounds_toArray, List.set_cons_zero, List.set_cons_succ])
  refine wpP_last rfl (by decide) (by kernel_rfl) (by kernel_rfl) ⟨undef, fun wq hq => ?_, ?_⟩
  · have h' := HB.out.below hq
    have c4 := h'.hold
    have f4 := h'.free 9261
    have HZ := Lib.hid (h'.setHold _ HE.out)
    have HZT := Lib.hid ((HT1.out.of_below hq).setCell 9261 l.mem (.int .i64 (B.hold / 128 * 128 + B.settle.timer.count)))
    clear h'
    go_simp
    exact ⟨HZ.out, HZT.out⟩
  simp only [Act.put, List.setIfInBounds_toArray, List.set_cons_zero, List.set_cons_succ]
  rintro wg ⟨H2, T2⟩
  have H2H := Lib.hid H2
  have T2H := Lib.hid T2
  have c4 := H2.hold
  clear H2 T2
  go_wp2_with fail
  go_ret
  exact ⟨rfl, H2H.out, T2H.out⟩
set_option maxHeartbeats 4000000 in
theorem bus_held6 (h : BusAt w l B) (a : Int) : Calls Tryz.prog 66 #[.pointer (some ⟨l.p, 0, none⟩), .int .i64 6, .int .i64 a] w fun e w' => e = .returned (.int .i64 (B.goHeld 6 a).hold) ∧ BusAt w' l (B.goHeld 6 a) ∧ Tr l.own w w' := by
  have e1 : B.goHeld 6 a = { B with hold := padRead B.port B.pads } := by unfold BusV.goHeld; rw [if_neg (by decide), if_pos rfl]
  rw [e1]
  have HP := Lib.hid (fun w => pad_Read B.port B.pads h.ok.padsL w)
  have HE := Lib.hid (padRead_in B.port B.pads)
  have HB := Lib.hid h
  have hs1 : (Tryz.prog.info? 52).map (·.size) = some B.port.cells.length := by kernel_rfl
  have hs2 : (Tryz.prog.info? 55).map (·.size) = some (padsC B.pads).length := by rw [padsC_length, h.ok.padsL]; kernel_rfl
  have HS1 := Lib.hid hs1
  have HS2 := Lib.hid hs2
  clear h e1 hs1 hs2
  go_enter Tryz.func66, Tryz.ntmps66
  go_wp2_with fail
  refine wp_region_last 12 (fun w' => BusAt w' l { B with hold := padRead B.port B.pads } ∧ Tr l.own w w') (by kernel_rfl) (by kernel_rfl) (by kernel_rfl) (by decide) ?_
  iterate 4
    (refine wpP_head rfl (by decide) (fun K hK => ?_)
     apply Exists.intro
     refine ⟨fun wq hq => ?_, hK _ ?_⟩
     · go_simp
       first | exact rfl | exact ⟨hq, rfl⟩ | exact ⟨rfl, rfl⟩
     clear hK K
     simp only [Act.put, List.setIfInBounds_toArray, List.set_cons_zero, List.set_cons_succ])
  refine wpP_head rfl (by decide) (fun K hK => ?_)
  refine ⟨_, fun wq hq => mid_upon 52 _ rfl l.p 9247 (by first | rfl | kernel_rfl) B.port.cells _ ((HB.out.below hq).port) Tryz.underlying52 rfl (HS1.out) hq, hK _ ?_⟩
  clear hK K
  simp only [Act.put, List.setIfInBounds_toArray, List.set_cons_zero, List.set_cons_succ]
  iterate 3
    (refine wpP_head rfl (by decide) (fun K hK => ?_)
     apply Exists.intro
     refine ⟨fun wq hq => ?_, hK _ ?_⟩
     · go_simp
       first | exact rfl | exact ⟨hq, rfl⟩ | exact ⟨rfl, rfl⟩
     clear hK K
     simp only [Act.put, List.setIfInBounds_toArray, List.set_cons_zero, List.set_cons_succ])
  refine wpP_head rfl (by decide) (fun K hK => ?_)
  refine ⟨_, fun wq hq => mid_upon 55 _ rfl l.p 9251 (by first | rfl | kernel_rfl) (padsC B.pads) _ ((HB.out.below hq).pads) Tryz.underlying55 rfl (HS2.out) hq, hK _ ?_⟩
  clear hK K
  simp only [Act.put, List.setIfInBounds_toArray, List.set_cons_zero, List.set_cons_succ]
  iterate 3
    (refine wpP_head rfl (by decide) (fun K hK => ?_)
     apply Exists.intro
     refine ⟨fun wq hq => ?_, hK _ ?_⟩
     · have h0 := hq
       go_simp
       first | exact rfl | exact ⟨hq, rfl⟩ | exact ⟨rfl, rfl⟩ | exact calls_under hq (HP.out wq)
     clear hK K
     simp only [Act.put, List.setIfInBounds_toArray, List.set_cons_zero, List.set_cons_succ])
  refine wpP_last rfl (by decide) (by kernel_rfl) (by kernel_rfl) ⟨undef, fun wq hq => ?_, ?_⟩
  · have h' := HB.out.below hq
    have c4 := h'.hold
    have f4 := h'.free 9261
    have HZ := Lib.hid (h'.setHold _ HE.out)
    have HZT := Lib.hid ((Tr.of_below0 (S := l.own) hq).setCell 9261 l.mem (.int .i64 (padRead B.port B.pads)))
    clear h'
    go_simp
    exact ⟨HZ.out, HZT.out⟩
  simp only [Act.put, List.setIfInBounds_toArray, List.set_cons_zero, List.set_cons_succ]
  rintro wg ⟨H2, T2⟩
  have H2H := Lib.hid H2
  have T2H := Lib.hid T2
  have c4 := H2.hold
  clear H2 T2
  go_wp2_with fail
  go_ret
  exact ⟨rfl, H2H.out, T2H.out⟩
set_option maxHeartbeats 4000000 in
theorem bus_held7 (h : BusAt w l B) (hlag : 0 ≤ B.lag ∧ B.lag ≤ 1099511627776) (a : Int) (ha : 2 ≤ a ∧ a ≤ 3) : Calls Tryz.prog 66 #[.pointer (some ⟨l.p, 0, none⟩), .int .i64 7, .int .i64 a] w fun e w' => e = .returned (.int .i64 (B.goHeld 7 a).hold) ∧ BusAt w' l (B.goHeld 7 a) ∧ Tr l.own w w' := by
  have HS := Lib.hid (bus_Settle h hlag)
  obtain ⟨x, hx⟩ : ∃ x, x = if a = 2 then B.settle.mask else B.settle.lines := ⟨_, rfl⟩
  have hm := h.ok.settle.mask
  have hl := h.ok.settle.lines
  have hxi : 0 ≤ x ∧ x ≤ 7 := by rw [hx]; split <;> omega
  have e1 : B.goHeld 7 a = { B.settle with hold := B.hold / 8 * 8 + x } := by unfold BusV.goHeld; rw [if_neg (by decide), if_neg (by decide), if_pos ⟨rfl, ha.1⟩, hx]
  have hh := h.ok.hold
  have ea := and255_248 B.hold hh
  have eo := or_8 B.hold x hh hxi
  have eh : B.settle.hold = B.hold := rfl
  rw [e1]
  have HE := Lib.hid (show 0 ≤ B.hold / 8 * 8 + x ∧ B.hold / 8 * 8 + x ≤ 255 by omega)
  have HT : Hid (∀ w, Calls Tryz.prog 137 #[.agg #[.int .i64 B.settle.mask, .int .i64 B.settle.lines], .int .i64 a] w fun e w' => e = .returned (.int .i64 x) ∧ Below w.heap.size w w') := Lib.hid (fun w => (irq_Read hm hl a w).mono fun e w' h => ⟨by
    rw [h.1, hx]
    rcases (show a = 2 ∨ a = 3 by omega) with rfl | rfl <;> rfl, h.2⟩)
  have HEH := Lib.hid eh
  have h2 : decide (2 ≤ a) = true := by simpa using ha.1
  clear h e1 hm hl hh eh hxi hx
  go_enter Tryz.func66, Tryz.ntmps66
  go_wp2_with fail
  refine HS.out.mono ?_; rintro e w1 ⟨rfl, b1, t1⟩
  have HB := Lib.hid b1
  have HT1 := Lib.hid t1
  clear b1 t1 HS
  go_wp2_with fail
  refine wp_region_last 15 (fun w' => BusAt w' l { B.settle with hold := B.hold / 8 * 8 + x } ∧ Tr l.own w w') (by kernel_rfl) (by kernel_rfl) (by kernel_rfl) (by decide) ?_
  iterate 15
    (refine wpP_head rfl (by decide) (fun K hK => ?_)
     apply Exists.intro
     refine ⟨fun wq hq => ?_, hK _ ?_⟩
     · have h' := HB.out.below hq
       obtain ⟨c0, c1⟩ := h'.irqC
       have c4 := h'.hold
       rw [HEH.out] at c4
       go_simp
       first | exact rfl | exact ⟨hq, rfl⟩ | exact ⟨rfl, rfl⟩ | exact calls_under hq (HT.out wq)
     clear hK K
     simp only [Act.put, List.setIfInBounds_toArray, List.set_cons_zero, List.set_cons_succ])
  refine wpP_last rfl (by decide) (by kernel_rfl) (by kernel_rfl) ⟨undef, fun wq hq => ?_, ?_⟩
  · have h' := HB.out.below hq
    have c4 := h'.hold
    have f4 := h'.free 9261
    have HZ := Lib.hid (h'.setHold _ HE.out)
    have HZT := Lib.hid ((HT1.out.of_below hq).setCell 9261 l.mem (.int .i64 (B.hold / 8 * 8 + x)))
    clear h'
    go_simp
    exact ⟨HZ.out, HZT.out⟩
  simp only [Act.put, List.setIfInBounds_toArray, List.set_cons_zero, List.set_cons_succ]
  rintro wg ⟨H2, T2⟩
  have H2H := Lib.hid H2
  have T2H := Lib.hid T2
  have c4 := H2.hold
  clear H2 T2
  go_wp2_with fail
  go_ret
  exact ⟨rfl, H2H.out, T2H.out⟩
set_option maxHeartbeats 4000000 in
theorem bus_held0 (h : BusAt w l B) (k a : Int) (hk : k = 4 ∨ (k = 7 ∧ a < 2)) : Calls Tryz.prog 66 #[.pointer (some ⟨l.p, 0, none⟩), .int .i64 k, .int .i64 a] w fun e w' => e = .returned (.int .i64 (B.goHeld k a).hold) ∧ BusAt w' l (B.goHeld k a) ∧ Tr l.own w w' := by
  have e1 : B.goHeld k a = B := by unfold BusV.goHeld; rw [if_neg (by omega), if_neg (by omega), if_neg (by omega)]
  rw [e1]
  have c4 := h.hold
  have HB := Lib.hid h
  clear h e1
  rcases hk with rfl | ⟨rfl, ha⟩
  · go_enter Tryz.func66, Tryz.ntmps66
    go_wp2_with fail
    go_ret
    exact ⟨rfl, HB.out, Tr.refl _ _⟩
  · have h2 : decide (2 ≤ a) = false := by simp; omega
    have h3 : ¬ 2 ≤ a := by omega
    go_enter Tryz.func66, Tryz.ntmps66
    go_wp2_with fail
    go_ret
    exact ⟨rfl, HB.out, Tr.refl _ _⟩
theorem bus_held (h : BusAt w l B) (hlag : 0 ≤ B.lag ∧ B.lag ≤ 1099511627776) (k a : Int) (hk : 4 ≤ k ∧ k ≤ 7) (ha : 0 ≤ a ∧ a ≤ 3) : Calls Tryz.prog 66 #[.pointer (some ⟨l.p, 0, none⟩), .int .i64 k, .int .i64 a] w fun e w' => e = .returned (.int .i64 (B.goHeld k a).hold) ∧ BusAt w' l (B.goHeld k a) ∧ Tr l.own w w' := by
  rcases (show k = 4 ∨ k = 5 ∨ k = 6 ∨ k = 7 by omega) with rfl | rfl | rfl | rfl
  · exact bus_held0 h 4 a (.inl rfl)
  · exact bus_held5 h hlag a
  · exact bus_held6 h a
  · rcases (show a < 2 ∨ 2 ≤ a by omega) with h2 | h2
    · exact bus_held0 h 7 a (.inr ⟨rfl, h2⟩)
    · exact bus_held7 h hlag a ⟨h2, ha.2⟩
end
end Go.Proofs.YtnllkgjmoipgbaaGreatDoor
-- SmR
namespace Go.Proofs.YtnllkgjmoipgbaaGreatDoor
open Go Go.RowKit
set_option linter.unusedSimpArgs false
set_option linter.unusedVariables false
set_option maxRecDepth 100000

theorem place_row {w w' : World} {g : Nat} {k p a : Int} {t : TypeId} (h : Blk w g #[.int .i64 k, .int .i64 p, .int .i64 a] t) (hb : Below w.heap.size w w') : w'.cell? ⟨g, 0, none⟩ = some (.int .i64 k) ∧ w'.cell? ⟨g, 1, none⟩ = some (.int .i64 p) ∧ w'.cell? ⟨g, 2, none⟩ = some (.int .i64 a) :=
  have h' := Blk.below h hb
  ⟨Blk.cell h' 0, Blk.cell h' 1, Blk.cell h' 2⟩
theorem reg_rom {a : Int} (hk : regKind a = 0) : (0 ≤ regPage a ∧ regPage a < 128) ∧ (0 ≤ regAt a ∧ regAt a < 8192) := by
  refine ⟨?_, by unfold regAt; rw [if_pos (by omega)]; omega⟩
  unfold regPage; rw [if_pos hk]
  unfold regKind at hk
  split at hk
  · cases hk
  split at hk
  · omega
  split at hk
  · cases hk
  split at hk
  · split at hk
    · omega
    · cases hk
  · cases hk
theorem reg_at (a : Int) : 0 ≤ regAt a ∧ regAt a < 8192 := by
  unfold regAt
  split
  · omega
  split
  · omega
  split
  · omega
  split
  · omega
  split
  · omega
  · decide
section
variable {w : World} {l : BusL} {B : BusV}
set_option maxHeartbeats 4000000 in
theorem bus_Read0 (h : BusAt w l B) (a : Int) (hk : regKind a = 0) : Calls Tryz.prog 25 #[.pointer (some ⟨l.p, 0, none⟩), .int .i64 a] w fun e w' => e = .returned (.int .i64 (B.rd a)) ∧ BusAt w' l (B.go a) ∧ Tr l.own w w' := by
  have HN := Lib.hid (bus_none h)
  obtain ⟨hp, hat⟩ := reg_rom hk
  have hpp := h.ok.pages
  have e1 : B.go a = B := by unfold BusV.go; rw [hk, if_neg (by decide), if_neg (by decide), if_neg (by decide)]
  have e2 : B.rd a = nth 0 B.rom (regPage a % B.pages * 8192 + regAt a).toNat := by unfold BusV.rd; rw [hk, if_pos rfl]
  rw [e1, e2]
  have HW : Hid (∀ w, Calls Tryz.prog 51 #[.int .i64 a] w fun e w' => e = .returned (.agg #[.int .i64 0, .int .i64 (regPage a), .int .i64 (regAt a)]) ∧ Below w.heap.size w w') := Lib.hid (fun w => by have := region_Where a w; rw [hk] at this; exact this)
  have HB := Lib.hid h
  have hmf : ∀ (fn : Fn) (first cap : Array Value) (w : World), (Instr.makeFunc fn first cap).run Tryz.prog w = .ok (.func fn first cap) w := fun _ _ _ _ => rfl
  obtain ⟨pg, hpg⟩ : ∃ pg, pg = regPage a := ⟨_, rfl⟩
  obtain ⟨at', hat'⟩ : ∃ at', at' = regAt a := ⟨_, rfl⟩
  rw [← hpg, ← hat'] at HW
  rw [← hpg] at hp
  rw [← hat'] at hat
  rw [← hpg, ← hat']
  have HPg := Lib.hid (fun w => banks_Page B.pages hpp B.latch pg hp w)
  have hpm : 0 ≤ pg % (B.pages : Int) ∧ pg % (B.pages : Int) < B.pages := ⟨Int.emod_nonneg _ (by omega), Int.emod_lt_of_pos _ (by omega)⟩
  have HPM := Lib.hid hpm
  have HAT := Lib.hid hat
  clear h e1 e2 hk hp hpp hpg hat' hpm hat
  go_enter Tryz.func25, Tryz.ntmps25
  go_wp2_with fail
  refine HN.out.mono ?_; rintro e w' ⟨rfl, rfl⟩
  go_wp2_with fail
  refine (HW.out _).mono ?_; rintro e w1 ⟨rfl, b1⟩
  have zb := Lib.hid (Blk.new w1 #[.int .i64 0, .int .i64 pg, .int .i64 at'] 131)
  have hb2 := Lib.hid (bal b1 (o := Obj.cells #[.int .i64 0, .int .i64 pg, .int .i64 at'] 131))
  have H2 := Lib.hid (HB.out.below hb2.out)
  have T2 := Lib.hid (Tr.of_below0 (S := l.own) hb2.out)
  go_wp2_with fail
  obtain ⟨w2, hw2⟩ : ∃ w2, w2 = w1.alloc (Obj.cells #[.int .i64 0, .int .i64 pg, .int .i64 at'] 131) := ⟨_, rfl⟩
  rw [← hw2] at zb hb2 H2 T2 ⊢
  clear hw2 b1
  generalize w1.heap.size = g2 at *
  refine wp_region_last 19 (fun w' => Below w.heap.size w w') (by kernel_rfl) (by kernel_rfl) (by kernel_rfl) (by decide) ?_
  iterate 15
    (refine wpP_head rfl (by decide) (fun K hK => ?_)
     apply Exists.intro
     refine ⟨fun wq hq => ?_, hK _ ?_⟩
     · have h' := H2.out.below hq
       have c1 := h'.cardP
       have c2 := h'.latch
       obtain ⟨z0, z1, z2⟩ := place_row zb.out hq
       go_simp
       first | exact rfl | exact ⟨hq, rfl⟩ | exact ⟨rfl, rfl⟩ | exact calls_under_same hq (card_Pages h')
     clear hK K
     simp only [Act.put, List.setIfInBounds_toArray, List.set_cons_zero, List.set_cons_succ])
  iterate 1
    (refine wpP_head rfl (by decide) (fun K hK => ?_)
     apply Exists.intro
     refine ⟨fun wq hq => ?_, hK _ ?_⟩
     · have h' := H2.out.below hq
       have c1 := h'.cardP
       have c2 := h'.latch
       obtain ⟨z0, z1, z2⟩ := place_row zb.out hq
       go_simp
       first | exact rfl | exact ⟨hq, rfl⟩ | exact ⟨rfl, rfl⟩ | exact calls_under hq (HPg.out wq)
     clear hK K
     simp only [Act.put, List.setIfInBounds_toArray, List.set_cons_zero, List.set_cons_succ])
  iterate 3
    (refine wpP_head rfl (by decide) (fun K hK => ?_)
     apply Exists.intro
     refine ⟨fun wq hq => ?_, hK _ ?_⟩
     · have h' := H2.out.below hq
       have c1 := h'.cardP
       have c2 := h'.latch
       obtain ⟨z0, z1, z2⟩ := place_row zb.out hq
       go_simp
       first | exact rfl | exact ⟨hq, rfl⟩ | exact ⟨rfl, rfl⟩ | exact calls_under_same hq (card_Byte h' _ _ HPM.out HAT.out)
     clear hK K
     simp only [Act.put, List.setIfInBounds_toArray, List.set_cons_zero, List.set_cons_succ])
  refine wpP_last rfl (by decide) (by kernel_rfl) (by kernel_rfl) ?_
  apply Exists.intro
  refine ⟨fun wq hq => ?_, ?_⟩
  · have h0 := hq
    go_simp
    first | exact ⟨hq, rfl⟩ | exact hq | exact ⟨hb2.out.trans (hq.mono hb2.out.size), rfl⟩
  simp only [Act.put, List.setIfInBounds_toArray, List.set_cons_zero, List.set_cons_succ]
  intro wg hg
  have HG := Lib.hid (HB.out.below hg)
  have TG := Lib.hid (Tr.of_below0 (S := l.own) hg)
  clear hg
  go_wp2_with fail
  go_ret
  exact ⟨rfl, HG.out, TG.out⟩
set_option maxHeartbeats 4000000 in
theorem bus_Read1 (h : BusAt w l B) (a : Int) (hk : regKind a = 1) : Calls Tryz.prog 25 #[.pointer (some ⟨l.p, 0, none⟩), .int .i64 a] w fun e w' => e = .returned (.int .i64 (B.rd a)) ∧ BusAt w' l (B.go a) ∧ Tr l.own w w' := by
  have HN := Lib.hid (bus_none h)
  have hat := reg_at a
  have hrl := h.ok.ramL
  have hri := h.ok.ram (regAt a).toNat
  have e1 : B.go a = B := by unfold BusV.go; rw [hk, if_neg (by decide), if_neg (by decide), if_neg (by decide)]
  have e2 : B.rd a = nth 0 B.ram (regAt a).toNat := by unfold BusV.rd; rw [hk, if_neg (by decide), if_pos rfl]
  rw [e1, e2]
  have HW : Hid (∀ w, Calls Tryz.prog 51 #[.int .i64 a] w fun e w' => e = .returned (.agg #[.int .i64 1, .int .i64 (regPage a), .int .i64 (regAt a)]) ∧ Below w.heap.size w w') := Lib.hid (fun w => by have := region_Where a w; rw [hk] at this; exact this)
  have HB := Lib.hid h
  have hmf : ∀ (fn : Fn) (first cap : Array Value) (w : World), (Instr.makeFunc fn first cap).run Tryz.prog w = .ok (.func fn first cap) w := fun _ _ _ _ => rfl
  obtain ⟨pg, hpg⟩ : ∃ pg, pg = regPage a := ⟨_, rfl⟩
  obtain ⟨at', hat'⟩ : ∃ at', at' = regAt a := ⟨_, rfl⟩
  rw [← hpg, ← hat'] at HW
  rw [← hat'] at hat hri
  rw [← hat']
  have hq2 : at'.toNat < B.ram.length := by omega
  have hra := Lib.hid (fun w' (hb : Below w.heap.size w w') => show w'.cell? ⟨l.p, 283 + at'.toNat, none⟩ = some (.int .u8 (nth 0 B.ram at'.toNat)) from range_nth ((h.below hb).ram) 0 hq2)
  have ht : IntKind.i64.wrap (nth 0 B.ram at'.toNat) = nth 0 B.ram at'.toNat := IntWalk.i64_in _ (by omega)
  have HTN := Lib.hid (show ((at'.toNat : Nat) : Int) = at' by omega)
  have x1 : 0 ≤ at' := hat.1
  have x2 : at' < 8192 := hat.2
  clear h e1 e2 hk hpg hat' hat hrl hq2 hri
  go_enter Tryz.func25, Tryz.ntmps25
  go_wp2_with fail
  refine HN.out.mono ?_; rintro e w' ⟨rfl, rfl⟩
  go_wp2_with fail
  refine (HW.out _).mono ?_; rintro e w1 ⟨rfl, b1⟩
  have zb := Lib.hid (Blk.new w1 #[.int .i64 1, .int .i64 pg, .int .i64 at'] 131)
  have hb2 := Lib.hid (bal b1 (o := Obj.cells #[.int .i64 1, .int .i64 pg, .int .i64 at'] 131))
  have H2 := Lib.hid (HB.out.below hb2.out)
  have T2 := Lib.hid (Tr.of_below0 (S := l.own) hb2.out)
  go_wp2_with fail
  obtain ⟨w2, hw2⟩ : ∃ w2, w2 = w1.alloc (Obj.cells #[.int .i64 1, .int .i64 pg, .int .i64 at'] 131) := ⟨_, rfl⟩
  rw [← hw2] at zb hb2 H2 T2 ⊢
  clear hw2 b1
  generalize w1.heap.size = g2 at *
  refine wp_region_last 8 (fun w' => Below w.heap.size w w') (by kernel_rfl) (by kernel_rfl) (by kernel_rfl) (by decide) ?_
  iterate 8
    (refine wpP_head rfl (by decide) (fun K hK => ?_)
     apply Exists.intro
     refine ⟨fun wq hq => ?_, hK _ ?_⟩
     · have h' := H2.out.below hq
       obtain ⟨z0, z1, z2⟩ := place_row zb.out hq
       have c1 := hra.out wq (hb2.out.trans (hq.mono hb2.out.size))
       go_simp
       first | exact rfl | exact ⟨hq, rfl⟩ | exact ⟨rfl, rfl⟩ | trace_state
     clear hK K
     simp only [Act.put, List.setIfInBounds_toArray, List.set_cons_zero, List.set_cons_succ])
  refine wpP_last rfl (by decide) (by kernel_rfl) (by kernel_rfl) ?_
  apply Exists.intro
  refine ⟨fun wq hq => ?_, ?_⟩
  · have h0 := hq
    go_simp
    first | exact ⟨hq, rfl⟩ | exact hq | exact ⟨hb2.out.trans (hq.mono hb2.out.size), rfl⟩
  simp only [Act.put, List.setIfInBounds_toArray, List.set_cons_zero, List.set_cons_succ]
  intro wg hg
  have HG := Lib.hid (HB.out.below hg)
  have TG := Lib.hid (Tr.of_below0 (S := l.own) hg)
  clear hg
  go_wp2_with fail
  go_ret
  exact ⟨rfl, HG.out, TG.out⟩
set_option maxHeartbeats 4000000 in
theorem bus_Read8 (h : BusAt w l B) (a : Int) (hk : regKind a = 8) : Calls Tryz.prog 25 #[.pointer (some ⟨l.p, 0, none⟩), .int .i64 a] w fun e w' => e = .returned (.int .i64 (B.rd a)) ∧ BusAt w' l (B.go a) ∧ Tr l.own w w' := by
  have HN := Lib.hid (bus_none h)
  have e1 : B.go a = B := by unfold BusV.go; rw [hk, if_neg (by decide), if_neg (by decide), if_neg (by decide)]
  have e2 : B.rd a = 255 := by unfold BusV.rd; rw [hk, if_neg (by decide), if_neg (by decide), if_neg (by decide), if_neg (by decide), if_pos rfl]
  rw [e1, e2]
  have HW : Hid (∀ w, Calls Tryz.prog 51 #[.int .i64 a] w fun e w' => e = .returned (.agg #[.int .i64 8, .int .i64 (regPage a), .int .i64 (regAt a)]) ∧ Below w.heap.size w w') := Lib.hid (fun w => by have := region_Where a w; rw [hk] at this; exact this)
  have HB := Lib.hid h
  have hmf : ∀ (fn : Fn) (first cap : Array Value) (w : World), (Instr.makeFunc fn first cap).run Tryz.prog w = .ok (.func fn first cap) w := fun _ _ _ _ => rfl
  obtain ⟨pg, hpg⟩ : ∃ pg, pg = regPage a := ⟨_, rfl⟩
  obtain ⟨at', hat'⟩ : ∃ at', at' = regAt a := ⟨_, rfl⟩
  rw [← hpg, ← hat'] at HW
  clear h e1 e2 hk hpg hat'
  go_enter Tryz.func25, Tryz.ntmps25
  go_wp2_with fail
  refine HN.out.mono ?_; rintro e w' ⟨rfl, rfl⟩
  go_wp2_with fail
  refine (HW.out _).mono ?_; rintro e w1 ⟨rfl, b1⟩
  have zb := Lib.hid (Blk.new w1 #[.int .i64 8, .int .i64 pg, .int .i64 at'] 131)
  have hb2 := Lib.hid (bal b1 (o := Obj.cells #[.int .i64 8, .int .i64 pg, .int .i64 at'] 131))
  have H2 := Lib.hid (HB.out.below hb2.out)
  have T2 := Lib.hid (Tr.of_below0 (S := l.own) hb2.out)
  go_wp2_with fail
  go_ret
  exact ⟨rfl, H2.out, T2.out⟩
set_option maxHeartbeats 4000000 in
theorem bus_Read2 (h : BusAt w l B) (a : Int) (hk : regKind a = 2) : Calls Tryz.prog 25 #[.pointer (some ⟨l.p, 0, none⟩), .int .i64 a] w fun e w' => e = .returned (.int .i64 (B.rd a)) ∧ BusAt w' l (B.go a) ∧ Tr l.own w w' := by
  have HN := Lib.hid (bus_none h)
  have e1 : B.go a = B.goVdc (regAt a) := by unfold BusV.go; rw [hk, if_pos rfl]
  have e2 : B.rd a = B.rdVdc (regAt a) := by unfold BusV.rd; rw [hk, if_neg (by decide), if_neg (by decide), if_pos rfl]
  rw [e1, e2]
  have HW : Hid (∀ w, Calls Tryz.prog 51 #[.int .i64 a] w fun e w' => e = .returned (.agg #[.int .i64 2, .int .i64 (regPage a), .int .i64 (regAt a)]) ∧ Below w.heap.size w w') := Lib.hid (fun w => by have := region_Where a w; rw [hk] at this; exact this)
  have HB := Lib.hid h
  have hmf : ∀ (fn : Fn) (first cap : Array Value) (w : World), (Instr.makeFunc fn first cap).run Tryz.prog w = .ok (.func fn first cap) w := fun _ _ _ _ => rfl
  obtain ⟨pg, hpg⟩ : ∃ pg, pg = regPage a := ⟨_, rfl⟩
  obtain ⟨at', hat'⟩ : ∃ at', at' = regAt a := ⟨_, rfl⟩
  rw [← hpg, ← hat'] at HW
  rw [← hat']
  clear h e1 e2 hk hpg hat'
  go_enter Tryz.func25, Tryz.ntmps25
  go_wp2_with fail
  refine HN.out.mono ?_; rintro e w' ⟨rfl, rfl⟩
  go_wp2_with fail
  refine (HW.out _).mono ?_; rintro e w1 ⟨rfl, b1⟩
  have zb := Lib.hid (Blk.new w1 #[.int .i64 2, .int .i64 pg, .int .i64 at'] 131)
  have hb2 := Lib.hid (bal b1 (o := Obj.cells #[.int .i64 2, .int .i64 pg, .int .i64 at'] 131))
  have H2 := Lib.hid (HB.out.below hb2.out)
  have T2 := Lib.hid (Tr.of_below0 (S := l.own) hb2.out)
  go_wp2_with fail
  refine (bus_picture H2.out at').mono ?_; rintro e w3 ⟨rfl, h3, t3⟩
  have H3 := Lib.hid h3
  have T3 := Lib.hid (T2.out.trans t3)
  clear h3 t3
  go_wp2_with fail
  go_ret
  exact ⟨rfl, H3.out, T3.out⟩
set_option maxHeartbeats 4000000 in
theorem bus_Read3 (h : BusAt w l B) (a : Int) (hk : regKind a = 3) : Calls Tryz.prog 25 #[.pointer (some ⟨l.p, 0, none⟩), .int .i64 a] w fun e w' => e = .returned (.int .i64 (B.rd a)) ∧ BusAt w' l (B.go a) ∧ Tr l.own w w' := by
  have HN := Lib.hid (bus_none h)
  have e1 : B.go a = { B with vce := B.vce.got (regAt a) } := by unfold BusV.go; rw [hk, if_neg (by decide), if_pos rfl]
  have e2 : B.rd a = B.vce.read (regAt a) := by unfold BusV.rd; rw [hk, if_neg (by decide), if_neg (by decide), if_neg (by decide), if_pos rfl]
  rw [e1, e2]
  have HW : Hid (∀ w, Calls Tryz.prog 51 #[.int .i64 a] w fun e w' => e = .returned (.agg #[.int .i64 3, .int .i64 (regPage a), .int .i64 (regAt a)]) ∧ Below w.heap.size w w') := Lib.hid (fun w => by have := region_Where a w; rw [hk] at this; exact this)
  have HB := Lib.hid h
  have hmf : ∀ (fn : Fn) (first cap : Array Value) (w : World), (Instr.makeFunc fn first cap).run Tryz.prog w = .ok (.func fn first cap) w := fun _ _ _ _ => rfl
  obtain ⟨pg, hpg⟩ : ∃ pg, pg = regPage a := ⟨_, rfl⟩
  obtain ⟨at', hat'⟩ : ∃ at', at' = regAt a := ⟨_, rfl⟩
  rw [← hpg, ← hat'] at HW
  rw [← hat']
  clear h e1 e2 hk hpg hat'
  go_enter Tryz.func25, Tryz.ntmps25
  go_wp2_with fail
  refine HN.out.mono ?_; rintro e w' ⟨rfl, rfl⟩
  go_wp2_with fail
  refine (HW.out _).mono ?_; rintro e w1 ⟨rfl, b1⟩
  have zb := Lib.hid (Blk.new w1 #[.int .i64 3, .int .i64 pg, .int .i64 at'] 131)
  have hb2 := Lib.hid (bal b1 (o := Obj.cells #[.int .i64 3, .int .i64 pg, .int .i64 at'] 131))
  have H2 := Lib.hid (HB.out.below hb2.out)
  have T2 := Lib.hid (Tr.of_below0 (S := l.own) hb2.out)
  go_wp2_with fail
  refine (bus_colours H2.out at').mono ?_; rintro e w3 ⟨rfl, h3, t3⟩
  have H3 := Lib.hid h3
  have T3 := Lib.hid (T2.out.trans t3)
  clear h3 t3
  go_wp2_with fail
  go_ret
  exact ⟨rfl, H3.out, T3.out⟩
set_option maxHeartbeats 4000000 in
theorem bus_Read4 (h : BusAt w l B) (a : Int) (hlag : 0 ≤ B.lag ∧ B.lag ≤ 1099511627776) (hk : 4 ≤ regKind a ∧ regKind a ≤ 7) : Calls Tryz.prog 25 #[.pointer (some ⟨l.p, 0, none⟩), .int .i64 a] w fun e w' => e = .returned (.int .i64 (B.rd a)) ∧ BusAt w' l (B.go a) ∧ Tr l.own w w' := by
  have HN := Lib.hid (bus_none h)
  have e1 : B.go a = B.goHeld (regKind a) (regAt a) := by unfold BusV.go; rw [if_neg (by omega), if_neg (by omega), if_pos hk]
  have e2 : B.rd a = (B.goHeld (regKind a) (regAt a)).hold := by unfold BusV.rd; rw [if_neg (by omega), if_neg (by omega), if_neg (by omega), if_neg (by omega), if_neg (by omega)]
  rw [e1, e2]
  have HW : Hid (∀ w, Calls Tryz.prog 51 #[.int .i64 a] w fun e w' => e = .returned (.agg #[.int .i64 (regKind a), .int .i64 (regPage a), .int .i64 (regAt a)]) ∧ Below w.heap.size w w') := Lib.hid (fun w => by have := region_Where a w; exact this)
  have HB := Lib.hid h
  have hmf : ∀ (fn : Fn) (first cap : Array Value) (w : World), (Instr.makeFunc fn first cap).run Tryz.prog w = .ok (.func fn first cap) w := fun _ _ _ _ => rfl
  obtain ⟨pg, hpg⟩ : ∃ pg, pg = regPage a := ⟨_, rfl⟩
  obtain ⟨at', hat'⟩ : ∃ at', at' = regAt a := ⟨_, rfl⟩
  rw [← hpg, ← hat'] at HW
  have ha3 : 0 ≤ regAt a ∧ (regAt a ≤ 3 ∨ regKind a = 4) := by
    unfold regAt
    rw [if_neg (by omega)]
    split
    · omega
    rw [if_neg (by omega)]
    split
    · omega
    split
    · omega
    · omega
  obtain ⟨k, hkk⟩ : ∃ k, k = regKind a := ⟨_, rfl⟩
  rw [← hkk] at hk HW ha3 ⊢
  rw [← hat'] at ha3 ⊢
  have HH : Hid (∀ w', BusAt w' l B → Calls Tryz.prog 66 #[.pointer (some ⟨l.p, 0, none⟩), .int .i64 k, .int .i64 at'] w' fun e w'' => e = .returned (.int .i64 (B.goHeld k at').hold) ∧ BusAt w'' l (B.goHeld k at') ∧ Tr l.own w' w'') := Lib.hid (fun w' h' => by
    rcases ha3 with ⟨h0, h3 | h3⟩
    · exact bus_held h' hlag k at' hk ⟨h0, h3⟩
    · subst h3; exact bus_held0 h' 4 at' (.inl rfl))
  have k0 : (k == 0) = false := by simp; omega
  have k1 : (k == 1) = false := by simp; omega
  have k2 : (k == 2) = false := by simp; omega
  have k3 : (k == 3) = false := by simp; omega
  have k8 : (k == 8) = false := by simp; omega
  clear h e1 e2 hk hpg hat' hkk ha3 hlag
  go_enter Tryz.func25, Tryz.ntmps25
  go_wp2_with fail
  refine HN.out.mono ?_; rintro e w' ⟨rfl, rfl⟩
  go_wp2_with fail
  refine (HW.out _).mono ?_; rintro e w1 ⟨rfl, b1⟩
  have zb := Lib.hid (Blk.new w1 #[.int .i64 k, .int .i64 pg, .int .i64 at'] 131)
  have hb2 := Lib.hid (bal b1 (o := Obj.cells #[.int .i64 k, .int .i64 pg, .int .i64 at'] 131))
  have H2 := Lib.hid (HB.out.below hb2.out)
  have T2 := Lib.hid (Tr.of_below0 (S := l.own) hb2.out)
  go_wp2_with fail
  refine (HH.out _ H2.out).mono ?_; rintro e w3 ⟨rfl, h3, t3⟩
  have H3 := Lib.hid h3
  have T3 := Lib.hid (T2.out.trans t3)
  clear h3 t3
  go_wp2_with fail
  go_ret
  exact ⟨rfl, H3.out, T3.out⟩
theorem bus_Read (h : BusAt w l B) (hlag : 0 ≤ B.lag ∧ B.lag ≤ 1099511627776) (a : Int) : Calls Tryz.prog 25 #[.pointer (some ⟨l.p, 0, none⟩), .int .i64 a] w fun e w' => e = .returned (.int .i64 (B.rd a)) ∧ BusAt w' l (B.go a) ∧ Tr l.own w w' := by
  have hr := regKind_in a
  rcases (show regKind a = 0 ∨ regKind a = 1 ∨ regKind a = 2 ∨ regKind a = 3 ∨ regKind a = 8 ∨ (4 ≤ regKind a ∧ regKind a ≤ 7) by omega) with hk | hk | hk | hk | hk | hk
  · exact bus_Read0 h a hk
  · exact bus_Read1 h a hk
  · exact bus_Read2 h a hk
  · exact bus_Read3 h a hk
  · exact bus_Read8 h a hk
  · exact bus_Read4 h a hlag hk
end
end Go.Proofs.YtnllkgjmoipgbaaGreatDoor
-- SmS
namespace Go.Proofs.YtnllkgjmoipgbaaGreatDoor
open Go Go.RowKit
set_option linter.unusedSimpArgs false
set_option linter.unusedVariables false
set_option maxRecDepth 100000

theorem Blk.belowN {w w' : World} {b n : Nat} {cs : Array Value} {t : TypeId} (h : Blk w b cs t) (hb : Below n w w') (hn : b < n) : Blk w' b cs t := by unfold Blk at *; rw [hb.block b hn]; exact h
theorem VAt.belowN {t : TypeId} {w w' : World} {p g n : Nat} {V : VS} (h : VAt t w p g V) (hb : Below n w w') (hp : p < n) (hg : g < n) : VAt t w' p g V :=
  let ⟨R, h1, h2⟩ := h.obj
  ⟨⟨R, Blk.belowN h1 hb hp, Blk.belowN h2 hb hg⟩, h.ok, h.ne⟩
theorem Tr.belowN {S : List Nat} {W w w' : World} (h : Tr S W w) (hb : Below W.heap.size w w') : Tr S W w' :=
  ⟨hb.os.trans h.os, hb.tape.trans h.tape, hb.output.trans h.output, Nat.le_trans h.size hb.size, fun k hk hn => (hb.block k hk).trans (h.block k hk hn)⟩
section
variable {w : World} {l : BusL} {B : BusV}
theorem BusL.sub (l : BusL) : ∀ k ∈ [l.vg], k ∈ l.own := by intro k hk; unfold BusL.own; simp only [List.mem_cons, List.not_mem_nil, or_false] at hk ⊢; exact Or.inr (Or.inr hk)
theorem BusL.subV (l : BusL) : ∀ k ∈ [l.vg], k ∈ [l.vp, l.vg] := by intro k hk; simp only [List.mem_cons, List.not_mem_nil, or_false] at hk ⊢; exact Or.inr hk
theorem BusL.subVO (l : BusL) : ∀ k ∈ [l.vp, l.vg], k ∈ l.own := by intro k hk; unfold BusL.own; simp only [List.mem_cons, List.not_mem_nil, or_false] at hk ⊢; exact Or.inr hk
theorem BusAt.reg (h : BusAt w l B) (j : Nat) (hj : j < 20) {o : Nat} (ho : 1 + j = o) : w.cell? ⟨l.p, o, none⟩ = some (.int .i64 (B.regs.reg j)) := by
  have := (RegsV.reads h.regs h.ok.regs.len).2 j hj
  subst ho
  simpa using this
/-- A register laid anew. -/
theorem BusAt.setReg (h : BusAt w l B) (j : Nat) (hj : j < 20) (hm : maskOf j = 65535) (x : Int) (hx : 0 ≤ x ∧ x ≤ 65535) {o : Nat} (ho : 1 + j = o) : BusAt (w.setCell ⟨l.p, o, none⟩ (.int .i64 x)) l { B with regs := { B.regs with R := B.regs.R.set j x } } := by
  subst ho
  have hl := h.ok.regs.len
  have hcs : ({ B.regs with R := B.regs.R.set j x } : RegsV).cells = B.regs.cells.set (1 + j) (.int .i64 x) := by
    unfold RegsV.cells
    rw [List.set_append_right _ _ (by simp)]
    congr 1
    simp [intsC, List.map_set]
  have key : w.setCell ⟨l.p, 1 + j, none⟩ (.int .i64 x) = w.setCell ⟨l.p, 1 + j, none⟩ (.int .i64 x) := rfl
  have a := h.ap
  have T : Tr [l.p] w (w.setCell ⟨l.p, 1 + j, none⟩ (.int .i64 x)) := Tr.setCell (Tr.refl _ _) _ (by simp) _
  have h1 := fld_set1 h.obj (BusV.lens h.ok _ _) 0 (1 + j) (.int .i64 x) (x := B.regs.cells) rfl (by rw [RegsV.length hl]; omega) (oj := 1 + j) (by show offL busLens 0 + (1 + j) = 1 + j; rw [show offL busLens 0 = 0 by decide]; omega)
  refine ⟨?_, h.v.tr T (by simpa using Ne.symm a.pv) (by simpa using Ne.symm a.pg), Blk.tr h.card T (by simpa using Ne.symm a.pc), h.rom.tr T (by simpa using Ne.symm a.pr), h.cap, { h.ok with regs := h.ok.regs.setW j hm x hx }, a⟩
  rw [← hcs] at h1
  exact h1
set_option maxHeartbeats 4000000 in
theorem bus_move (h : BusAt w l B) : Calls Tryz.prog 124 #[.pointer (some ⟨l.p, 0, none⟩)] w fun e w' => e = .returned (.tuple #[]) ∧ BusAt w' l B.move ∧ Tr l.own w w' := by
  have hlt := h.lt
  have h15 := h.ok.regs.reg 15
  have h16 := h.ok.regs.reg 16
  have h17 := h.ok.regs.reg 17
  have h18 := h.ok.regs.reg 18
  obtain ⟨V', hV'⟩ : ∃ V', V' = mv B.V (1 - 2 * bitI (B.regs.reg 15) 2) (1 - 2 * bitI (B.regs.reg 15) 3) (B.regs.reg 16) (B.regs.reg 17) ((B.regs.reg 18).toNat + 1) := ⟨_, rfl⟩
  obtain ⟨x, hx⟩ : ∃ x, x = (B.regs.reg 16 + (1 - 2 * bitI (B.regs.reg 15) 2) * (((B.regs.reg 18).toNat + 1 : Nat) : Int)) % 65536 := ⟨_, rfl⟩
  obtain ⟨y, hy⟩ : ∃ y, y = (B.regs.reg 17 + (1 - 2 * bitI (B.regs.reg 15) 3) * (((B.regs.reg 18).toNat + 1 : Nat) : Int)) % 65536 := ⟨_, rfl⟩
  have HM : Hid (∀ w', VAt 149 w' l.vp l.vg B.V → Calls Tryz.prog 207 #[.pointer (some ⟨l.vp, 0, none⟩), .agg #[.int .i64 (B.regs.reg 16), .int .i64 (B.regs.reg 17)], .int .i64 (B.regs.reg 18), .int .i64 (B.regs.reg 15)] w' fun e w'' =>
      e = .returned (.agg #[.int .i64 x, .int .i64 y]) ∧ VAt 149 w'' l.vp l.vg V' ∧ Tr [l.vp, l.vg] w' w'') := Lib.hid (fun w' hv => (dma_Move hv (B.regs.reg 16) (B.regs.reg 17) (B.regs.reg 18) (B.regs.reg 15) (B.regs.reg 18).toNat (by omega)).mono fun e w'' hh => ⟨by rw [hh.1, hx, hy], by rw [hV']; exact hh.2.1, hh.2.2.mono l.subV⟩)
  have hxi : 0 ≤ x ∧ x ≤ 65535 := by omega
  have hyi : 0 ≤ y ∧ y ≤ 65535 := by omega
  obtain ⟨B4, hB4⟩ : ∃ B4 : BusV, B4 = { B with V := V', regs := { B.regs with R := ((B.regs.R.set 16 x).set 17 y).set 18 65535 } } := ⟨_, rfl⟩
  have em : B.move = B4.tell 16 (bitI (B.regs.reg 15) 1 == 1) := by rw [hB4, hV', hx, hy]; rfl
  rw [em]
  have HB := Lib.hid h
  have HL := Lib.hid hlt
  have c15 := h.reg 15 (by omega) (o := 16) rfl
  have c16 := h.reg 16 (by omega) (o := 17) rfl
  have c17 := h.reg 17 (by omega) (o := 18) rfl
  have c18 := h.reg 18 (by omega) (o := 19) rfl
  have cv := h.vram
  have DC : Hid (∀ wq, (Below w.heap.size w wq ∨ (VAt 149 wq l.vp l.vg V' ∧ Tr [l.vp, l.vg] w wq)) → wq.cell? ⟨l.p, 16, none⟩ = some (.int .i64 (B.regs.reg 15)) ∧ wq.cell? ⟨l.p, 17, none⟩ = some (.int .i64 (B.regs.reg 16)) ∧ wq.cell? ⟨l.p, 18, none⟩ = some (.int .i64 (B.regs.reg 17)) ∧ wq.cell? ⟨l.p, 19, none⟩ = some (.int .i64 (B.regs.reg 18)) ∧ wq.cell? ⟨l.p, 21, none⟩ = some (.pointer (some ⟨l.vp, 0, none⟩))) := Lib.hid (fun wq hq => by
    have hb : ∀ i, wq.cell? ⟨l.p, i, none⟩ = w.cell? ⟨l.p, i, none⟩ := fun i => by
      have e : wq.heap[l.p]? = w.heap[l.p]? := by
        rcases hq with hq | ⟨_, hq⟩
        · exact hq.block _ hlt.1
        · exact hq.block _ hlt.1 (by simp; exact ⟨h.ap.pv, h.ap.pg⟩)
      exact World.cell?_of_block (w := w) (a := ⟨l.p, i, none⟩) e
    rw [hb, hb, hb, hb, hb]; exact ⟨c15, c16, c17, c18, cv⟩)
  clear h hlt em hV' hx hy
  go_enter Tryz.func124, Tryz.ntmps124
  go_wp2_with fail
  refine wp_region_g (⟨[22], fun m w' => if m = 0 then Below w.heap.size w w' else (VAt 149 w' l.vp l.vg V' ∧ Tr [l.vp, l.vg] w w'), [l.vp, l.vg], w.heap.size, 23, 24, 3, 109, .tmp 31, #[.int .i64 0, .int .i64 0], #[.int .i64 x, .int .i64 y], 109⟩ : GSpec) (by kernel_rfl) (by kernel_rfl) (by kernel_rfl) (GOk.full (by decide) ⟨_, rfl, rfl, rfl, fun a w => ?_⟩ ⟨_, rfl, rfl, rfl, rfl⟩ (by intro h; cases h) (by kernel_rfl) (by kernel_rfl) (by decide) (by decide) (by kernel_rfl) (by rfl) (by simp [Value.oneCell']) ?_ ?_ ?_) (by kernel_rfl) (Nat.le_of_ble_eq_true (by kernel_rfl)) (Nat.le_of_ble_eq_true (by kernel_rfl)) (Nat.le_of_ble_eq_true (by kernel_rfl)) (show Below w.heap.size w w.drew from (Below.refl _ _).drew) ?_
  · go_simp
    try rfl
  · intro m w1 w2 h1 h2
    split
    · rename_i hm; rw [if_pos hm] at h1; exact h1.trans h2
    · rename_i hm; rw [if_neg hm] at h1; exact ⟨h1.1.belowN h2 HL.out.2.1 HL.out.2.2.1, h1.2.belowN h2⟩
  · intro m w1 h1
    split at h1
    · exact h1.size
    · exact h1.2.size
  · intro x hx
    simp only [List.mem_cons, List.not_mem_nil, or_false] at hx
    rcases hx with rfl | rfl
    · exact HL.out.2.1
    · exact HL.out.2.2.1
  iterate 22
    (refine wpGf_other rfl (by decide) (by decide) (by decide) (fun K hK => ?_)
     apply Exists.intro
     refine ⟨fun m wq hm hq => ?_, hK _ ?_⟩
     · have hq' := Lib.hid hq
       obtain ⟨z0, z1, z2, z3, z4⟩ := DC.out wq (by split at hq; exact .inl hq; exact .inr hq)
       clear hq
       go_simp
       first | exact ⟨⟨hq, Tr.refl _ _⟩, rfl⟩ | exact ⟨hq, Tr.refl _ _⟩ | exact ⟨⟨hq'.out, Tr.refl _ _⟩, rfl⟩ | exact ⟨hq'.out, Tr.refl _ _⟩ | exact ⟨Tr.refl _ _, rfl⟩ | exact Tr.refl _ _
     clear hK K
     simp only [Act.put, List.setIfInBounds_toArray, List.set_cons_zero, List.set_cons_succ])
  refine wpGf_turn 0 rfl (by decide) (by decide) (by decide) rfl (by kernel_rfl) ?_
  apply Exists.intro
  refine ⟨fun wq hq => ?_, ?_⟩
  · rw [if_pos rfl] at hq
    have hz := hq
    go_simp
    exact (HM.out wq (HB.out.below hq).v).mono fun e w'' hh => ⟨hh.1, ⟨⟨hh.2.1, (Tr.of_below0 hq).trans (hh.2.2)⟩, hh.2.2⟩⟩
  simp only [Act.put, List.setIfInBounds_toArray, List.set_cons_zero, List.set_cons_succ]
  refine wpG_alloc rfl ?_
  simp only [Act.put, List.setIfInBounds_toArray, List.set_cons_zero, List.set_cons_succ]
  refine wpG_store rfl (rfl) ?_
  simp only [Act.put, List.setIfInBounds_toArray, List.set_cons_zero, List.set_cons_succ]
  intro g wg hg hgb hgw
  simp only [Act.put, List.setIfInBounds_toArray, List.set_cons_zero, List.set_cons_succ]
  simp only [ptrTo]
  have hgv : VAt 149 wg l.vp l.vg V' ∧ Tr [l.vp, l.vg] w wg := hgw
  have H1 := HB.out.putV hgv.1 hgv.2
  have T1 : Tr l.own w wg := hgv.2.mono l.subVO
  have hga : Blk wg g #[.int .i64 x, .int .i64 y] 109 := hgb
  have hne : g ≠ l.p := by have := HL.out.1; omega
  have HX := Lib.hid hxi
  have HY := Lib.hid hyi
  obtain ⟨D, hD⟩ : ∃ D : Nat → World → Prop, D = fun m w' => (m = 0 → BusAt w' l { B with V := V' }) ∧ (m = 1 → BusAt w' l { B with V := V', regs := { B.regs with R := B.regs.R.set 16 x } }) ∧ (m = 2 → BusAt w' l { B with V := V', regs := { B.regs with R := (B.regs.R.set 16 x).set 17 y } }) ∧ (m = 3 → BusAt w' l B4) ∧ Blk w' g #[.int .i64 x, .int .i64 y] 109 ∧ Tr l.own w w' := ⟨_, rfl⟩
  have HD := Lib.hid hD
  have HD0 := Lib.hid (show D 0 wg.drew by rw [hD]; exact ⟨fun _ => H1.below (Below.refl _ _).drew, (fun h => absurd h (by decide)), (fun h => absurd h (by decide)), (fun h => absurd h (by decide)), hga, T1.drew⟩)
  have HD3 := Lib.hid (show ∀ w', D 3 w' → BusAt w' l B4 ∧ Tr l.own w w' from fun w' h => by rw [hD] at h; exact ⟨h.2.2.2.1 rfl, h.2.2.2.2.2⟩)
  have HG := Lib.hid (show ∀ m w', D m w' → w'.cell? ⟨g, 0, none⟩ = some (.int .i64 x) ∧ w'.cell? ⟨g, 1, none⟩ = some (.int .i64 y) from fun m w' h => by rw [hD] at h; exact ⟨Blk.cell h.2.2.2.2.1 0, Blk.cell h.2.2.2.2.1 1⟩)
  have HB4 := Lib.hid hB4
  clear hD hgw hgv hgb hga H1 T1 c15 c16 c17 c18 cv DC HM hB4 hxi hyi h15 h16 h17 h18
  go_wp2_with fail
  refine wp_region_n [10, 13, 16] D (by kernel_rfl) (by kernel_rfl) (by kernel_rfl) (by decide) HD0.out ?_
  iterate 10
    (refine wpN_other rfl (by decide) (fun K hK => ?_)
     apply Exists.intro
     refine ⟨fun m wq hm hq => ?_, hK _ ?_⟩
     · have hz := Lib.hid hq
       obtain ⟨g0, g1⟩ := HG.out m wq hq
       clear hq
       go_simp
       first | exact rfl | exact ⟨hq, rfl⟩ | exact ⟨rfl, rfl⟩ | exact hz.out | exact ⟨hz.out, rfl⟩ | exact (bits_Word (-1) wq).mono fun e w'' hh => ⟨hh.1, hh.2 ▸ hz.out⟩
     clear hK K
     simp only [Act.put, List.setIfInBounds_toArray, List.set_cons_zero, List.set_cons_succ])
  refine wpN_turn 0 rfl (by decide) rfl (by kernel_rfl) ?_
  apply Exists.intro
  refine ⟨fun wq hq => ?_, ?_⟩
  · rw [HD.out] at hq
    have hb := hq.1 rfl
    have c := hb.reg 16 (by omega) (o := 17) rfl
    have f := hb.free 17
    have hs := Lib.hid (hb.setReg 16 (by omega) (by decide) x HX.out (o := 17) rfl)
    have hg2 := Lib.hid (Blk.other (i := 17) hq.2.2.2.2.1 (.int .i64 x) hne)
    have ht2 := Lib.hid (hq.2.2.2.2.2.setCell 17 l.mem (.int .i64 x))
    clear hq hb
    go_simp
    exact ⟨by rw [HD.out]; exact ⟨(fun h => absurd h (by decide)), fun _ => hs.out, (fun h => absurd h (by decide)), (fun h => absurd h (by decide)), hg2.out, ht2.out⟩, rfl⟩
  simp only [Act.put, List.setIfInBounds_toArray, List.set_cons_zero, List.set_cons_succ]
  iterate 2
    (refine wpN_other rfl (by decide) (fun K hK => ?_)
     apply Exists.intro
     refine ⟨fun m wq hm hq => ?_, hK _ ?_⟩
     · have hz := Lib.hid hq
       obtain ⟨g0, g1⟩ := HG.out m wq hq
       clear hq
       go_simp
       first | exact rfl | exact ⟨hq, rfl⟩ | exact ⟨rfl, rfl⟩ | exact hz.out | exact ⟨hz.out, rfl⟩
     clear hK K
     simp only [Act.put, List.setIfInBounds_toArray, List.set_cons_zero, List.set_cons_succ])
  refine wpN_turn 1 rfl (by decide) rfl (by kernel_rfl) ?_
  apply Exists.intro
  refine ⟨fun wq hq => ?_, ?_⟩
  · rw [HD.out] at hq
    have hb := hq.2.1 rfl
    have c := hb.reg 17 (by omega) (o := 18) rfl
    have f := hb.free 18
    have hs := Lib.hid (hb.setReg 17 (by omega) (by decide) y HY.out (o := 18) rfl)
    have hg2 := Lib.hid (Blk.other (i := 18) hq.2.2.2.2.1 (.int .i64 y) hne)
    have ht2 := Lib.hid (hq.2.2.2.2.2.setCell 18 l.mem (.int .i64 y))
    clear hq hb
    go_simp
    exact ⟨by rw [HD.out]; exact ⟨(fun h => absurd h (by decide)), (fun h => absurd h (by decide)), fun _ => hs.out, (fun h => absurd h (by decide)), hg2.out, ht2.out⟩, rfl⟩
  simp only [Act.put, List.setIfInBounds_toArray, List.set_cons_zero, List.set_cons_succ]
  iterate 2
    (refine wpN_other rfl (by decide) (fun K hK => ?_)
     apply Exists.intro
     refine ⟨fun m wq hm hq => ?_, hK _ ?_⟩
     · have hz := Lib.hid hq
       obtain ⟨g0, g1⟩ := HG.out m wq hq
       clear hq
       go_simp
       first | exact rfl | exact ⟨hq, rfl⟩ | exact ⟨rfl, rfl⟩ | exact hz.out | exact ⟨hz.out, rfl⟩
     clear hK K
     simp only [Act.put, List.setIfInBounds_toArray, List.set_cons_zero, List.set_cons_succ])
  refine wpN_turn 2 rfl (by decide) rfl (by kernel_rfl) ?_
  apply Exists.intro
  refine ⟨fun wq hq => ?_, ?_⟩
  · rw [HD.out] at hq
    have hb := hq.2.2.1 rfl
    have c := hb.reg 18 (by omega) (o := 19) rfl
    have f := hb.free 19
    have hs := Lib.hid (hb.setReg 18 (by omega) (by decide) 65535 (by decide) (o := 19) rfl)
    have hg2 := Lib.hid (Blk.other (i := 19) hq.2.2.2.2.1 (.int .i64 65535) hne)
    have ht2 := Lib.hid (hq.2.2.2.2.2.setCell 19 l.mem (.int .i64 65535))
    clear hq hb
    go_simp
    exact ⟨by rw [HD.out]; exact ⟨(fun h => absurd h (by decide)), (fun h => absurd h (by decide)), (fun h => absurd h (by decide)), fun _ => by rw [HB4.out]; exact hs.out, hg2.out, ht2.out⟩, rfl⟩
  simp only [Act.put, List.setIfInBounds_toArray, List.set_cons_zero, List.set_cons_succ]
  intro w4 hw4
  obtain ⟨h4, t4⟩ := HD3.out w4 hw4
  have c15 := h4.reg 15 (by omega) (o := 16) rfl
  have e15 : B4.regs.reg 15 = B.regs.reg 15 := by
    rw [HB4.out]
    show nth 0 (((B.regs.R.set 16 x).set 17 y).set 18 65535) 15 = nth 0 B.regs.R 15
    rw [nth_set_ne (by omega), nth_set_ne (by omega), nth_set_ne (by omega)]
  rw [e15] at c15
  have H4 := Lib.hid h4
  have T4 := Lib.hid t4
  clear h4 t4 hw4 HD3 HD HD0 HG e15
  have HBT := Lib.hid (fun w => bits_Bit (B.regs.reg 15) 1 w)
  have hbr := bitI_range (B.regs.reg 15) 1
  generalize hbb : bitI (B.regs.reg 15) 1 = b at *
  have hb1 := Lib.hid hbb
  clear hbb
  go_wp2_with fail
  refine (HBT.out _).mono ?_; rintro e w5 ⟨rfl, rfl⟩
  go_wp2_with fail
  refine (bus_Tell H4.out 16 (by unfold isBit; simp) (b == 1)).mono ?_; rintro e w6 ⟨rfl, h6, t6⟩
  have H6 := Lib.hid h6
  have T6 := Lib.hid (T4.out.trans t6)
  clear h6 t6
  go_wp2_with fail
  exact ⟨rfl, .tuple #[], by first | exact rfl | (unfold results; rfl) | kernel_rfl, rfl, (by rw [hb1.out]; exact H6.out), T6.out⟩
end
end Go.Proofs.YtnllkgjmoipgbaaGreatDoor
-- SmT
namespace Go.Proofs.YtnllkgjmoipgbaaGreatDoor
open Go Go.RowKit
set_option linter.unusedSimpArgs false
set_option linter.unusedVariables false
set_option maxRecDepth 100000

def zeroRegsC : Array Value := #[.int .i64 0, .int .i64 0, .int .i64 0, .int .i64 0, .int .i64 0, .int .i64 0, .int .i64 0, .int .i64 0, .int .i64 0, .int .i64 0, .int .i64 0, .int .i64 0, .int .i64 0, .int .i64 0, .int .i64 0, .int .i64 0, .int .i64 0, .int .i64 0, .int .i64 0, .int .i64 0, .int .i64 0]
theorem RegsV.effect_in (r : RegsV) (a : Int) : 0 ≤ r.effect a ∧ r.effect a ≤ 7 := by
  unfold RegsV.effect
  split
  · unfold regEffect
    split
    · decide
    split
    · split <;> decide
    split
    · split
      · decide
      split
      · decide
      split
      · decide
      split
      · decide
      · decide
    · decide
  · decide
/-- The cells of registers of the call's own. -/
theorem regs_own {w : World} {g : Nat} {r : RegsV} {t : TypeId} (h : Blk w g r.cells.toArray t) (hl : r.Len) : w.cell? ⟨g, 0, none⟩ = some (.int .i64 r.sel) ∧ w.cell? ⟨g, 1, none⟩ = some (.int .i64 (r.reg 0)) ∧ w.cell? ⟨g, 2, none⟩ = some (.int .i64 (r.reg 1)) := by
  obtain ⟨h1, h2⟩ := RegsV.reads (range_of_blk h) hl
  exact ⟨h1, by simpa using h2 0 (by omega), by simpa using h2 1 (by omega)⟩
section
variable {w : World} {l : BusL} {B : BusV}
set_option maxHeartbeats 8000000 in
theorem bus_draw (h : BusAt w l B) (a v : Int) (ha : 0 ≤ a) (hv : 0 ≤ v ∧ v ≤ 255) : Calls Tryz.prog 53 #[.pointer (some ⟨l.p, 0, none⟩), .int .i64 a, .int .i64 v] w fun e w' => e = .returned (.tuple #[]) ∧ BusAt w' l (B.draw a v) ∧ Tr l.own w w' := by
  have hr := h.ok.regs
  have hr' := hr.write a v hv
  have hei := B.regs.effect_in a
  obtain ⟨Bc, hBc⟩ : ∃ Bc, Bc = B.chosen a v := ⟨_, rfl⟩
  have hBd : B.draw a v = Bc.bring (B.regs.effect a) v := by rw [hBc]; rfl
  have hkc : Bc.Ok := by rw [hBc]; exact h.ok.chosen a v hv
  rw [hBd]
  have HW : Hid (∀ w, Calls Tryz.prog 118 #[.agg B.regs.cells.toArray, .int .i64 a, .int .i64 v] w fun e w' => e = .returned (.tuple #[.agg (B.regs.write a v).cells.toArray, .int .i64 (B.regs.effect a)]) ∧ Below w.heap.size w w') := Lib.hid (fun w => regs_Write B.regs hr a v hv w)
  obtain ⟨R', hR'⟩ : ∃ R', R' = B.regs.write a v := ⟨_, rfl⟩
  rw [← hR'] at HW hr'
  obtain ⟨ef, hef⟩ : ∃ ef, ef = B.regs.effect a := ⟨_, rfl⟩
  rw [← hef] at HW hei ⊢
  have hcr : Bc.regs = R' := by rw [hBc, hR']; rfl
  have hs1 : (Tryz.prog.info? 30).map (·.size) = some B.regs.cells.length := by rw [RegsV.length hr.len]; exact tRegs
  have hs2 : (Tryz.prog.info? 30).map (·.size) = some R'.cells.toArray.size := by rw [RegsV.size hr'.len]; exact tRegs
  have hz2 : (zeroRegsC).size = R'.cells.toArray.size := by rw [RegsV.size hr'.len]; kernel_rfl
  have HS1 := Lib.hid hs1
  have HS2 := Lib.hid hs2
  have HZ2 := Lib.hid hz2
  have HO := Lib.hid (RegsV.one (v := R'))
  have HP : ∀ w', BusAt w' l B → BusAt (w'.setCells l.p 0 R'.cells) l { B with regs := R' } := fun w' h' =>
    h'.put 0 (vs := R'.cells) (x := B.regs.cells) (B' := { B with regs := R' }) (o := 0) rfl (by rw [RegsV.length hr.len, RegsV.length hr'.len]) (by decide) rfl { h'.ok with regs := hr' } rfl rfl
  have HPH := Lib.hid HP
  have HTH := Lib.hid (fun w' (h' : BusAt w' l B) => show w'.there l.p 0 R'.cells.toArray.size from by rw [RegsV.size hr'.len]; exact h'.there 0 21 (by decide))
  have hcm : Bc = { B with regs := R', moved := B.moved || (decide (R'.sel = 8) && (decide (a = 2) || decide (a = 3))) } := by rw [hBc, hR']; rfl
  have HCM := Lib.hid hcm
  have HKC := Lib.hid hkc
  have HCR := Lib.hid hcr
  have HR' := Lib.hid hr'
  have HB := Lib.hid h
  have HLT := Lib.hid h.lt
  have hr0 := h.regs
  clear h hr hr' hBc hBd hkc hcr hR' hef hs1 hs2 hz2 HP hcm
  go_enter Tryz.func53, Tryz.ntmps53
  go_wp2_with (first
    | (refine wpList_load_mid rfl 30 _ rfl l.p 0 (by first | rfl | kernel_rfl) B.regs.cells _ hr0 Tryz.underlying30 rfl HS1.out ?_))
  refine (HW.out _).mono ?_; rintro e w3 ⟨rfl, b3⟩
  have H3 := HB.out.below b3
  have T3 : Tr l.own w w3 := Tr.of_below0 b3
  have Z := Blk.new w3 zeroRegsC 30
  have Z2 := Blk.setRow Z R'.cells.toArray
  have b5 : Below w3.heap.size w3 ((w3.alloc (Obj.cells zeroRegsC 30)).setRow w3.heap.size R'.cells.toArray) := below_setRow (bal (Below.refl _ _)) (Nat.le_refl _) _
  have H5 := H3.below b5
  have T5 := T3.of_below b5
  have th := HTH.out _ H5
  have HL := Lib.hid (HPH.out _ H5)
  have TL := Lib.hid (Tr.laid R'.cells 0 (g := l.p) T5 (by unfold BusL.own; simp))
  have hg3 : w.heap.size ≤ w3.heap.size := b3.size
  have Z3 := Lib.hid (Blk.laid_other R'.cells 0 (g := l.p) Z2 (by have := HLT.out.1; omega))
  clear H5 T5 b5 H3 T3 hr0 HW HPH HTH b3
  generalize hgc : R'.cells = gc at *
  have HGC := Lib.hid hgc
  clear hgc
  go_upto_region 2 with (first
    | (refine wpList_store_row rfl 30 _ _ rfl w3.heap.size gc.toArray rfl rfl 30 zeroRegsC Z HS2.out HZ2.out HO.out ?_)
    | (refine wpList_load_row rfl 30 _ rfl w3.heap.size rfl 30 gc.toArray (0, 0) _ Z2 Tryz.underlying30 rfl HS2.out ?_)
    | (refine wpList_store_mid rfl 30 _ _ rfl l.p 0 gc.toArray (by first | rfl | kernel_rfl) rfl th HS2.out HO.out ?_))
  obtain ⟨w4, hw4⟩ : ∃ w4, w4 = (((w3.alloc (Obj.cells zeroRegsC 30)).setRow w3.heap.size gc.toArray).setCells l.p 0 gc) := ⟨_, rfl⟩
  rw [← hw4] at HL TL Z3
  have e4 : (((w3.alloc (Obj.cells #[.int .i64 0, .int .i64 0, .int .i64 0, .int .i64 0, .int .i64 0, .int .i64 0, .int .i64 0, .int .i64 0, .int .i64 0, .int .i64 0, .int .i64 0, .int .i64 0, .int .i64 0, .int .i64 0, .int .i64 0, .int .i64 0, .int .i64 0, .int .i64 0, .int .i64 0, .int .i64 0, .int .i64 0] 30)).setRow w3.heap.size gc.toArray).setCells l.p 0 gc) = w4 := hw4.symm
  rw [e4]
  clear e4 hw4 Z Z2 th
  obtain ⟨g, hg⟩ : ∃ g, g = w3.heap.size := ⟨_, rfl⟩
  rw [← hg] at hg3 Z3 ⊢
  clear hg
  have hgl : g ≠ l.p := by have := HLT.out.1; omega
  have HRC := Lib.hid (show ∀ wq, Blk wq g gc.toArray 30 → wq.cell? ⟨g, 0, none⟩ = some (.int .i64 R'.sel) ∧ wq.cell? ⟨g, 1, none⟩ = some (.int .i64 (R'.reg 0)) ∧ wq.cell? ⟨g, 2, none⟩ = some (.int .i64 (R'.reg 1)) from fun wq hq => by
    rw [← HGC.out] at hq; exact regs_own hq HR'.out.len)
  simp only [Act.put, List.setIfInBounds_toArray, List.set_cons_zero, List.set_cons_succ]
  go_cut [24] (fun _ wx => BusAt wx l Bc ∧ Blk wx g gc.toArray 30 ∧ Tr l.own w wx)
  case first =>
    obtain ⟨mv', hmv⟩ : ∃ m, m = (B.moved || (decide (R'.sel = 8) && (decide (a = 2) || decide (a = 3)))) := ⟨_, rfl⟩
    have HL2 : BusAt (w4.setCell ⟨l.p, 280, none⟩ (.bool mv')) l Bc := HL.out.put1 5 (v := .bool mv') (x := .bool B.moved) (B' := Bc) (o := 280) rfl (by decide) (by rw [HCM.out, hmv]; rfl) HKC.out (by rw [HCM.out]) (by rw [HCM.out])
    have TL2 := Lib.hid (TL.out.setCell 280 (BusL.mem l) (.bool mv'))
    have HL2H := Lib.hid HL2
    have ZZ := Lib.hid (Blk.other (i := 280) Z3.out (.bool mv') hgl)
    have c0 := HL.out.moved
    have f0 := HL.out.free 280
    obtain ⟨z0, z1, z2⟩ := HRC.out w4 Z3.out
    have c0' : w4.cell? ⟨l.p, 280, none⟩ = some (.bool B.moved) := c0
    clear HL2 c0 HL TL HRC HCM HCR HB HS1 HS2 HZ2 HO Z3
    cases hm : B.moved
    · rw [hm] at c0' hmv
      by_cases h8 : R'.sel = 8
      · by_cases h2 : a = 2
        · subst h2
          rw [h8] at hmv z0
          obtain rfl : mv' = true := by rw [hmv]; decide
          clear hmv hm h8
          go_wp2
          go_meet
          exact ⟨HL2H.out, ZZ.out, TL2.out⟩
        · by_cases h3 : a = 3
          · subst h3
            rw [h8] at hmv z0
            obtain rfl : mv' = true := by rw [hmv]; decide
            clear hmv hm h8
            go_wp2
            go_meet
            exact ⟨HL2H.out, ZZ.out, TL2.out⟩
          · obtain rfl : mv' = false := by rw [hmv, decide_eq_false h2, decide_eq_false h3]; simp
            rw [h8] at z0
            have k2 : (a == 2) = false := by simpa using h2
            have k3 : (a == 3) = false := by simpa using h3
            clear hmv hm h8
            go_wp2
            go_meet
            exact ⟨HL2H.out, ZZ.out, TL2.out⟩
      · obtain rfl : mv' = false := by rw [hmv, decide_eq_false h8]; simp
        clear hmv hm
        go_wp2
        go_meet
        exact ⟨HL2H.out, ZZ.out, TL2.out⟩
    · rw [hm] at c0' hmv
      obtain rfl : mv' = true := by rw [hmv]; simp
      clear hmv hm
      go_wp2
      go_meet
      exact ⟨HL2H.out, ZZ.out, TL2.out⟩
  case rest =>
    obtain ⟨h4, hz, t4⟩ := hcut
    have H4 := Lib.hid h4
    have T4 := Lib.hid t4
    have Z4 := Lib.hid hz
    clear h4 t4 hz HL TL Z3 HCM hg3 HB
    rcases (show ef = 0 ∨ ef = 1 ∨ ef = 2 ∨ ef = 3 ∨ ef = 4 ∨ ef = 5 ∨ ef = 6 ∨ ef = 7 by omega) with rfl | rfl | rfl | rfl | rfl | rfl | rfl | rfl
    · have HE := Lib.hid (show Bc.bring 0 v = Bc from by unfold BusV.bring; rw [if_neg (by decide), if_neg (by decide), if_neg (by decide), if_neg (by decide), if_neg (by decide), if_neg (by decide), if_neg (by decide)])
      clear hei
      go_wp2_with fail
      exact ⟨rfl, .tuple #[], by first | exact rfl | (unfold results; rfl) | kernel_rfl, rfl, (by rw [HE.out]; exact H4.out), T4.out⟩
    · have HE := Lib.hid (show Bc.bring 1 v = { Bc with V := Bc.V.setWr (Bc.regs.reg 0) } from by unfold BusV.bring;  rw [if_pos rfl])
      clear hei
      go_wp2_with fail
      refine wp_region_last 8 (fun w' => BusAt w' l ({ Bc with V := Bc.V.setWr (Bc.regs.reg 0) } : BusV) ∧ Tr l.own w w') (by kernel_rfl) (by kernel_rfl) (by kernel_rfl) (by decide) ?_
      iterate 8
        (refine wpP_head rfl (by decide) (fun K hK => ?_)
         apply Exists.intro
         refine ⟨fun wq hq => ?_, hK _ ?_⟩
         · have h' := H4.out.below hq
           have c1 := h'.vram
           obtain ⟨z0, z1, z2⟩ := HRC.out wq (Blk.below Z4.out hq)
           go_simp
           first | exact rfl | exact ⟨hq, rfl⟩ | exact ⟨rfl, rfl⟩
         clear hK K
         simp only [Act.put, List.setIfInBounds_toArray, List.set_cons_zero, List.set_cons_succ])
      refine wpP_last rfl (by decide) (by kernel_rfl) (by kernel_rfl) ⟨.tuple #[], fun wq hq => ?_, ?_⟩
      · have h' := Lib.hid (H4.out.below hq)
        have hq' := Lib.hid hq
        clear hq
        go_simp
        refine (vram_SetWrite h'.out.v (R'.reg 0)).mono fun e w'' hh => ⟨hh.1, ?_, ?_⟩
        · have := h'.out.putV hh.2.1 (hh.2.2.mono (by intro k hk; simp only [List.mem_cons, List.not_mem_nil, or_false] at hk ⊢; exact Or.inl hk))
          rw [← HCR.out] at this; exact this
        · exact (T4.out.of_below hq'.out).trans (hh.2.2.mono (fun k hk => l.subVO k (by simp only [List.mem_cons, List.not_mem_nil, or_false] at hk ⊢; exact Or.inl hk)))
      simp only [Act.put, List.setIfInBounds_toArray, List.set_cons_zero, List.set_cons_succ]
      rintro wg ⟨hg, tg⟩
      have HG := Lib.hid hg
      have TG := Lib.hid tg
      clear hg tg
      go_wp2_with fail
      exact ⟨rfl, .tuple #[], by first | exact rfl | (unfold results; rfl) | kernel_rfl, rfl, (by rw [HE.out]; exact HG.out), TG.out⟩
    · have HE := Lib.hid (show Bc.bring 2 v = { Bc with V := Bc.V.setRd (Bc.regs.reg 1) } from by unfold BusV.bring; rw [if_neg (by decide)]; rw [if_pos rfl])
      clear hei
      go_wp2_with fail
      refine wp_region_last 8 (fun w' => BusAt w' l ({ Bc with V := Bc.V.setRd (Bc.regs.reg 1) } : BusV) ∧ Tr l.own w w') (by kernel_rfl) (by kernel_rfl) (by kernel_rfl) (by decide) ?_
      iterate 8
        (refine wpP_head rfl (by decide) (fun K hK => ?_)
         apply Exists.intro
         refine ⟨fun wq hq => ?_, hK _ ?_⟩
         · have h' := H4.out.below hq
           have c1 := h'.vram
           obtain ⟨z0, z1, z2⟩ := HRC.out wq (Blk.below Z4.out hq)
           go_simp
           first | exact rfl | exact ⟨hq, rfl⟩ | exact ⟨rfl, rfl⟩
         clear hK K
         simp only [Act.put, List.setIfInBounds_toArray, List.set_cons_zero, List.set_cons_succ])
      refine wpP_last rfl (by decide) (by kernel_rfl) (by kernel_rfl) ⟨.tuple #[], fun wq hq => ?_, ?_⟩
      · have h' := Lib.hid (H4.out.below hq)
        have hq' := Lib.hid hq
        clear hq
        go_simp
        refine (vram_SetRead h'.out.v (R'.reg 1)).mono fun e w'' hh => ⟨hh.1, ?_, ?_⟩
        · have := h'.out.putV hh.2.1 (hh.2.2.mono (by intro k hk; simp only [List.mem_cons, List.not_mem_nil, or_false] at hk ⊢; exact Or.inl hk))
          rw [← HCR.out] at this; exact this
        · exact (T4.out.of_below hq'.out).trans (hh.2.2.mono (fun k hk => l.subVO k (by simp only [List.mem_cons, List.not_mem_nil, or_false] at hk ⊢; exact Or.inl hk)))
      simp only [Act.put, List.setIfInBounds_toArray, List.set_cons_zero, List.set_cons_succ]
      rintro wg ⟨hg, tg⟩
      have HG := Lib.hid hg
      have TG := Lib.hid tg
      clear hg tg
      go_wp2_with fail
      exact ⟨rfl, .tuple #[], by first | exact rfl | (unfold results; rfl) | kernel_rfl, rfl, (by rw [HE.out]; exact HG.out), TG.out⟩
    · have HE := Lib.hid (show Bc.bring 3 v = { Bc with V := Bc.V.put false v } from by unfold BusV.bring; rw [if_neg (by decide)]; rw [if_neg (by decide)]; rw [if_pos rfl])
      clear hei
      have c1 := H4.out.vram
      have HV := Lib.hid (vram_Put H4.out.v false v)
      go_wp2_with fail
      refine HV.out.mono ?_; rintro e w5 ⟨rfl, hv5, t5⟩
      have HG := Lib.hid (H4.out.putV hv5 t5)
      have TG := Lib.hid (T4.out.trans (t5.mono l.subVO))
      clear hv5 t5 c1
      go_wp2_with fail
      exact ⟨rfl, .tuple #[], by first | exact rfl | (unfold results; rfl) | kernel_rfl, rfl, (by rw [HE.out]; exact HG.out), TG.out⟩
    · have HE := Lib.hid (show Bc.bring 4 v = { Bc with V := Bc.V.put true v } from by unfold BusV.bring; rw [if_neg (by decide)]; rw [if_neg (by decide)]; rw [if_neg (by decide)]; rw [if_pos rfl])
      clear hei
      have c1 := H4.out.vram
      have HV := Lib.hid (vram_Put H4.out.v true v)
      go_wp2_with fail
      refine HV.out.mono ?_; rintro e w5 ⟨rfl, hv5, t5⟩
      have HG := Lib.hid (H4.out.putV hv5 t5)
      have TG := Lib.hid (T4.out.trans (t5.mono l.subVO))
      clear hv5 t5 c1
      go_wp2_with fail
      exact ⟨rfl, .tuple #[], by first | exact rfl | (unfold results; rfl) | kernel_rfl, rfl, (by rw [HE.out]; exact HG.out), TG.out⟩
    · have HE := Lib.hid (show Bc.bring 5 v = { Bc with V := Bc.V.setSt Bc.regs.far } from by unfold BusV.bring; rw [if_neg (by decide)]; rw [if_neg (by decide)]; rw [if_neg (by decide)]; rw [if_neg (by decide)]; rw [if_pos rfl])
      clear hei
      have HF : Hid (∀ w, Calls Tryz.prog 123 #[.agg gc.toArray] w fun e w' => e = .returned (.int .i64 R'.far) ∧ Below w.heap.size w w') := Lib.hid (fun w => by rw [← HGC.out]; exact regs_Far R' HR'.out w)
      go_wp2_with fail
      refine wp_region_last 7 (fun w' => BusAt w' l ({ Bc with V := Bc.V.setSt Bc.regs.far } : BusV) ∧ Tr l.own w w') (by kernel_rfl) (by kernel_rfl) (by kernel_rfl) (by decide) ?_
      iterate 5
        (refine wpP_head rfl (by decide) (fun K hK => ?_)
         apply Exists.intro
         refine ⟨fun wq hq => ?_, hK _ ?_⟩
         · have h' := H4.out.below hq
           have c1 := h'.vram
           go_simp
           first | exact rfl | exact ⟨hq, rfl⟩ | exact ⟨rfl, rfl⟩
         clear hK K
         simp only [Act.put, List.setIfInBounds_toArray, List.set_cons_zero, List.set_cons_succ])
      refine wpP_head rfl (by decide) (fun K hK => ?_)
      refine ⟨_, fun wq hq => load_row_upon 30 _ rfl g rfl 30 gc.toArray _ (Blk.below Z4.out hq) Tryz.underlying30 rfl HS2.out hq, hK _ ?_⟩
      clear hK K
      simp only [Act.put, List.setIfInBounds_toArray, List.set_cons_zero, List.set_cons_succ]
      iterate 1
        (refine wpP_head rfl (by decide) (fun K hK => ?_)
         apply Exists.intro
         refine ⟨fun wq hq => ?_, hK _ ?_⟩
         · have h0 := hq
           go_simp
           first | exact rfl | exact ⟨hq, rfl⟩ | exact ⟨rfl, rfl⟩ | exact calls_under hq (HF.out wq)
         clear hK K
         simp only [Act.put, List.setIfInBounds_toArray, List.set_cons_zero, List.set_cons_succ])
      refine wpP_last rfl (by decide) (by kernel_rfl) (by kernel_rfl) ⟨.tuple #[], fun wq hq => ?_, ?_⟩
      · have h' := Lib.hid (H4.out.below hq)
        have hq' := Lib.hid hq
        clear hq
        go_simp
        refine (vram_SetStep h'.out.v R'.far).mono fun e w'' hh => ⟨hh.1, ?_, ?_⟩
        · have := h'.out.putV hh.2.1 (hh.2.2.mono (by intro k hk; simp only [List.mem_cons, List.not_mem_nil, or_false] at hk ⊢; exact Or.inl hk))
          rw [← HCR.out] at this; exact this
        · exact (T4.out.of_below hq'.out).trans (hh.2.2.mono (fun k hk => l.subVO k (by simp only [List.mem_cons, List.not_mem_nil, or_false] at hk ⊢; exact Or.inl hk)))
      simp only [Act.put, List.setIfInBounds_toArray, List.set_cons_zero, List.set_cons_succ]
      rintro wg ⟨hg, tg⟩
      have HG := Lib.hid hg
      have TG := Lib.hid tg
      clear hg tg
      go_wp2_with fail
      exact ⟨rfl, .tuple #[], by first | exact rfl | (unfold results; rfl) | kernel_rfl, rfl, (by rw [HE.out]; exact HG.out), TG.out⟩
    · have HE := Lib.hid (show Bc.bring 6 v = Bc.move from by unfold BusV.bring; rw [if_neg (by decide)]; rw [if_neg (by decide)]; rw [if_neg (by decide)]; rw [if_neg (by decide)]; rw [if_neg (by decide)]; rw [if_pos rfl])
      clear hei
      go_wp2_with fail
      refine (bus_move H4.out).mono ?_; rintro e w5 ⟨rfl, h5, t5⟩
      have HG := Lib.hid h5
      have TG := Lib.hid (T4.out.trans t5)
      clear h5 t5
      go_wp2_with fail
      exact ⟨rfl, .tuple #[], by first | exact rfl | (unfold results; rfl) | kernel_rfl, rfl, (by rw [HE.out]; exact HG.out), TG.out⟩
    · have HE := Lib.hid (show Bc.bring 7 v = { Bc with wait := true } from by unfold BusV.bring; rw [if_neg (by decide)]; rw [if_neg (by decide)]; rw [if_neg (by decide)]; rw [if_neg (by decide)]; rw [if_neg (by decide)]; rw [if_neg (by decide)]; rw [if_pos rfl])
      clear hei
      have c0 := H4.out.wait
      have f0 := H4.out.free 279
      have HG := Lib.hid (H4.out.put1 4 (v := .bool true) (B' := { Bc with wait := true }) (o := 279) rfl (by decide) rfl { H4.out.ok with } rfl rfl)
      have TG := Lib.hid (T4.out.setCell 279 l.mem (.bool true))
      go_wp2_with fail
      exact ⟨rfl, .tuple #[], by first | exact rfl | (unfold results; rfl) | kernel_rfl, rfl, (by rw [HE.out]; exact HG.out), TG.out⟩
end
end Go.Proofs.YtnllkgjmoipgbaaGreatDoor
-- SmU
namespace Go.Proofs.YtnllkgjmoipgbaaGreatDoor
open Go Go.RowKit
set_option linter.unusedSimpArgs false
set_option linter.unusedVariables false
set_option maxRecDepth 100000

section
variable {w : World} {l : BusL} {B : BusV}
/-- A byte of Ram laid anew. -/
theorem BusAt.setRam (h : BusAt w l B) (j : Nat) (hj : j < 8192) (x : Int) (hx : 0 ≤ x ∧ x ≤ 255) : BusAt (w.setCell ⟨l.p, 283 + j, none⟩ (.int .u8 x)) l { B with ram := B.ram.set j x } := by
  have hl := h.ok.ramL
  have hcs : bytesC (B.ram.set j x) = (bytesC B.ram).set j (.int .u8 x) := by simp [bytesC, List.map_set]
  have a := h.ap
  have T : Tr [l.p] w (w.setCell ⟨l.p, 283 + j, none⟩ (.int .u8 x)) := Tr.setCell (Tr.refl _ _) _ (by simp) _
  have h1 := fld_set1 h.obj (BusV.lens h.ok _ _) 8 j (.int .u8 x) (x := bytesC B.ram) rfl (by rw [bytesC_length, hl]; exact hj) (oj := 283 + j) (by rw [show offL busLens 8 = 283 by decide])
  refine ⟨?_, h.v.tr T (by simpa using Ne.symm a.pv) (by simpa using Ne.symm a.pg), Blk.tr h.card T (by simpa using Ne.symm a.pc), h.rom.tr T (by simpa using Ne.symm a.pr), h.cap, { h.ok with ramL := by simpa using hl, ram := nth_set_in h.ok.ram hx }, a⟩
  rw [← hcs] at h1
  exact h1
set_option maxHeartbeats 8000000 in
theorem bus_Write8 (h : BusAt w l B) (a v : Int) (hk : regKind a = 8) : Calls Tryz.prog 22 #[.pointer (some ⟨l.p, 0, none⟩), .int .i64 a, .int .i64 v] w fun e w' => e = .returned (.tuple #[]) ∧ BusAt w' l (B.wr a v) ∧ Tr l.own w w' := by
  have HN := Lib.hid (bus_none h)
  have HBy := Lib.hid (fun w => bits_Byte v w)
  obtain ⟨b, hb⟩ : ∃ b, b = v % 256 := ⟨_, rfl⟩
  have hbi : 0 ≤ b ∧ b ≤ 255 := by omega
  have e1 : B.wr a v = B := by unfold BusV.wr BusV.wr8; rw [← hb]; rw [hk, if_neg (by decide), if_neg (by decide), if_neg (by decide), if_neg (by decide)]
  rw [e1]
  rw [← hb] at HBy
  have hat := reg_at a
  obtain ⟨pg, hpg⟩ : ∃ pg, pg = regPage a := ⟨_, rfl⟩
  obtain ⟨at', hat'⟩ : ∃ at', at' = regAt a := ⟨_, rfl⟩
  have HW : Hid (∀ w, Calls Tryz.prog 51 #[.int .i64 a] w fun e w' => e = .returned (.agg #[.int .i64 8, .int .i64 pg, .int .i64 at']) ∧ Below w.heap.size w w') := Lib.hid (fun w => by have := region_Where a w; rw [hk, ← hpg, ← hat'] at this; exact this)
  have HHd : Hid (∀ w, Calls Tryz.prog 59 #[.int .i64 8] w fun e w' => e = .returned (.bool false) ∧ w = w') := Lib.hid (fun w => region_Held 8 w)
  rw [← hat'] at hat
  have hatk : at' = regAt a := hat'
  have HB := Lib.hid h
  have HLT := Lib.hid h.lt
  clear hatk
  clear h e1 hpg hat' hb hk
  go_enter Tryz.func22, Tryz.ntmps22
  go_wp2_with fail
  refine HN.out.mono ?_; rintro e w' ⟨rfl, rfl⟩
  go_wp2_with fail
  refine (HBy.out _).mono ?_; rintro e w' ⟨rfl, rfl⟩
  go_wp2_with fail
  refine (HW.out _).mono ?_; rintro e w1 ⟨rfl, b1⟩
  have zb := Lib.hid (Blk.new w1 #[.int .i64 8, .int .i64 pg, .int .i64 at'] 131)
  have hb2 := Lib.hid (bal b1 (o := Obj.cells #[.int .i64 8, .int .i64 pg, .int .i64 at'] 131))
  have H2 := Lib.hid (HB.out.below hb2.out)
  have T2 := Lib.hid (Tr.of_below0 (S := l.own) hb2.out)
  have hg3 := Lib.hid b1.size
  go_wp2_with fail
  obtain ⟨w2, hw2⟩ : ∃ w2, w2 = w1.alloc (Obj.cells #[.int .i64 8, .int .i64 pg, .int .i64 at'] 131) := ⟨_, rfl⟩
  rw [← hw2] at zb hb2 H2 T2 ⊢
  clear hw2 b1
  generalize w1.heap.size = g2 at *
  have hgo := Lib.hid (show g2 ∉ l.own by
    have h1 := HLT.out; have h2 := hg3.out
    unfold BusL.own; simp only [List.mem_cons, List.not_mem_nil, or_false]; omega)
  obtain ⟨wg, hwg⟩ : ∃ wg, wg = w2 := ⟨_, rfl⟩
  have HG := Lib.hid H2.out
  have TG := Lib.hid (Tr.refl l.own w2)
  rw [← hwg] at HG ⊢
  have TG : Hid (Tr l.own w2 wg) := by rw [hwg]; exact TG
  clear hwg
  obtain ⟨z0, z1, z2⟩ := place_row (Blk.tr zb.out TG.out hgo.out) (Below.refl _ _)
  clear z1 z2
  have TGZ := Lib.hid (T2.out.trans TG.out)
  go_wp2_with fail
  refine (HHd.out _).mono ?_; rintro e w' ⟨rfl, rfl⟩
  go_wp2_with fail
  exact ⟨rfl, .tuple #[], by first | exact rfl | (unfold results; rfl) | kernel_rfl, rfl, HG.out, TGZ.out⟩
set_option maxHeartbeats 8000000 in
theorem bus_Write0 (h : BusAt w l B) (a v : Int) (hk : regKind a = 0) : Calls Tryz.prog 22 #[.pointer (some ⟨l.p, 0, none⟩), .int .i64 a, .int .i64 v] w fun e w' => e = .returned (.tuple #[]) ∧ BusAt w' l (B.wr a v) ∧ Tr l.own w w' := by
  have HN := Lib.hid (bus_none h)
  have HBy := Lib.hid (fun w => bits_Byte v w)
  obtain ⟨b, hb⟩ : ∃ b, b = v % 256 := ⟨_, rfl⟩
  have hbi : 0 ≤ b ∧ b ≤ 255 := by omega
  have e1 : B.wr a v = B := by unfold BusV.wr BusV.wr8; rw [← hb]; rw [hk, if_neg (by decide), if_neg (by decide), if_neg (by decide), if_neg (by decide)]
  rw [e1]
  rw [← hb] at HBy
  have hat := reg_at a
  obtain ⟨pg, hpg⟩ : ∃ pg, pg = regPage a := ⟨_, rfl⟩
  obtain ⟨at', hat'⟩ : ∃ at', at' = regAt a := ⟨_, rfl⟩
  have HW : Hid (∀ w, Calls Tryz.prog 51 #[.int .i64 a] w fun e w' => e = .returned (.agg #[.int .i64 0, .int .i64 pg, .int .i64 at']) ∧ Below w.heap.size w w') := Lib.hid (fun w => by have := region_Where a w; rw [hk, ← hpg, ← hat'] at this; exact this)
  have HHd : Hid (∀ w, Calls Tryz.prog 59 #[.int .i64 0] w fun e w' => e = .returned (.bool false) ∧ w = w') := Lib.hid (fun w => region_Held 0 w)
  rw [← hat'] at hat
  have hatk : at' = regAt a := hat'
  have hpp := h.ok.pages
  have HLa := Lib.hid (fun w => banks_Latch B.pages hpp B.latch a w)
  have HB := Lib.hid h
  have HLT := Lib.hid h.lt
  clear hatk
  clear h e1 hpg hat' hb hk hpp
  go_enter Tryz.func22, Tryz.ntmps22
  go_wp2_with fail
  refine HN.out.mono ?_; rintro e w' ⟨rfl, rfl⟩
  go_wp2_with fail
  refine (HBy.out _).mono ?_; rintro e w' ⟨rfl, rfl⟩
  go_wp2_with fail
  refine (HW.out _).mono ?_; rintro e w1 ⟨rfl, b1⟩
  have zb := Lib.hid (Blk.new w1 #[.int .i64 0, .int .i64 pg, .int .i64 at'] 131)
  have hb2 := Lib.hid (bal b1 (o := Obj.cells #[.int .i64 0, .int .i64 pg, .int .i64 at'] 131))
  have H2 := Lib.hid (HB.out.below hb2.out)
  have T2 := Lib.hid (Tr.of_below0 (S := l.own) hb2.out)
  have hg3 := Lib.hid b1.size
  go_wp2_with fail
  obtain ⟨w2, hw2⟩ : ∃ w2, w2 = w1.alloc (Obj.cells #[.int .i64 0, .int .i64 pg, .int .i64 at'] 131) := ⟨_, rfl⟩
  rw [← hw2] at zb hb2 H2 T2 ⊢
  clear hw2 b1
  generalize w1.heap.size = g2 at *
  have hgo := Lib.hid (show g2 ∉ l.own by
    have h1 := HLT.out; have h2 := hg3.out
    unfold BusL.own; simp only [List.mem_cons, List.not_mem_nil, or_false]; omega)
  refine wp_region_last 14 (fun w' => BusAt w' l B ∧ Tr l.own w2 w') (by kernel_rfl) (by kernel_rfl) (by kernel_rfl) (by decide) ?_
  iterate 14
    (refine wpP_head rfl (by decide) (fun K hK => ?_)
     apply Exists.intro
     refine ⟨fun wq hq => ?_, hK _ ?_⟩
     · have h' := H2.out.below hq
       have c1 := h'.cardP
       have c2 := h'.latch
       go_simp
       first | exact rfl | exact ⟨hq, rfl⟩ | exact ⟨rfl, rfl⟩ | exact calls_under_same hq (card_Pages h') | exact calls_under hq (HLa.out wq)
     clear hK K
     simp only [Act.put, List.setIfInBounds_toArray, List.set_cons_zero, List.set_cons_succ])
  refine wpP_last rfl (by decide) (by kernel_rfl) (by kernel_rfl) ⟨undef, fun wq hq => ?_, ?_⟩
  · have h' := H2.out.below hq
    have c4 := h'.latch
    have f4 := h'.free 282
    have HZ := Lib.hid (h'.put1 7 (v := .int .i64 B.latch) (B' := B) (o := 282) rfl (by decide) rfl h'.ok rfl rfl)
    have HZT := Lib.hid ((Tr.of_below0 (S := l.own) hq).setCell 282 l.mem (.int .i64 B.latch))
    clear h'
    go_simp
    exact ⟨HZ.out, HZT.out⟩
  simp only [Act.put, List.setIfInBounds_toArray, List.set_cons_zero, List.set_cons_succ]
  rintro wg ⟨hg, tg⟩
  have HG := Lib.hid hg
  have TG := Lib.hid tg
  clear hg tg
  obtain ⟨z0, z1, z2⟩ := place_row (Blk.tr zb.out TG.out hgo.out) (Below.refl _ _)
  clear z1 z2
  have TGZ := Lib.hid (T2.out.trans TG.out)
  go_wp2_with fail
  refine (HHd.out _).mono ?_; rintro e w' ⟨rfl, rfl⟩
  go_wp2_with fail
  exact ⟨rfl, .tuple #[], by first | exact rfl | (unfold results; rfl) | kernel_rfl, rfl, HG.out, TGZ.out⟩
set_option maxHeartbeats 8000000 in
theorem bus_Write1 (h : BusAt w l B) (a v : Int) (hk : regKind a = 1) : Calls Tryz.prog 22 #[.pointer (some ⟨l.p, 0, none⟩), .int .i64 a, .int .i64 v] w fun e w' => e = .returned (.tuple #[]) ∧ BusAt w' l (B.wr a v) ∧ Tr l.own w w' := by
  have HN := Lib.hid (bus_none h)
  have HBy := Lib.hid (fun w => bits_Byte v w)
  obtain ⟨b, hb⟩ : ∃ b, b = v % 256 := ⟨_, rfl⟩
  have hbi : 0 ≤ b ∧ b ≤ 255 := by omega
  have e1 : B.wr a v = { B with ram := B.ram.set (regAt a).toNat b } := by unfold BusV.wr BusV.wr8; rw [← hb]; rw [hk, if_pos rfl]
  rw [e1]
  rw [← hb] at HBy
  have hat := reg_at a
  obtain ⟨pg, hpg⟩ : ∃ pg, pg = regPage a := ⟨_, rfl⟩
  obtain ⟨at', hat'⟩ : ∃ at', at' = regAt a := ⟨_, rfl⟩
  have HW : Hid (∀ w, Calls Tryz.prog 51 #[.int .i64 a] w fun e w' => e = .returned (.agg #[.int .i64 1, .int .i64 pg, .int .i64 at']) ∧ Below w.heap.size w w') := Lib.hid (fun w => by have := region_Where a w; rw [hk, ← hpg, ← hat'] at this; exact this)
  have HHd : Hid (∀ w, Calls Tryz.prog 59 #[.int .i64 1] w fun e w' => e = .returned (.bool false) ∧ w = w') := Lib.hid (fun w => region_Held 1 w)
  rw [← hat'] at hat
  have hatk : at' = regAt a := hat'
  have hrl := h.ok.ramL
  have HRA := Lib.hid (fun w' (h' : BusAt w' l B) => show w'.cell? ⟨l.p, 283 + at'.toNat, none⟩ = some (.int .u8 (nth 0 B.ram at'.toNat)) from range_nth h'.ram 0 (by omega))
  have hwb : IntKind.u8.wrap b = b := IntWalk.u8_in _ hbi
  have x1 : 0 ≤ at' := hat.1
  have x2 : at' < 8192 := hat.2
  rw [← hatk]
  have HB := Lib.hid h
  have HLT := Lib.hid h.lt
  clear hatk
  clear h e1 hpg hat' hb hk hrl
  go_enter Tryz.func22, Tryz.ntmps22
  go_wp2_with fail
  refine HN.out.mono ?_; rintro e w' ⟨rfl, rfl⟩
  go_wp2_with fail
  refine (HBy.out _).mono ?_; rintro e w' ⟨rfl, rfl⟩
  go_wp2_with fail
  refine (HW.out _).mono ?_; rintro e w1 ⟨rfl, b1⟩
  have zb := Lib.hid (Blk.new w1 #[.int .i64 1, .int .i64 pg, .int .i64 at'] 131)
  have hb2 := Lib.hid (bal b1 (o := Obj.cells #[.int .i64 1, .int .i64 pg, .int .i64 at'] 131))
  have H2 := Lib.hid (HB.out.below hb2.out)
  have T2 := Lib.hid (Tr.of_below0 (S := l.own) hb2.out)
  have hg3 := Lib.hid b1.size
  go_wp2_with fail
  obtain ⟨w2, hw2⟩ : ∃ w2, w2 = w1.alloc (Obj.cells #[.int .i64 1, .int .i64 pg, .int .i64 at'] 131) := ⟨_, rfl⟩
  rw [← hw2] at zb hb2 H2 T2 ⊢
  clear hw2 b1
  generalize w1.heap.size = g2 at *
  have hgo := Lib.hid (show g2 ∉ l.own by
    have h1 := HLT.out; have h2 := hg3.out
    unfold BusL.own; simp only [List.mem_cons, List.not_mem_nil, or_false]; omega)
  refine wp_region_last 8 (fun w' => BusAt w' l { B with ram := B.ram.set at'.toNat b } ∧ Tr l.own w2 w') (by kernel_rfl) (by kernel_rfl) (by kernel_rfl) (by decide) ?_
  iterate 8
    (refine wpP_head rfl (by decide) (fun K hK => ?_)
     apply Exists.intro
     refine ⟨fun wq hq => ?_, hK _ ?_⟩
     · obtain ⟨z0, z1, z2⟩ := place_row zb.out hq
       go_simp
       first | exact rfl | exact ⟨hq, rfl⟩ | exact ⟨rfl, rfl⟩
     clear hK K
     simp only [Act.put, List.setIfInBounds_toArray, List.set_cons_zero, List.set_cons_succ])
  refine wpP_last rfl (by decide) (by kernel_rfl) (by kernel_rfl) ⟨undef, fun wq hq => ?_, ?_⟩
  · have h' := H2.out.below hq
    have c4 := HRA.out wq h'
    have f4 := h'.free (283 + at'.toNat)
    have HZ := Lib.hid (h'.setRam at'.toNat (by omega) b hbi)
    have HZT := Lib.hid ((Tr.of_below0 (S := l.own) hq).setCell (283 + at'.toNat) l.mem (.int .u8 b))
    clear h'
    go_simp
    exact ⟨HZ.out, HZT.out⟩
  simp only [Act.put, List.setIfInBounds_toArray, List.set_cons_zero, List.set_cons_succ]
  rintro wg ⟨hg, tg⟩
  have HG := Lib.hid hg
  have TG := Lib.hid tg
  clear hg tg
  obtain ⟨z0, z1, z2⟩ := place_row (Blk.tr zb.out TG.out hgo.out) (Below.refl _ _)
  clear z1 z2
  have TGZ := Lib.hid (T2.out.trans TG.out)
  go_wp2_with fail
  refine (HHd.out _).mono ?_; rintro e w' ⟨rfl, rfl⟩
  go_wp2_with fail
  exact ⟨rfl, .tuple #[], by first | exact rfl | (unfold results; rfl) | kernel_rfl, rfl, HG.out, TGZ.out⟩
set_option maxHeartbeats 8000000 in
theorem bus_Write2 (h : BusAt w l B) (a v : Int) (hk : regKind a = 2) : Calls Tryz.prog 22 #[.pointer (some ⟨l.p, 0, none⟩), .int .i64 a, .int .i64 v] w fun e w' => e = .returned (.tuple #[]) ∧ BusAt w' l (B.wr a v) ∧ Tr l.own w w' := by
  have HN := Lib.hid (bus_none h)
  have HBy := Lib.hid (fun w => bits_Byte v w)
  obtain ⟨b, hb⟩ : ∃ b, b = v % 256 := ⟨_, rfl⟩
  have hbi : 0 ≤ b ∧ b ≤ 255 := by omega
  have e1 : B.wr a v = B.draw (regAt a) b := by unfold BusV.wr BusV.wr8; rw [← hb]; rw [hk, if_neg (by decide), if_pos rfl]
  rw [e1]
  rw [← hb] at HBy
  have hat := reg_at a
  obtain ⟨pg, hpg⟩ : ∃ pg, pg = regPage a := ⟨_, rfl⟩
  obtain ⟨at', hat'⟩ : ∃ at', at' = regAt a := ⟨_, rfl⟩
  have HW : Hid (∀ w, Calls Tryz.prog 51 #[.int .i64 a] w fun e w' => e = .returned (.agg #[.int .i64 2, .int .i64 pg, .int .i64 at']) ∧ Below w.heap.size w w') := Lib.hid (fun w => by have := region_Where a w; rw [hk, ← hpg, ← hat'] at this; exact this)
  have HHd : Hid (∀ w, Calls Tryz.prog 59 #[.int .i64 2] w fun e w' => e = .returned (.bool false) ∧ w = w') := Lib.hid (fun w => region_Held 2 w)
  rw [← hat'] at hat
  have hatk : at' = regAt a := hat'
  rw [← hatk]
  have HB := Lib.hid h
  have HLT := Lib.hid h.lt
  clear hatk
  clear h e1 hpg hat' hb hk
  go_enter Tryz.func22, Tryz.ntmps22
  go_wp2_with fail
  refine HN.out.mono ?_; rintro e w' ⟨rfl, rfl⟩
  go_wp2_with fail
  refine (HBy.out _).mono ?_; rintro e w' ⟨rfl, rfl⟩
  go_wp2_with fail
  refine (HW.out _).mono ?_; rintro e w1 ⟨rfl, b1⟩
  have zb := Lib.hid (Blk.new w1 #[.int .i64 2, .int .i64 pg, .int .i64 at'] 131)
  have hb2 := Lib.hid (bal b1 (o := Obj.cells #[.int .i64 2, .int .i64 pg, .int .i64 at'] 131))
  have H2 := Lib.hid (HB.out.below hb2.out)
  have T2 := Lib.hid (Tr.of_below0 (S := l.own) hb2.out)
  have hg3 := Lib.hid b1.size
  go_wp2_with fail
  obtain ⟨w2, hw2⟩ : ∃ w2, w2 = w1.alloc (Obj.cells #[.int .i64 2, .int .i64 pg, .int .i64 at'] 131) := ⟨_, rfl⟩
  rw [← hw2] at zb hb2 H2 T2 ⊢
  clear hw2 b1
  generalize w1.heap.size = g2 at *
  have hgo := Lib.hid (show g2 ∉ l.own by
    have h1 := HLT.out; have h2 := hg3.out
    unfold BusL.own; simp only [List.mem_cons, List.not_mem_nil, or_false]; omega)
  obtain ⟨z0, z1, z2⟩ := place_row zb.out (Below.refl _ _)
  clear z1
  refine (bus_draw H2.out at' b hat.1 hbi).mono ?_; rintro e wg ⟨rfl, hg, tg⟩
  clear z0 z2
  have HG := Lib.hid hg
  have TG := Lib.hid tg
  clear hg tg
  obtain ⟨z0, z1, z2⟩ := place_row (Blk.tr zb.out TG.out hgo.out) (Below.refl _ _)
  clear z1 z2
  have TGZ := Lib.hid (T2.out.trans TG.out)
  go_wp2_with fail
  refine (HHd.out _).mono ?_; rintro e w' ⟨rfl, rfl⟩
  go_wp2_with fail
  exact ⟨rfl, .tuple #[], by first | exact rfl | (unfold results; rfl) | kernel_rfl, rfl, HG.out, TGZ.out⟩
set_option maxHeartbeats 8000000 in
theorem bus_Write3 (h : BusAt w l B) (a v : Int) (hk : regKind a = 3) : Calls Tryz.prog 22 #[.pointer (some ⟨l.p, 0, none⟩), .int .i64 a, .int .i64 v] w fun e w' => e = .returned (.tuple #[]) ∧ BusAt w' l (B.wr a v) ∧ Tr l.own w w' := by
  have HN := Lib.hid (bus_none h)
  have HBy := Lib.hid (fun w => bits_Byte v w)
  obtain ⟨b, hb⟩ : ∃ b, b = v % 256 := ⟨_, rfl⟩
  have hbi : 0 ≤ b ∧ b ≤ 255 := by omega
  have e1 : B.wr a v = { B with vce := B.vce.write (regAt a) b } := by unfold BusV.wr BusV.wr8; rw [← hb]; rw [hk, if_neg (by decide), if_neg (by decide), if_pos rfl]
  rw [e1]
  rw [← hb] at HBy
  have hat := reg_at a
  obtain ⟨pg, hpg⟩ : ∃ pg, pg = regPage a := ⟨_, rfl⟩
  obtain ⟨at', hat'⟩ : ∃ at', at' = regAt a := ⟨_, rfl⟩
  have HW : Hid (∀ w, Calls Tryz.prog 51 #[.int .i64 a] w fun e w' => e = .returned (.agg #[.int .i64 3, .int .i64 pg, .int .i64 at']) ∧ Below w.heap.size w w') := Lib.hid (fun w => by have := region_Where a w; rw [hk, ← hpg, ← hat'] at this; exact this)
  have HHd : Hid (∀ w, Calls Tryz.prog 59 #[.int .i64 3] w fun e w' => e = .returned (.bool false) ∧ w = w') := Lib.hid (fun w => region_Held 3 w)
  rw [← hat'] at hat
  have hatk : at' = regAt a := hat'
  have hv := h.ok.vce
  have hv' := hv.write at' b hbi
  have HC := Lib.hid (fun w => vce_Write B.vce hv at' b hbi w)
  have HLL := Lib.hid (show (B.vce.write at' b).cells.length = B.vce.cells.length by rw [VceV.length hv.len, VceV.length hv'.len])
  have HS1 := Lib.hid (show (Tryz.prog.info? 40).map (·.size) = some B.vce.cells.length by rw [VceV.length hv.len]; exact tVce)
  have HS2 := Lib.hid (show (Tryz.prog.info? 40).map (·.size) = some (B.vce.write at' b).cells.toArray.size by rw [VceV.size hv'.len]; exact tVce)
  have HV' := Lib.hid hv'
  rw [← hatk]
  have HB := Lib.hid h
  have HLT := Lib.hid h.lt
  clear hatk
  clear h e1 hpg hat' hb hk hv hv'
  go_enter Tryz.func22, Tryz.ntmps22
  go_wp2_with fail
  refine HN.out.mono ?_; rintro e w' ⟨rfl, rfl⟩
  go_wp2_with fail
  refine (HBy.out _).mono ?_; rintro e w' ⟨rfl, rfl⟩
  go_wp2_with fail
  refine (HW.out _).mono ?_; rintro e w1 ⟨rfl, b1⟩
  have zb := Lib.hid (Blk.new w1 #[.int .i64 3, .int .i64 pg, .int .i64 at'] 131)
  have hb2 := Lib.hid (bal b1 (o := Obj.cells #[.int .i64 3, .int .i64 pg, .int .i64 at'] 131))
  have H2 := Lib.hid (HB.out.below hb2.out)
  have T2 := Lib.hid (Tr.of_below0 (S := l.own) hb2.out)
  have hg3 := Lib.hid b1.size
  go_wp2_with fail
  obtain ⟨w2, hw2⟩ : ∃ w2, w2 = w1.alloc (Obj.cells #[.int .i64 3, .int .i64 pg, .int .i64 at'] 131) := ⟨_, rfl⟩
  rw [← hw2] at zb hb2 H2 T2 ⊢
  clear hw2 b1
  generalize w1.heap.size = g2 at *
  have hgo := Lib.hid (show g2 ∉ l.own by
    have h1 := HLT.out; have h2 := hg3.out
    unfold BusL.own; simp only [List.mem_cons, List.not_mem_nil, or_false]; omega)
  refine wp_region_last 11 (fun w' => BusAt w' l { B with vce := B.vce.write at' b } ∧ Tr l.own w2 w') (by kernel_rfl) (by kernel_rfl) (by kernel_rfl) (by decide) ?_
  iterate 4
    (refine wpP_head rfl (by decide) (fun K hK => ?_)
     apply Exists.intro
     refine ⟨fun wq hq => ?_, hK _ ?_⟩
     · go_simp
       first | exact rfl | exact ⟨hq, rfl⟩ | exact ⟨rfl, rfl⟩
     clear hK K
     simp only [Act.put, List.setIfInBounds_toArray, List.set_cons_zero, List.set_cons_succ])
  refine wpP_head rfl (by decide) (fun K hK => ?_)
  refine ⟨_, fun wq hq => mid_upon 40 _ rfl l.p 8483 (by first | rfl | kernel_rfl) B.vce.cells _ ((H2.out.below hq).vce) Tryz.underlying40 rfl (HS1.out) hq, hK _ ?_⟩
  clear hK K
  simp only [Act.put, List.setIfInBounds_toArray, List.set_cons_zero, List.set_cons_succ]
  iterate 6
    (refine wpP_head rfl (by decide) (fun K hK => ?_)
     apply Exists.intro
     refine ⟨fun wq hq => ?_, hK _ ?_⟩
     · obtain ⟨z0, z1, z2⟩ := place_row zb.out hq
       go_simp
       first | exact rfl | exact ⟨hq, rfl⟩ | exact ⟨rfl, rfl⟩ | exact calls_under hq (HC.out wq)
     clear hK K
     simp only [Act.put, List.setIfInBounds_toArray, List.set_cons_zero, List.set_cons_succ])
  refine wpP_last rfl (by decide) (by kernel_rfl) (by kernel_rfl) ⟨undef, fun wq hq => ?_, ?_⟩
  · exact store_mid_upon 40 _ _ rfl l.p 8483 (by first | rfl | kernel_rfl) ((B.vce.write at' b).cells.toArray) (by first | rfl | kernel_rfl) ((by rw [VceV.size HV'.out.len]; exact (H2.out.below hq).there 8483 514 (by decide))) (HS2.out) (VceV.one) (⟨(H2.out.below hq).put 10 (vs := (B.vce.write at' b).cells) (x := B.vce.cells) (B' := { B with vce := B.vce.write at' b }) (o := 8483) rfl HLL.out (by decide) rfl { (H2.out.below hq).ok with vce := HV'.out } rfl rfl, Tr.laid (B.vce.write at' b).cells 8483 (g := l.p) (Tr.of_below0 (S := l.own) hq) l.mem⟩)
  simp only [Act.put, List.setIfInBounds_toArray, List.set_cons_zero, List.set_cons_succ]
  rintro wg ⟨hg, tg⟩
  have HG := Lib.hid hg
  have TG := Lib.hid tg
  clear hg tg
  obtain ⟨z0, z1, z2⟩ := place_row (Blk.tr zb.out TG.out hgo.out) (Below.refl _ _)
  clear z1 z2
  have TGZ := Lib.hid (T2.out.trans TG.out)
  go_wp2_with fail
  refine (HHd.out _).mono ?_; rintro e w' ⟨rfl, rfl⟩
  go_wp2_with fail
  exact ⟨rfl, .tuple #[], by first | exact rfl | (unfold results; rfl) | kernel_rfl, rfl, HG.out, TGZ.out⟩
set_option maxHeartbeats 8000000 in
theorem bus_Write4 (h : BusAt w l B) (a v : Int) (hk : regKind a = 4) : Calls Tryz.prog 22 #[.pointer (some ⟨l.p, 0, none⟩), .int .i64 a, .int .i64 v] w fun e w' => e = .returned (.tuple #[]) ∧ BusAt w' l (B.wr a v) ∧ Tr l.own w w' := by
  have HN := Lib.hid (bus_none h)
  have HBy := Lib.hid (fun w => bits_Byte v w)
  obtain ⟨b, hb⟩ : ∃ b, b = v % 256 := ⟨_, rfl⟩
  have hbi : 0 ≤ b ∧ b ≤ 255 := by omega
  have e1 : B.wr a v = { B with psg := B.psg.write (regAt a) b, hold := b } := by unfold BusV.wr BusV.wr8; rw [← hb]; rw [hk, if_neg (by decide), if_neg (by decide), if_neg (by decide), if_pos (by decide)]; rfl
  rw [e1]
  rw [← hb] at HBy
  have hat := reg_at a
  obtain ⟨pg, hpg⟩ : ∃ pg, pg = regPage a := ⟨_, rfl⟩
  obtain ⟨at', hat'⟩ : ∃ at', at' = regAt a := ⟨_, rfl⟩
  have HW : Hid (∀ w, Calls Tryz.prog 51 #[.int .i64 a] w fun e w' => e = .returned (.agg #[.int .i64 4, .int .i64 pg, .int .i64 at']) ∧ Below w.heap.size w w') := Lib.hid (fun w => by have := region_Where a w; rw [hk, ← hpg, ← hat'] at this; exact this)
  have HHd : Hid (∀ w, Calls Tryz.prog 59 #[.int .i64 4] w fun e w' => e = .returned (.bool true) ∧ w = w') := Lib.hid (fun w => region_Held 4 w)
  rw [← hat'] at hat
  have hatk : at' = regAt a := hat'
  have hv := h.ok.psg
  have hv' := hv.write at' b hbi
  have HC := Lib.hid (fun w => psg_Write B.psg hv at' b hbi w)
  have HLL := Lib.hid (show (B.psg.write at' b).cells.length = B.psg.cells.length by rw [PsgV.length hv.len, PsgV.length hv'.len])
  have HS1 := Lib.hid (show (Tryz.prog.info? 46).map (·.size) = some B.psg.cells.length by rw [PsgV.length hv.len]; exact tPsg)
  have HS2 := Lib.hid (show (Tryz.prog.info? 46).map (·.size) = some (B.psg.write at' b).cells.toArray.size by have := PsgV.size hv'.len; unfold PsgV.cells; rw [this]; exact tPsg)
  have HV' := Lib.hid hv'
  rw [← hatk]
  have HB := Lib.hid h
  have HLT := Lib.hid h.lt
  clear hatk
  clear h e1 hpg hat' hb hk hv hv'
  go_enter Tryz.func22, Tryz.ntmps22
  go_wp2_with fail
  refine HN.out.mono ?_; rintro e w' ⟨rfl, rfl⟩
  go_wp2_with fail
  refine (HBy.out _).mono ?_; rintro e w' ⟨rfl, rfl⟩
  go_wp2_with fail
  refine (HW.out _).mono ?_; rintro e w1 ⟨rfl, b1⟩
  have zb := Lib.hid (Blk.new w1 #[.int .i64 4, .int .i64 pg, .int .i64 at'] 131)
  have hb2 := Lib.hid (bal b1 (o := Obj.cells #[.int .i64 4, .int .i64 pg, .int .i64 at'] 131))
  have H2 := Lib.hid (HB.out.below hb2.out)
  have T2 := Lib.hid (Tr.of_below0 (S := l.own) hb2.out)
  have hg3 := Lib.hid b1.size
  go_wp2_with fail
  obtain ⟨w2, hw2⟩ : ∃ w2, w2 = w1.alloc (Obj.cells #[.int .i64 4, .int .i64 pg, .int .i64 at'] 131) := ⟨_, rfl⟩
  rw [← hw2] at zb hb2 H2 T2 ⊢
  clear hw2 b1
  generalize w1.heap.size = g2 at *
  have hgo := Lib.hid (show g2 ∉ l.own by
    have h1 := HLT.out; have h2 := hg3.out
    unfold BusL.own; simp only [List.mem_cons, List.not_mem_nil, or_false]; omega)
  refine wp_region_last 11 (fun w' => BusAt w' l { B with psg := B.psg.write at' b } ∧ Tr l.own w2 w') (by kernel_rfl) (by kernel_rfl) (by kernel_rfl) (by decide) ?_
  iterate 4
    (refine wpP_head rfl (by decide) (fun K hK => ?_)
     apply Exists.intro
     refine ⟨fun wq hq => ?_, hK _ ?_⟩
     · go_simp
       first | exact rfl | exact ⟨hq, rfl⟩ | exact ⟨rfl, rfl⟩
     clear hK K
     simp only [Act.put, List.setIfInBounds_toArray, List.set_cons_zero, List.set_cons_succ])
  refine wpP_head rfl (by decide) (fun K hK => ?_)
  refine ⟨_, fun wq hq => mid_upon 46 _ rfl l.p 8997 (by first | rfl | kernel_rfl) B.psg.cells _ ((H2.out.below hq).psg) Tryz.underlying46 rfl (HS1.out) hq, hK _ ?_⟩
  clear hK K
  simp only [Act.put, List.setIfInBounds_toArray, List.set_cons_zero, List.set_cons_succ]
  iterate 6
    (refine wpP_head rfl (by decide) (fun K hK => ?_)
     apply Exists.intro
     refine ⟨fun wq hq => ?_, hK _ ?_⟩
     · obtain ⟨z0, z1, z2⟩ := place_row zb.out hq
       go_simp
       first | exact rfl | exact ⟨hq, rfl⟩ | exact ⟨rfl, rfl⟩ | exact calls_under hq (HC.out wq)
     clear hK K
     simp only [Act.put, List.setIfInBounds_toArray, List.set_cons_zero, List.set_cons_succ])
  refine wpP_last rfl (by decide) (by kernel_rfl) (by kernel_rfl) ⟨undef, fun wq hq => ?_, ?_⟩
  · exact store_mid_upon 46 _ _ rfl l.p 8997 (by first | rfl | kernel_rfl) ((B.psg.write at' b).cells.toArray) (by first | rfl | kernel_rfl) ((by have hps := PsgV.size HV'.out.len; unfold PsgV.cells; rw [hps]; exact (H2.out.below hq).there 8997 244 (by decide))) (HS2.out) (PsgV.one) (⟨(H2.out.below hq).put 11 (vs := (B.psg.write at' b).cells) (x := B.psg.cells) (B' := { B with psg := B.psg.write at' b }) (o := 8997) rfl HLL.out (by decide) rfl { (H2.out.below hq).ok with psg := HV'.out } rfl rfl, Tr.laid (B.psg.write at' b).cells 8997 (g := l.p) (Tr.of_below0 (S := l.own) hq) l.mem⟩)
  simp only [Act.put, List.setIfInBounds_toArray, List.set_cons_zero, List.set_cons_succ]
  rintro wg ⟨hg, tg⟩
  have HG := Lib.hid hg
  have TG := Lib.hid tg
  clear hg tg
  obtain ⟨z0, z1, z2⟩ := place_row (Blk.tr zb.out TG.out hgo.out) (Below.refl _ _)
  clear z1 z2
  have c4 := HG.out.hold
  have f4 := HG.out.free 9261
  have HGZ := Lib.hid (HG.out.setHold b hbi)
  have TGZ := Lib.hid ((T2.out.trans TG.out).setCell 9261 l.mem (.int .i64 b))
  go_wp2_with fail
  refine (HHd.out _).mono ?_; rintro e w' ⟨rfl, rfl⟩
  go_wp2_with fail
  exact ⟨rfl, .tuple #[], by first | exact rfl | (unfold results; rfl) | kernel_rfl, rfl, HGZ.out, TGZ.out⟩
set_option maxHeartbeats 8000000 in
theorem bus_Write5 (h : BusAt w l B) (hlag : 0 ≤ B.lag ∧ B.lag ≤ 1099511627776) (a v : Int) (hk : regKind a = 5) : Calls Tryz.prog 22 #[.pointer (some ⟨l.p, 0, none⟩), .int .i64 a, .int .i64 v] w fun e w' => e = .returned (.tuple #[]) ∧ BusAt w' l (B.wr a v) ∧ Tr l.own w w' := by
  have HN := Lib.hid (bus_none h)
  have HBy := Lib.hid (fun w => bits_Byte v w)
  obtain ⟨b, hb⟩ : ∃ b, b = v % 256 := ⟨_, rfl⟩
  have hbi : 0 ≤ b ∧ b ≤ 255 := by omega
  have e1 : B.wr a v = { B.settle with timer := B.settle.timer.write (regAt a) b, hold := b } := by unfold BusV.wr BusV.wr8; rw [← hb]; rw [hk, if_neg (by decide), if_neg (by decide), if_neg (by decide), if_pos (by decide)]; rfl
  rw [e1]
  rw [← hb] at HBy
  have hat := reg_at a
  obtain ⟨pg, hpg⟩ : ∃ pg, pg = regPage a := ⟨_, rfl⟩
  obtain ⟨at', hat'⟩ : ∃ at', at' = regAt a := ⟨_, rfl⟩
  have HW : Hid (∀ w, Calls Tryz.prog 51 #[.int .i64 a] w fun e w' => e = .returned (.agg #[.int .i64 5, .int .i64 pg, .int .i64 at']) ∧ Below w.heap.size w w') := Lib.hid (fun w => by have := region_Where a w; rw [hk, ← hpg, ← hat'] at this; exact this)
  have HHd : Hid (∀ w, Calls Tryz.prog 59 #[.int .i64 5] w fun e w' => e = .returned (.bool true) ∧ w = w') := Lib.hid (fun w => region_Held 5 w)
  rw [← hat'] at hat
  have hatk : at' = regAt a := hat'
  have HST := Lib.hid (fun w' (h' : BusAt w' l B) => bus_Settle h' hlag)
  have HC : Hid (∀ w, Calls Tryz.prog 56 #[.agg #[.int .i64 B.settle.timer.reload, .int .i64 B.settle.timer.count, .bool B.settle.timer.on, .int .i64 B.settle.timer.pre], .int .i64 at', .int .i64 b] w fun e w' => e = .returned (.agg #[.int .i64 (B.settle.timer.write at' b).reload, .int .i64 (B.settle.timer.write at' b).count, .bool (B.settle.timer.write at' b).on, .int .i64 (B.settle.timer.write at' b).pre]) ∧ Below w.heap.size w w') := Lib.hid (fun w => timer_Write B.settle.timer at' b hbi w)
  rw [← hatk]
  have HB := Lib.hid h
  have HLT := Lib.hid h.lt
  clear hatk
  clear h e1 hpg hat' hb hk
  go_enter Tryz.func22, Tryz.ntmps22
  go_wp2_with fail
  refine HN.out.mono ?_; rintro e w' ⟨rfl, rfl⟩
  go_wp2_with fail
  refine (HBy.out _).mono ?_; rintro e w' ⟨rfl, rfl⟩
  go_wp2_with fail
  refine (HW.out _).mono ?_; rintro e w1 ⟨rfl, b1⟩
  have zb := Lib.hid (Blk.new w1 #[.int .i64 5, .int .i64 pg, .int .i64 at'] 131)
  have hb2 := Lib.hid (bal b1 (o := Obj.cells #[.int .i64 5, .int .i64 pg, .int .i64 at'] 131))
  have H2 := Lib.hid (HB.out.below hb2.out)
  have T2 := Lib.hid (Tr.of_below0 (S := l.own) hb2.out)
  have hg3 := Lib.hid b1.size
  go_wp2_with fail
  obtain ⟨w2, hw2⟩ : ∃ w2, w2 = w1.alloc (Obj.cells #[.int .i64 5, .int .i64 pg, .int .i64 at'] 131) := ⟨_, rfl⟩
  rw [← hw2] at zb hb2 H2 T2 ⊢
  clear hw2 b1
  generalize w1.heap.size = g2 at *
  have hgo := Lib.hid (show g2 ∉ l.own by
    have h1 := HLT.out; have h2 := hg3.out
    unfold BusL.own; simp only [List.mem_cons, List.not_mem_nil, or_false]; omega)
  refine (HST.out _ H2.out).mono ?_; rintro e w5 ⟨rfl, h5, t5⟩
  have H5 := Lib.hid h5
  have T5 := Lib.hid t5
  have z5 := Lib.hid (Blk.tr zb.out t5 hgo.out)
  clear h5 t5
  go_wp2_with fail
  refine wp_region_last 11 (fun w' => BusAt w' l { B.settle with timer := B.settle.timer.write at' b } ∧ Tr l.own w2 w') (by kernel_rfl) (by kernel_rfl) (by kernel_rfl) (by decide) ?_
  iterate 11
    (refine wpP_head rfl (by decide) (fun K hK => ?_)
     apply Exists.intro
     refine ⟨fun wq hq => ?_, hK _ ?_⟩
     · have h' := H5.out.below hq
       obtain ⟨c0, c1, c2, c3⟩ := h'.timerC
       obtain ⟨z0, z1, z2⟩ := place_row z5.out hq
       clear h'
       go_simp
       first | exact rfl | exact ⟨hq, rfl⟩ | exact ⟨rfl, rfl⟩ | exact calls_under hq (HC.out wq)
     clear hK K
     simp only [Act.put, List.setIfInBounds_toArray, List.set_cons_zero, List.set_cons_succ])
  refine wpP_last rfl (by decide) (by kernel_rfl) (by kernel_rfl) ⟨undef, fun wq hq => ?_, ?_⟩
  · have h' := H5.out.below hq
    obtain ⟨c0, c1, c2, c3⟩ := h'.timerC
    have f0 := h'.free 9241
    have f1 := h'.free 9242
    have f2 := h'.free 9243
    have f3 := h'.free 9244
    have HZ := Lib.hid (h'.put 12 (vs := (B.settle.timer.write at' b).cells) (B' := { B.settle with timer := B.settle.timer.write at' b }) (o := 9241) rfl rfl (by decide) rfl { h'.ok with timer := h'.ok.timer.write at' b } rfl rfl)
    have HZT := Lib.hid (Tr.laid (B.settle.timer.write at' b).cells 9241 (g := l.p) (T5.out.of_below hq) l.mem)
    clear h'
    go_simp
    exact ⟨HZ.out, HZT.out⟩
  simp only [Act.put, List.setIfInBounds_toArray, List.set_cons_zero, List.set_cons_succ]
  rintro wg ⟨hg, tg⟩
  have HG := Lib.hid hg
  have TG := Lib.hid tg
  clear hg tg
  obtain ⟨z0, z1, z2⟩ := place_row (Blk.tr zb.out TG.out hgo.out) (Below.refl _ _)
  clear z1 z2
  have c4 := HG.out.hold
  have f4 := HG.out.free 9261
  have HGZ := Lib.hid (HG.out.setHold b hbi)
  have TGZ := Lib.hid ((T2.out.trans TG.out).setCell 9261 l.mem (.int .i64 b))
  go_wp2_with fail
  refine (HHd.out _).mono ?_; rintro e w' ⟨rfl, rfl⟩
  go_wp2_with fail
  exact ⟨rfl, .tuple #[], by first | exact rfl | (unfold results; rfl) | kernel_rfl, rfl, HGZ.out, TGZ.out⟩
set_option maxHeartbeats 8000000 in
theorem bus_Write6 (h : BusAt w l B) (a v : Int) (hk : regKind a = 6) : Calls Tryz.prog 22 #[.pointer (some ⟨l.p, 0, none⟩), .int .i64 a, .int .i64 v] w fun e w' => e = .returned (.tuple #[]) ∧ BusAt w' l (B.wr a v) ∧ Tr l.own w w' := by
  have HN := Lib.hid (bus_none h)
  have HBy := Lib.hid (fun w => bits_Byte v w)
  obtain ⟨b, hb⟩ : ∃ b, b = v % 256 := ⟨_, rfl⟩
  have hbi : 0 ≤ b ∧ b ≤ 255 := by omega
  have e1 : B.wr a v = { B with port := B.port.write b, hold := b } := by unfold BusV.wr BusV.wr8; rw [← hb]; rw [hk, if_neg (by decide), if_neg (by decide), if_neg (by decide), if_pos (by decide)]; rfl
  rw [e1]
  rw [← hb] at HBy
  have hat := reg_at a
  obtain ⟨pg, hpg⟩ : ∃ pg, pg = regPage a := ⟨_, rfl⟩
  obtain ⟨at', hat'⟩ : ∃ at', at' = regAt a := ⟨_, rfl⟩
  have HW : Hid (∀ w, Calls Tryz.prog 51 #[.int .i64 a] w fun e w' => e = .returned (.agg #[.int .i64 6, .int .i64 pg, .int .i64 at']) ∧ Below w.heap.size w w') := Lib.hid (fun w => by have := region_Where a w; rw [hk, ← hpg, ← hat'] at this; exact this)
  have HHd : Hid (∀ w, Calls Tryz.prog 59 #[.int .i64 6] w fun e w' => e = .returned (.bool true) ∧ w = w') := Lib.hid (fun w => region_Held 6 w)
  rw [← hat'] at hat
  have hatk : at' = regAt a := hat'
  have HC : Hid (∀ w, Calls Tryz.prog 57 #[.agg #[.bool B.port.sel, .bool B.port.clr, .bool B.port.second, .int .i64 B.port.index], .int .i64 b] w fun e w' => e = .returned (.agg #[.bool (B.port.write b).sel, .bool (B.port.write b).clr, .bool (B.port.write b).second, .int .i64 (B.port.write b).index]) ∧ Below w.heap.size w w') := Lib.hid (fun w => pad_Write B.port h.ok.port b w)
  have HB := Lib.hid h
  have HLT := Lib.hid h.lt
  clear hatk
  clear h e1 hpg hat' hb hk
  go_enter Tryz.func22, Tryz.ntmps22
  go_wp2_with fail
  refine HN.out.mono ?_; rintro e w' ⟨rfl, rfl⟩
  go_wp2_with fail
  refine (HBy.out _).mono ?_; rintro e w' ⟨rfl, rfl⟩
  go_wp2_with fail
  refine (HW.out _).mono ?_; rintro e w1 ⟨rfl, b1⟩
  have zb := Lib.hid (Blk.new w1 #[.int .i64 6, .int .i64 pg, .int .i64 at'] 131)
  have hb2 := Lib.hid (bal b1 (o := Obj.cells #[.int .i64 6, .int .i64 pg, .int .i64 at'] 131))
  have H2 := Lib.hid (HB.out.below hb2.out)
  have T2 := Lib.hid (Tr.of_below0 (S := l.own) hb2.out)
  have hg3 := Lib.hid b1.size
  obtain ⟨c0, c1, c2, c3⟩ := H2.out.portC
  go_wp2_with fail
  obtain ⟨w2, hw2⟩ : ∃ w2, w2 = w1.alloc (Obj.cells #[.int .i64 6, .int .i64 pg, .int .i64 at'] 131) := ⟨_, rfl⟩
  rw [← hw2] at zb hb2 H2 T2 c0 c1 c2 c3 ⊢
  clear hw2 b1
  generalize w1.heap.size = g2 at *
  have hgo := Lib.hid (show g2 ∉ l.own by
    have h1 := HLT.out; have h2 := hg3.out
    unfold BusL.own; simp only [List.mem_cons, List.not_mem_nil, or_false]; omega)
  refine (HC.out _).mono ?_; rintro e w5 ⟨rfl, b5⟩
  have h' := H2.out.below b5
  clear c0 c1 c2 c3
  obtain ⟨c0, c1, c2, c3⟩ := h'.portC
  have f0 := h'.free 9247
  have f1 := h'.free 9248
  have f2 := h'.free 9249
  have f3 := h'.free 9250
  have HG := Lib.hid (h'.put 14 (vs := (B.port.write b).cells) (B' := { B with port := B.port.write b }) (o := 9247) rfl rfl (by decide) rfl { h'.ok with port := PortV.write_in _ b h'.ok.port } rfl rfl)
  have TG := Lib.hid (Tr.laid (B.port.write b).cells 9247 (g := l.p) (Tr.of_below0 (S := l.own) b5) l.mem)
  have ZG := Lib.hid (Blk.tr zb.out TG.out hgo.out)
  clear h' b5
  go_upto_region 22 with (fail)
  obtain ⟨wg, hwg⟩ : ∃ wg, wg = w5.setCells l.p 9247 (B.port.write b).cells := ⟨_, rfl⟩
  rw [← hwg] at HG TG ZG
  have ewg : (((w5.setCell ⟨l.p, 9247, none⟩ (.bool (B.port.write b).sel)).setCell ⟨l.p, 9248, none⟩ (.bool (B.port.write b).clr)).setCell ⟨l.p, 9249, none⟩ (.bool (B.port.write b).second)).setCell ⟨l.p, 9250, none⟩ (.int .i64 (B.port.write b).index) = wg := hwg.symm
  rw [ewg]
  clear ewg hwg c0 c1 c2 c3 f0 f1 f2 f3
  obtain ⟨z0, z1, z2⟩ := place_row (Blk.tr zb.out TG.out hgo.out) (Below.refl _ _)
  clear z1 z2
  have c4 := HG.out.hold
  have f4 := HG.out.free 9261
  have HGZ := Lib.hid (HG.out.setHold b hbi)
  have TGZ := Lib.hid ((T2.out.trans TG.out).setCell 9261 l.mem (.int .i64 b))
  go_wp2_with fail
  refine (HHd.out _).mono ?_; rintro e w' ⟨rfl, rfl⟩
  go_wp2_with fail
  exact ⟨rfl, .tuple #[], by first | exact rfl | (unfold results; rfl) | kernel_rfl, rfl, HGZ.out, TGZ.out⟩
set_option maxHeartbeats 8000000 in
theorem bus_Write7 (h : BusAt w l B) (hlag : 0 ≤ B.lag ∧ B.lag ≤ 1099511627776) (a v : Int) (hk : regKind a = 7) : Calls Tryz.prog 22 #[.pointer (some ⟨l.p, 0, none⟩), .int .i64 a, .int .i64 v] w fun e w' => e = .returned (.tuple #[]) ∧ BusAt w' l (B.wr a v) ∧ Tr l.own w w' := by
  have HN := Lib.hid (bus_none h)
  have HBy := Lib.hid (fun w => bits_Byte v w)
  obtain ⟨b, hb⟩ : ∃ b, b = v % 256 := ⟨_, rfl⟩
  have hbi : 0 ≤ b ∧ b ≤ 255 := by omega
  have e1 : B.wr a v = { B.settle with mask := if regAt a = 2 then b % 8 else B.settle.mask, lines := if regAt a = 3 then clrBit B.settle.lines 4 else B.settle.lines, hold := b } := by unfold BusV.wr BusV.wr8; rw [← hb]; rw [hk, if_neg (by decide), if_neg (by decide), if_neg (by decide), if_pos (by decide)]; rfl
  rw [e1]
  rw [← hb] at HBy
  have hat := reg_at a
  obtain ⟨pg, hpg⟩ : ∃ pg, pg = regPage a := ⟨_, rfl⟩
  obtain ⟨at', hat'⟩ : ∃ at', at' = regAt a := ⟨_, rfl⟩
  have HW : Hid (∀ w, Calls Tryz.prog 51 #[.int .i64 a] w fun e w' => e = .returned (.agg #[.int .i64 7, .int .i64 pg, .int .i64 at']) ∧ Below w.heap.size w w') := Lib.hid (fun w => by have := region_Where a w; rw [hk, ← hpg, ← hat'] at this; exact this)
  have HHd : Hid (∀ w, Calls Tryz.prog 59 #[.int .i64 7] w fun e w' => e = .returned (.bool true) ∧ w = w') := Lib.hid (fun w => region_Held 7 w)
  rw [← hat'] at hat
  have hatk : at' = regAt a := hat'
  have HST := Lib.hid (fun w' (h' : BusAt w' l B) => bus_Settle h' hlag)
  have hsm := h.ok.settle.mask
  have hsl := h.ok.settle.lines
  obtain ⟨mk, hmk⟩ : ∃ mk, mk = if at' = 2 then b % 8 else B.settle.mask := ⟨_, rfl⟩
  obtain ⟨ln, hln⟩ : ∃ ln, ln = if at' = 3 then clrBit B.settle.lines 4 else B.settle.lines := ⟨_, rfl⟩
  have HMI := Lib.hid (show (0 ≤ mk ∧ mk ≤ 7) ∧ (0 ≤ ln ∧ ln ≤ 7) by
    rw [hmk, hln]
    constructor
    · split <;> omega
    · split
      · exact clrBit_in _ hsl 4 (by simp)
      · exact hsl)
  have HC : Hid (∀ w, Calls Tryz.prog 58 #[.agg #[.int .i64 B.settle.mask, .int .i64 B.settle.lines], .int .i64 at', .int .i64 b] w fun e w' => e = .returned (.agg #[.int .i64 mk, .int .i64 ln]) ∧ Below w.heap.size w w') := Lib.hid (fun w => by rw [hmk, hln]; exact irq_Write hsm hsl at' b w)
  rw [← hatk, ← hmk, ← hln]
  have HB := Lib.hid h
  have HLT := Lib.hid h.lt
  clear hatk
  clear h e1 hpg hat' hb hk hsm hsl hmk hln
  go_enter Tryz.func22, Tryz.ntmps22
  go_wp2_with fail
  refine HN.out.mono ?_; rintro e w' ⟨rfl, rfl⟩
  go_wp2_with fail
  refine (HBy.out _).mono ?_; rintro e w' ⟨rfl, rfl⟩
  go_wp2_with fail
  refine (HW.out _).mono ?_; rintro e w1 ⟨rfl, b1⟩
  have zb := Lib.hid (Blk.new w1 #[.int .i64 7, .int .i64 pg, .int .i64 at'] 131)
  have hb2 := Lib.hid (bal b1 (o := Obj.cells #[.int .i64 7, .int .i64 pg, .int .i64 at'] 131))
  have H2 := Lib.hid (HB.out.below hb2.out)
  have T2 := Lib.hid (Tr.of_below0 (S := l.own) hb2.out)
  have hg3 := Lib.hid b1.size
  go_wp2_with fail
  obtain ⟨w2, hw2⟩ : ∃ w2, w2 = w1.alloc (Obj.cells #[.int .i64 7, .int .i64 pg, .int .i64 at'] 131) := ⟨_, rfl⟩
  rw [← hw2] at zb hb2 H2 T2 ⊢
  clear hw2 b1
  generalize w1.heap.size = g2 at *
  have hgo := Lib.hid (show g2 ∉ l.own by
    have h1 := HLT.out; have h2 := hg3.out
    unfold BusL.own; simp only [List.mem_cons, List.not_mem_nil, or_false]; omega)
  refine (HST.out _ H2.out).mono ?_; rintro e w5 ⟨rfl, h5, t5⟩
  have H5 := Lib.hid h5
  have T5 := Lib.hid t5
  have z5 := Lib.hid (Blk.tr zb.out t5 hgo.out)
  clear h5 t5
  go_wp2_with fail
  refine wp_region_last 11 (fun w' => BusAt w' l { B.settle with mask := mk, lines := ln } ∧ Tr l.own w2 w') (by kernel_rfl) (by kernel_rfl) (by kernel_rfl) (by decide) ?_
  iterate 11
    (refine wpP_head rfl (by decide) (fun K hK => ?_)
     apply Exists.intro
     refine ⟨fun wq hq => ?_, hK _ ?_⟩
     · have h' := H5.out.below hq
       obtain ⟨c0, c1⟩ := h'.irqC
       obtain ⟨z0, z1, z2⟩ := place_row z5.out hq
       clear h'
       go_simp
       first | exact rfl | exact ⟨hq, rfl⟩ | exact ⟨rfl, rfl⟩ | exact calls_under hq (HC.out wq)
     clear hK K
     simp only [Act.put, List.setIfInBounds_toArray, List.set_cons_zero, List.set_cons_succ])
  refine wpP_last rfl (by decide) (by kernel_rfl) (by kernel_rfl) ⟨undef, fun wq hq => ?_, ?_⟩
  · have h' := H5.out.below hq
    obtain ⟨c0, c1⟩ := h'.irqC
    have f0 := h'.free 9245
    have f1 := h'.free 9246
    have HZ := Lib.hid (h'.put 13 (vs := [.int .i64 mk, .int .i64 ln]) (B' := { B.settle with mask := mk, lines := ln }) (o := 9245) rfl rfl (by decide) rfl { h'.ok with mask := HMI.out.1, lines := HMI.out.2 } rfl rfl)
    have HZT := Lib.hid (Tr.laid [.int .i64 mk, .int .i64 ln] 9245 (g := l.p) (T5.out.of_below hq) l.mem)
    clear h'
    go_simp
    exact ⟨HZ.out, HZT.out⟩
  simp only [Act.put, List.setIfInBounds_toArray, List.set_cons_zero, List.set_cons_succ]
  rintro wg ⟨hg, tg⟩
  have HG := Lib.hid hg
  have TG := Lib.hid tg
  clear hg tg
  obtain ⟨z0, z1, z2⟩ := place_row (Blk.tr zb.out TG.out hgo.out) (Below.refl _ _)
  clear z1 z2
  have c4 := HG.out.hold
  have f4 := HG.out.free 9261
  have HGZ := Lib.hid (HG.out.setHold b hbi)
  have TGZ := Lib.hid ((T2.out.trans TG.out).setCell 9261 l.mem (.int .i64 b))
  go_wp2_with fail
  refine (HHd.out _).mono ?_; rintro e w' ⟨rfl, rfl⟩
  go_wp2_with fail
  exact ⟨rfl, .tuple #[], by first | exact rfl | (unfold results; rfl) | kernel_rfl, rfl, HGZ.out, TGZ.out⟩
theorem bus_Write (h : BusAt w l B) (hlag : 0 ≤ B.lag ∧ B.lag ≤ 1099511627776) (a v : Int) : Calls Tryz.prog 22 #[.pointer (some ⟨l.p, 0, none⟩), .int .i64 a, .int .i64 v] w fun e w' => e = .returned (.tuple #[]) ∧ BusAt w' l (B.wr a v) ∧ Tr l.own w w' := by
  have hr := regKind_in a
  rcases (show regKind a = 0 ∨ regKind a = 1 ∨ regKind a = 2 ∨ regKind a = 3 ∨ regKind a = 4 ∨ regKind a = 5 ∨ regKind a = 6 ∨ regKind a = 7 ∨ regKind a = 8 by omega) with hk | hk | hk | hk | hk | hk | hk | hk | hk
  · exact bus_Write0 h a v hk
  · exact bus_Write1 h a v hk
  · exact bus_Write2 h a v hk
  · exact bus_Write3 h a v hk
  · exact bus_Write4 h a v hk
  · exact bus_Write5 h hlag a v hk
  · exact bus_Write6 h a v hk
  · exact bus_Write7 h hlag a v hk
  · exact bus_Write8 h a v hk
end
end Go.Proofs.YtnllkgjmoipgbaaGreatDoor
-- SmV
namespace Go.Proofs.YtnllkgjmoipgbaaGreatDoor
open Go Go.RowKit
set_option linter.unusedSimpArgs false
set_option linter.unusedVariables false
set_option maxRecDepth 100000

theorem infoByte : ∃ i, Tryz.prog.info? 5 = some i ∧ i.zero = some (.int .u8 0) ∧ i.size = 1 ∧ i.bytes = 1 := by
  have h : (Tryz.prog.info? 5).map (fun i => (i.zero, i.size, i.bytes)) = some (some (.int .u8 0), 1, 1) := by kernel_rfl
  cases hq : Tryz.prog.info? 5 with
  | none => rw [hq] at h; cases h
  | some i =>
    rw [hq] at h
    simp only [Option.map_some, Option.some.injEq, Prod.mk.injEq] at h
    exact ⟨i, rfl, h.1, h.2.1, h.2.2⟩
/-- 'append', by its run. -/
theorem wpList_append_by {P : Program} {w w' : World} {a : Act} {Q : Exit → Act → World → Prop} {ops : Array Oper} {rest : List Oper} {o : Oper} (hg : o.guard = none) (s x : Operand) (t : TypeId) (ho : o.op = .call { callee := .builtin .append, args := #[s, x], argTypes := #[t, t] })
    (v0 v1 : Value) {v : Value} (hs : a.eval s = v0) (hx : a.eval x = v1) (hrun : (Builtin.append_ #[t, t] o.type #[v0, v1]).run P w = .ok v w')
    (h : wpList P ops Q rest (a.put o.dst v) w') : wpList P ops Q (o :: rest) a w :=
  wpList_plain hg fun _ hK => by
    unfold Oper.wp execOp
    simp only [ho, resolve, invoke, builtin, Sem.run_bind, Sem.run_pure, Result.andThen_ok, List.map_toArray, List.map_cons, List.map_nil, hs, hx, hrun]
    exact hK _ _ h
theorem card_stripped (a : Option Addr) (n c : Nat) (hn : n % 8192 = 0) (hm : n ≤ 65536) (w : World) : Calls Tryz.prog 138 #[.slice a n c] w fun e w' => e = .returned (.slice a n c) ∧ w = w' := by
  have e1 : ((n : Nat) : Int) % 8192 = 0 := by omega
  have e2 : wrap64 (n : Int) = n := w64_in (by omega)
  clear hn
  go_enter Tryz.func138, Tryz.ntmps138
  go_wp2
  go_ret
  exact ⟨rfl, rfl⟩
theorem card_check (a : Option Addr) (n c p : Nat) (hp : isPages p) (hn : n = 8192 * p) (w : World) : Calls Tryz.prog 139 #[.slice a n c] w fun e w' => e = .returned .nilIface ∧ Below w.heap.size w w' := by
  have h8 : 1 ≤ p ∧ p ≤ 8 := by unfold isPages at hp; omega
  have HC := Lib.hid (fun w => card_Class p hp w)
  have e1 : ((n : Nat) : Int) % 8192 = 0 := by omega
  have e2 : ((n : Nat) : Int) / 8192 = p := by omega
  have e3 : ((n : Nat) : Int) ≠ 0 := by omega
  have e4 : ¬ ((320 : Int) < (p : Int)) := by omega
  have e5 : wrap64 (p : Int) = p := w64_in (by omega)
  have e6 : n ≠ 0 := by omega
  have h1 : 1 ≤ p := h8.1
  have h2 : p ≤ 8 := h8.2
  clear hp hn h8
  go_enter Tryz.func139, Tryz.ntmps139
  go_wp2_with fail
  refine (HC.out _).mono ?_; rintro e w1 ⟨rfl, b1⟩
  go_wp2_with fail
  go_ret
  exact ⟨rfl, b1⟩
theorem errors_As_nil (v : Value) (w : World) : Calls Tryz.prog 140 #[.nilIface, v] w fun e w' => e = .returned (.bool false) ∧ w = w' := by
  go_enter Tryz.func140, Tryz.ntmps140
  go_wp2
  go_ret
  exact ⟨rfl, rfl⟩
/-- The card that is loaded, alone. -/
structure CardAt (w : World) (cp cg cc : Nat) (rom : List Int) (p : Nat) : Prop where
  card : Blk w cp #[.slice (some ⟨cg, 0, none⟩) rom.length cc, .int .i64 0] 27
  sl : SlAt (Value.int .u8) 0 w (some ⟨cg, 0, none⟩) rom
  cap : rom.length ≤ cc
  pages : isPages p
  len : rom.length = 8192 * p
  each : ∀ j, 0 ≤ nth 0 rom j ∧ nth 0 rom j ≤ 255
theorem CardAt.below {w w' : World} {cp cg cc : Nat} {rom : List Int} {p : Nat} (h : CardAt w cp cg cc rom p) (hb : Below w.heap.size w w') : CardAt w' cp cg cc rom p := ⟨Blk.below h.card hb, h.sl.below hb, h.cap, h.pages, h.len, h.each⟩
set_option maxHeartbeats 4000000 in
theorem card_Load (ad : Addr) (c p : Nat) (rom : List Int) (hp : isPages p) (hl : rom.length = 8192 * p) (hr : ∀ j, 0 ≤ nth 0 rom j ∧ nth 0 rom j ≤ 255) (w : World) (S : SlAt (Value.int .u8) 0 w (some ad) rom) : Calls Tryz.prog 67 #[.slice (some ad) rom.length c] w fun e w' =>
    ∃ cp cg cc, e = .returned (.tuple #[.pointer (some ⟨cp, 0, none⟩), .int .i64 0]) ∧ CardAt w' cp cg cc rom p ∧ Below w.heap.size w w' ∧ w.heap.size ≤ cp ∧ w.heap.size ≤ cg := by
  have h8 : 1 ≤ p ∧ p ≤ 8 := by unfold isPages at hp; omega
  have HS := Lib.hid (fun w => card_stripped (some ad) rom.length c (by omega) (by omega) w)
  have HK := Lib.hid (fun w => card_check (some ad) rom.length c p hp hl w)
  have HC := Lib.hid (fun w => card_Class p hp w)
  have e2 : ((rom.length : Nat) : Int) / 8192 = p := by omega
  have e5 : wrap64 (p : Int) = p := w64_in (by omega)
  have HL := Lib.hid hl
  have HP := Lib.hid hp
  have HR := Lib.hid hr
  have H8 := Lib.hid h8
  have HSl := Lib.hid S
  have hn1 : 1 ≤ rom.length := by omega
  clear hp hl hr h8 S
  go_enter Tryz.func67, Tryz.ntmps67
  go_wp2_with fail
  refine (HS.out _).mono ?_; rintro e w' ⟨rfl, rfl⟩
  go_wp2_with fail
  refine (HK.out _).mono ?_; rintro e w1 ⟨rfl, b1⟩
  have B1 := Lib.hid ((bal (Below.refl w.heap.size w)).trans (b1.mono (by simp)))
  clear b1
  go_wp2_with fail
  refine (errors_As_nil _ _).mono ?_; rintro e w' ⟨rfl, rfl⟩
  go_wp2_with fail
  refine (HC.out _).mono ?_; rintro e w2 ⟨rfl, b2⟩
  have B2 := Lib.hid (B1.out.trans (b2.mono B1.out.size))
  clear b2
  obtain ⟨inf, hi0, hz0, hz1, hz2⟩ := infoByte
  have hnews : ∀ j u, (rom.map (Value.int .u8))[j]? = some u → (w2.alloc (Obj.cells #[] 5)).cell? (ad.add j) = some u := by
    intro j u hu
    rw [List.getElem?_map] at hu
    have hj : j < rom.length := by
      rcases Nat.lt_or_ge j rom.length with h | h
      · exact h
      · rw [List.getElem?_eq_none h] at hu; cases hu
    obtain ⟨ad', e', g0⟩ := (HSl.out.below (bal B2.out (o := Obj.cells #[] 5))).atN j hj
    obtain rfl := Option.some.inj e'
    rw [List.getElem?_eq_getElem hj] at hu
    rw [nth_lt hj] at g0
    exact g0.trans hu
  have HNW := Lib.hid hnews
  have HI0 := Lib.hid hi0
  have hown0 : (w2.alloc (Obj.cells #[] 5)).ownsRow w2.heap.size 5 1 (.slice (some ⟨w2.heap.size, 0, none⟩) 0 0) 0 [] := ⟨rfl, .inr ⟨w2.heap.size, 0, #[], rfl, Nat.le_refl _, Blk.new w2 #[] 5, Nat.le_refl _, Nat.zero_le _, rfl, rfl⟩⟩
  have HOW := Lib.hid hown0
  have hmx : rom.length ≤ 65536 := by have := HL.out; have := H8.out; omega
  clear hnews hi0 hown0
  obtain ⟨v', w3, hrun, hown, hgrow, hnil, hat⟩ := run_append_own_at (P := Tryz.prog) (w2.alloc (Obj.cells #[] 5)) w2.heap.size 25 25 5 inf (.int .u8 0) 1 1 Tryz.underlying25 HI0.out hz0 hz1 hz2 rfl (by decide)
    (.slice (some ⟨w2.heap.size, 0, none⟩) 0 0) 0 [] HOW.out ad rom.length c (rom.map (Value.int .u8)) (by simp) HNW.out (by intro u hu; obtain ⟨x, _, rfl⟩ := List.mem_map.1 hu; rfl) (by unfold maxLen; omega) (by omega) (by simp)
  rw [Nat.zero_add, List.nil_append] at hown
  obtain ⟨_, hv⟩ := hown
  rcases hv with ⟨_, h0⟩ | ⟨g, cap, cur, rfl, hg, hcur, hcl, hcm, hcs, htake⟩
  · omega
  have HRUN := Lib.hid hrun
  have hs1 : w2.heap.size + 1 ≤ w3.heap.size := by have := hgrow.size; simpa using this
  have hg1 : w2.heap.size ≤ g := hg
  have hb3 : Below w2.heap.size w2 w3 := by
    have h1 : Below w2.heap.size w2 (w2.alloc (Obj.cells #[] 5)) := bal (Below.refl _ _)
    exact ⟨hgrow.os.trans h1.os, hgrow.tape.trans h1.tape, hgrow.output.trans h1.output, by omega, fun k hk => (hgrow.block k (by simp; omega) (by simp [Value.ownBlock]; omega)).trans (h1.block k hk)⟩
  have hsl : SlAt (Value.int .u8) 0 w3 (some ⟨g, 0, none⟩) rom := by
    intro i hi
    refine ⟨_, rfl, ?_⟩
    have e1 : (Addr.add ⟨g, 0, none⟩ i) = ⟨g, i, none⟩ := by unfold Addr.add; split <;> simp_all
    rw [e1, Go.Joins.cell_of_block hcur]
    have h1 : (cur.toList.take (rom.length * 1))[i]? = some (.int .u8 (nth 0 rom i)) := by rw [htake]; simp [nth_lt hi, hi]
    rw [List.getElem?_take] at h1
    simp only [Nat.mul_one, hi, if_true] at h1
    simpa using h1
  have B3 := Lib.hid (B2.out.trans (hb3.mono B2.out.size))
  have HSL := Lib.hid hsl
  have HGG := Lib.hid (show w.heap.size ≤ g by have := B2.out.size; omega)
  have HCL := Lib.hid hcl
  clear hrun hgrow hnil hat hcur hcl hcm hcs htake hg1 hb3 hsl hs1 hg HNW HI0 HOW hz0 hz1 hz2
  go_wp2_with (at_builtin; refine wpList_append_by rfl (.tmp 25) (.tmp 26) 25 rfl (.slice (some ⟨w2.heap.size, 0, none⟩) 0 0) (.slice (some ad) rom.length c) rfl rfl HRUN.out ?_)
  go_ret2
  exact ⟨w3.heap.size, g, cap, rfl, ⟨Blk.new w3 _ _, HSL.out.below (bal (Below.refl _ _)), HCL.out, HP.out, HL.out, HR.out⟩, bal B3.out, B3.out.size, HGG.out⟩
end Go.Proofs.YtnllkgjmoipgbaaGreatDoor
-- SmW
namespace Go.Proofs.YtnllkgjmoipgbaaGreatDoor
open Go Go.RowKit
set_option linter.unusedSimpArgs false
set_option linter.unusedVariables false
set_option maxRecDepth 100000

/-- The machine that is made of a card. -/
def BusV.fresh (p : Nat) (rom : List Int) : BusV :=
  { regs := ⟨0, zeros 20⟩, V := VS.new, table := zeros 256, status := 0, wait := false, moved := false, pages := p, rom := rom, latch := 0, ram := zeros 8192, file := [0, 248, 0, 0, 0, 0, 0, 0], vce := ⟨0, 0, zeros 512⟩,
    psg := PsgV.fresh, timer := ⟨0, 0, false, 0⟩, mask := 0, lines := 0, port := ⟨false, false, false, 0⟩, pads := List.replicate 5 PadV.none, hold := 255, lag := 0 }
theorem z_in {k : Int} (h : 0 ≤ k) : (0 : Int) ≤ 0 ∧ 0 ≤ k := ⟨Int.le_refl 0, h⟩
theorem nth_zeros_in (n : Nat) {lo hi : Int} (h : lo ≤ 0 ∧ 0 ≤ hi) (j : Nat) : lo ≤ nth 0 (zeros n) j ∧ nth 0 (zeros n) j ≤ hi := by rw [nth_zeros]; exact h
theorem fresh_regs_ok : RegsV.Ok ⟨0, zeros 20⟩ := ⟨by unfold RegsV.Len; simp [zeros], by decide, fun k => by show 0 ≤ nth 0 (zeros 20) k; rw [nth_zeros]; decide, fun k => by show andI (nth 0 (zeros 20) k) _ = nth 0 (zeros 20) k; rw [nth_zeros]; unfold andI; simp⟩
theorem fresh_chan_ok : ChanV.fresh.Ok := ⟨by unfold ChanV.Len ChanV.fresh; simp [zeros], by decide, by decide, by decide, by decide, by decide, by decide, fun j => nth_zeros_in 32 (by decide) j, by decide, by decide⟩
theorem BusV.fresh_ok {p : Nat} {rom : List Int} (hp : isPages p) (hl : rom.length = 8192 * p) (hr : ∀ j, 0 ≤ nth 0 rom j ∧ nth 0 rom j ≤ 255) : (BusV.fresh p rom).Ok where
  regs := fresh_regs_ok
  tableL := zeros_length 256
  table := fun j => nth_zeros_in 256 (by decide) j
  status := z_in (k := 63) (by decide)
  pages := hp
  romL := hl
  rom := hr
  latch := z_in (k := 3) (by decide)
  ramL := zeros_length 8192
  ram := fun j => nth_zeros_in 8192 (by decide) j
  fileL := rfl
  file := fun j => by
    by_cases h : j < 8
    · have : ∀ k : Fin 8, (0 : Int) ≤ nth (0 : Int) [0, 248, 0, 0, 0, 0, 0, 0] k.val ∧ nth (0 : Int) [0, 248, 0, 0, 0, 0, 0, 0] k.val ≤ 255 := by decide
      exact this ⟨j, h⟩
    · show (0 : Int) ≤ nth (0 : Int) [0, 248, 0, 0, 0, 0, 0, 0] j ∧ nth (0 : Int) [0, 248, 0, 0, 0, 0, 0, 0] j ≤ 255
      rw [nth_ge (by simp; omega)]; decide
  vce := ⟨by unfold VceV.Len; exact zeros_length 512, z_in (k := 255) (by decide), z_in (k := 511) (by decide), fun j => nth_zeros_in 512 (by decide) j⟩
  psg := ⟨by unfold BusV.fresh PsgV.fresh; simp, z_in (k := 7) (by decide), z_in (k := 255) (by decide), z_in (k := 255) (by decide), z_in (k := 255) (by decide), fun x hx => by
    have : x = ChanV.fresh := by
      unfold BusV.fresh PsgV.fresh at hx
      exact (List.mem_replicate.1 hx).2
    subst this; exact fresh_chan_ok⟩
  timer := ⟨z_in (k := 127) (by decide), z_in (k := 127) (by decide), z_in (k := 3071) (by decide), fun _ => rfl⟩
  mask := z_in (k := 7) (by decide)
  lines := z_in (k := 7) (by decide)
  port := z_in (k := 5) (by decide)
  padsL := by unfold BusV.fresh; simp
  pads := fun j => by
    have : (nth PadV.none (List.replicate 5 PadV.none) j) = PadV.none := by
      by_cases h : j < 5
      · rw [nth_lt (by simp; omega), List.getElem_replicate]
      · rw [nth_ge (by simp; omega)]
    show 0 ≤ (nth PadV.none (List.replicate 5 PadV.none) j).keys ∧ (nth PadV.none (List.replicate 5 PadV.none) j).keys ≤ 65535
    rw [this]; decide
  hold := ⟨by show (0 : Int) ≤ 255; decide, by show (255 : Int) ≤ 255; decide⟩
  lag := Int.le_refl 0

/-- The fields, as the struct has them. -/
def vid0 : List (List Value) := [RegsV.cells ⟨0, zeros 20⟩, [.pointer none], intsC (zeros 256), [.int .i64 0], [.bool false], [.bool false]]
def top1 : List (List Value) := [[.pointer none], [.int .i64 0], bytesC (zeros 8192), intsC (zeros 8), VceV.cells ⟨0, 0, zeros 512⟩, PsgV.cells ⟨0, 0, 0, 0, List.replicate 6 ChanV.zero⟩,
  TimerV.cells ⟨0, 0, false, 0⟩, [.int .i64 0, .int .i64 0], PortV.cells ⟨false, false, false, 0⟩, padsC (List.replicate 5 PadV.none), [.int .i64 0], [.int .i64 0]]
def busPl : List (Nat × Nat) := [(0, 281), (281, 1), (282, 1), (283, 8192), (8475, 8), (8483, 514), (8997, 244), (9241, 4), (9245, 2), (9247, 4), (9251, 10), (9261, 1), (9262, 1)]
def vidPl : List (Nat × Nat) := [(0, 21), (21, 1), (22, 256), (278, 1), (279, 1), (280, 1)]
theorem fill_field {places : List (Nat × Nat)} {L : List (List Value)} {ns : List Nat} (hn : L.map List.length = ns) {i off n : Nat} {x vs : List Value} {v : Value} {rest : List (Nat × Value)} (hp : places[i]? = some (off, n)) (ho : offL ns i = off) (hx : L[i]? = some x) (hxl : x.length = n) (hv : v.cells = vs.toArray) (hl : vs.length = n) :
    Instr.fill (places.toArray[·]?) L.flatten.toArray ((i, v) :: rest) = Instr.fill (places.toArray[·]?) (L.set i vs).flatten.toArray rest := by
  have e1 := flat_at hx
  have hi : i < L.length := by
    rcases Nat.lt_or_ge i L.length with h | h
    · exact h
    · rw [List.getElem?_eq_none h] at hx; cases hx
  have e2 := flat_set hi vs
  have e3 := flat_len L hn i
  rw [fill_step (off := off) (size := n) (vs := vs) (by simpa using hp) hv hl (by rw [e1]; simp only [List.length_append]; rw [e3, ho, hxl]; omega)]
  congr 2
  rw [e1, e2]
  have := laidL_mid vs (L.take i).flatten x (L.drop (i + 1)).flatten (by rw [hxl, hl])
  rw [e3, ho] at this
  exact this
theorem vid_lens {r : RegsV} (hr : r.Len) (pv : Value) : ([r.cells, [pv], intsC (zeros 256), [.int .i64 0], [.bool false], [.bool false]] : List (List Value)).map List.length = [21, 1, 256, 1, 1, 1] := by
  simp only [List.map_cons, List.map_nil, RegsV.length hr, intsC_length, zeros_length]; rfl
theorem build_video (pv : Nat) (w : World) : (Instr.build 34 #[(0, .agg (RegsV.cells ⟨0, zeros 20⟩).toArray), (1, .pointer (some ⟨pv, 0, none⟩))]).run Tryz.prog w = .ok (.agg (vid0.set 1 [.pointer (some ⟨pv, 0, none⟩)]).flatten.toArray) w := by
  refine run_build w _ _ _ ?_
  have h : (Tryz.prog.info? 34).map (·.zero) = some (some (.agg vid0.flatten.toArray)) := by kernel_rfl
  obtain ⟨it, hi, hz⟩ := Option.map_eq_some_iff.1 h
  have hr : RegsV.Len ⟨0, zeros 20⟩ := by unfold RegsV.Len; exact zeros_length 20
  rw [built_struct (places := vidPl) hi Tryz.underlying34 hz (by kernel_rfl)]
  show Instr.fill (vidPl.toArray[·]?) vid0.flatten.toArray [(0, .agg (RegsV.cells ⟨0, zeros 20⟩).toArray), (1, .pointer (some ⟨pv, 0, none⟩))] = _
  refine (fill_field (vid_lens hr (.pointer none)) (off := 0) (n := 21) (vs := RegsV.cells ⟨0, zeros 20⟩) rfl rfl rfl (RegsV.length hr) rfl (RegsV.length hr)).trans ?_
  refine (fill_field (vid_lens hr (.pointer none)) (off := 21) (n := 1) (vs := [.pointer (some ⟨pv, 0, none⟩)]) rfl rfl rfl rfl rfl rfl).trans ?_
  rfl
theorem top_lens (v : List Value) (hv : v.length = 281) (c f p : List Value) (hc : c.length = 1) (hf : f.length = 8) (hp : p.length = 244) (hh : Value) : ([v, c, [.int .i64 0], bytesC (zeros 8192), f, VceV.cells ⟨0, 0, zeros 512⟩, p, TimerV.cells ⟨0, 0, false, 0⟩, [.int .i64 0, .int .i64 0], PortV.cells ⟨false, false, false, 0⟩, padsC (List.replicate 5 PadV.none), [hh], [.int .i64 0]] : List (List Value)).map List.length = [281, 1, 1, 8192, 8, 514, 244, 4, 2, 4, 10, 1, 1] := by
  have hz : VceV.Len ⟨0, 0, zeros 512⟩ := by unfold VceV.Len; exact zeros_length 512
  simp only [List.map_cons, List.map_nil, hv, hc, hf, hp, bytesC_length, zeros_length, VceV.length hz, padsC_length, List.length_replicate]; rfl
theorem fresh_psg_len : PsgV.fresh.cells.length = 244 := PsgV.length (BusV.fresh_ok (p := 1) (rom := zeros 8192) (.inl rfl) (zeros_length 8192) (fun j => nth_zeros_in 8192 (by decide) j)).psg.len
theorem build_bus (pv cp p : Nat) (rom : List Int) (w : World) : (Instr.build 57 #[(0, .agg (vid0.set 1 [.pointer (some ⟨pv, 0, none⟩)]).flatten.toArray), (1, .pointer (some ⟨cp, 0, none⟩)), (4, .agg (intsC [0, 248, 0, 0, 0, 0, 0, 0]).toArray), (6, .agg PsgV.fresh.cells.toArray), (11, .int .i64 255)]).run Tryz.prog w = .ok (.agg ((BusV.fresh p rom).fields pv cp).flatten.toArray) w := by
  refine run_build w _ _ _ ?_
  have h : (Tryz.prog.info? 57).map (·.zero) = some (some (.agg (vid0.flatten :: top1).flatten.toArray)) := by kernel_rfl
  obtain ⟨it, hi, hz⟩ := Option.map_eq_some_iff.1 h
  have hv0 : vid0.flatten.length = 281 := by kernel_rfl
  have hv1 : (vid0.set 1 [.pointer (some ⟨pv, 0, none⟩)]).flatten.length = 281 := by kernel_rfl
  rw [built_struct (places := busPl) hi Tryz.underlying57 hz (by kernel_rfl)]
  show Instr.fill (busPl.toArray[·]?) (vid0.flatten :: top1).flatten.toArray [(0, .agg (vid0.set 1 [.pointer (some ⟨pv, 0, none⟩)]).flatten.toArray), (1, .pointer (some ⟨cp, 0, none⟩)), (4, .agg (intsC [0, 248, 0, 0, 0, 0, 0, 0]).toArray), (6, .agg PsgV.fresh.cells.toArray), (11, .int .i64 255)] = _
  have hpz : (PsgV.cells ⟨0, 0, 0, 0, List.replicate 6 ChanV.zero⟩).length = 244 := by kernel_rfl
  refine (fill_field (top_lens _ hv0 [.pointer none] (intsC (zeros 8)) _ rfl rfl hpz (.int .i64 0)) (off := 0) (n := 281) (vs := (vid0.set 1 [.pointer (some ⟨pv, 0, none⟩)]).flatten) rfl rfl rfl hv0 rfl hv1).trans ?_
  refine (fill_field (top_lens _ hv1 [.pointer none] (intsC (zeros 8)) _ rfl rfl hpz (.int .i64 0)) (off := 281) (n := 1) (vs := [.pointer (some ⟨cp, 0, none⟩)]) rfl rfl rfl rfl rfl rfl).trans ?_
  refine (fill_field (top_lens _ hv1 [.pointer (some ⟨cp, 0, none⟩)] (intsC (zeros 8)) _ rfl rfl hpz (.int .i64 0)) (off := 8475) (n := 8) (vs := intsC [0, 248, 0, 0, 0, 0, 0, 0]) rfl rfl rfl rfl rfl rfl).trans ?_
  refine (fill_field (top_lens _ hv1 [.pointer (some ⟨cp, 0, none⟩)] (intsC [0, 248, 0, 0, 0, 0, 0, 0]) _ rfl rfl hpz (.int .i64 0)) (off := 8997) (n := 244) (vs := PsgV.fresh.cells) rfl rfl rfl hpz rfl fresh_psg_len).trans ?_
  refine (fill_field (top_lens _ hv1 [.pointer (some ⟨cp, 0, none⟩)] (intsC [0, 248, 0, 0, 0, 0, 0, 0]) _ rfl rfl fresh_psg_len (.int .i64 0)) (off := 9261) (n := 1) (vs := [.int .i64 255]) rfl rfl rfl rfl rfl rfl).trans ?_
  show some (List.toArray _) = some (List.toArray _)
  congr 2
end Go.Proofs.YtnllkgjmoipgbaaGreatDoor
-- SmX
namespace Go.Proofs.YtnllkgjmoipgbaaGreatDoor
open Go Go.RowKit
set_option linter.unusedSimpArgs false
set_option linter.unusedVariables false
set_option maxRecDepth 100000

theorem regs_Fresh (w : World) : Calls Tryz.prog 45 #[] w fun e w' => e = .returned (.agg (RegsV.cells ⟨0, zeros 20⟩).toArray) ∧ Below w.heap.size w w' := by
  obtain ⟨rc, hrc⟩ : ∃ rc, rc = (RegsV.cells ⟨0, zeros 20⟩).toArray := ⟨_, rfl⟩
  have HB0 : Hid (∀ w, (Instr.build 30 #[]).run Tryz.prog w = .ok (.agg rc) w) := Lib.hid (fun w => by
    refine run_build w _ _ _ ?_
    have h : (Tryz.prog.info? 30).map (·.zero) = some (some (.agg rc)) := by rw [hrc]; kernel_rfl
    obtain ⟨it, hi, hz⟩ := Option.map_eq_some_iff.1 h
    rw [built_struct (places := [(0, 1), (1, 20)]) hi Tryz.underlying30 hz (by kernel_rfl)]
    rfl)
  have HZ0 : Hid (∀ w, (zeroValue 30).run Tryz.prog w = .ok (.agg rc) w) := Lib.hid (fun w => by rw [hrc]; kernel_rfl)
  have hs : (Tryz.prog.info? 30).map (·.size) = some rc.size := by rw [hrc, RegsV.size (by unfold RegsV.Len; exact zeros_length 20)]; exact tRegs
  have HO := Lib.hid (show rc.all (·.oneCell') = true by rw [hrc]; exact RegsV.one)
  have HS := Lib.hid hs
  rw [← hrc]
  clear hrc hs
  have Z := Blk.new w rc 30
  go_enter Tryz.func45, Tryz.ntmps45
  have hz0 := HZ0.out
  go_wp2_with (first
    | (refine wpList_built rfl 30 _ rfl (HB0.out _) rfl ?_)
    | (refine wpList_store_row rfl 30 _ _ rfl w.heap.size rc rfl rfl 30 rc Z HS.out rfl HO.out ?_))
  exact ret_row rfl rfl (Blk.setRow Z rc) Tryz.underlying30 rfl HS.out rfl ⟨rfl, below_setRow (bal (Below.refl _ _)) (Nat.le_refl _) _⟩
theorem card_PagesC {w : World} {cp cg cc p : Nat} {rom : List Int} (h : CardAt w cp cg cc rom p) : Calls Tryz.prog 44 #[.pointer (some ⟨cp, 0, none⟩)] w fun e w' => e = .returned (.int .i64 p) ∧ w = w' := by
  have c0 := Blk.cell h.card 0
  simp only [List.getElem?_toArray, List.getElem?_cons_zero] at c0
  have hr := h.len
  have hq : ((rom.length : Nat) : Int) / 8192 = p := by omega
  have h8 : p ≤ 8 := by have := h.pages; unfold isPages at this; omega
  have hw : wrap64 (p : Int) = p := w64_in (by omega)
  clear hr h
  go_enter Tryz.func44, Tryz.ntmps44
  go_wp2
  go_ret
  exact ⟨rfl, rfl⟩
set_option maxHeartbeats 4000000 in
theorem bus_New {w : World} {cp cg cc p : Nat} {rom : List Int} (h : CardAt w cp cg cc rom p) : Calls Tryz.prog 21 #[.pointer (some ⟨cp, 0, none⟩)] w fun e w' =>
    ∃ bp vp vg, e = .returned (.pointer (some ⟨bp, 0, none⟩)) ∧ BusAt w' ⟨bp, vp, vg, cp, cg, cc⟩ (BusV.fresh p rom) ∧ Below w.heap.size w w' ∧ w.heap.size ≤ bp ∧ w.heap.size ≤ vp ∧ w.heap.size ≤ vg := by
  have h8 : 1 ≤ p ∧ p ≤ 8 := by have := h.pages; unfold isPages at this; omega
  have HP := Lib.hid (card_PagesC h)
  have h0 : ((p : Int) == 0) = false := by simp; omega
  have h0' : p ≠ 0 := by omega
  have HC := Lib.hid h
  have HOK := Lib.hid (BusV.fresh_ok h.pages h.len h.each)
  have HLC := Lib.hid (Blk.lt h.card)
  have HLG : Hid (cg < w.heap.size) := Lib.hid (by
    obtain ⟨ad, e, hc⟩ := h.sl 0 (by have := h.len; omega)
    obtain rfl := Option.some.inj e
    have hl := World.block_lt_of_cell? w _ hc
    rwa [add_block] at hl)
  clear h h8
  go_enter Tryz.func21, Tryz.ntmps21
  go_wp2_with fail
  refine HP.out.mono ?_; rintro e w' ⟨rfl, rfl⟩
  go_wp2_with fail
  refine (regs_Fresh _).mono ?_; rintro e w1 ⟨rfl, b1⟩
  have B1 := Lib.hid b1
  clear b1
  generalize hrc : (RegsV.cells ⟨0, zeros 20⟩).toArray = rc at *
  have HRC := Lib.hid hrc
  clear hrc
  go_wp2_with fail
  refine (vram_New _).mono ?_; rintro e w2 ⟨vp, vg, rfl, hv, b2, hvp, hvg⟩
  have B2 := Lib.hid (B1.out.trans (b2.mono B1.out.size))
  have HV := Lib.hid hv
  have HVN := Lib.hid (And.intro hvp hvg)
  clear b2 hv hvp hvg
  have HBV := Lib.hid (fun w => build_video vp w)
  rw [HRC.out] at HBV
  generalize hvc : (vid0.set 1 [Value.pointer (some ⟨vp, 0, none⟩)]).flatten.toArray = vc at *
  have HVC := Lib.hid hvc
  clear hvc
  go_wp2_with (refine wpList_built rfl 34 _ rfl (HBV.out _) (by kernel_rfl) ?_)
  refine (mpr_Fresh _).mono ?_; rintro e w3 ⟨rfl, b3⟩
  have B3 := Lib.hid (B2.out.trans (b3.mono B2.out.size))
  have HV3 := Lib.hid (HV.out.below b3)
  clear b3
  generalize hfc : (intsC [0, 248, 0, 0, 0, 0, 0, 0]).toArray = fc at *
  have HFC := Lib.hid hfc
  clear hfc
  go_wp2_with fail
  refine (psg_Fresh _).mono ?_; rintro e w4 ⟨rfl, b4⟩
  have B4 := Lib.hid (B3.out.trans (b4.mono B3.out.size))
  have HV4 := Lib.hid (HV3.out.below b4)
  clear b4
  have HBB := Lib.hid (fun w => build_bus vp cp p rom w)
  rw [HVC.out, HFC.out] at HBB
  generalize hpc : PsgV.fresh.cells.toArray = pc at *
  have HPC := Lib.hid hpc
  clear hpc
  generalize hbc : ((BusV.fresh p rom).fields vp cp).flatten.toArray = bc at *
  have HBC := Lib.hid hbc
  clear hbc
  go_wp2_with (refine wpList_built rfl 57 _ rfl (HBB.out _) (by kernel_rfl) ?_)
  have hb5 := bal B4.out (o := Obj.cells bc 57)
  have hb6 : Below w4.heap.size w4 (w4.alloc (Obj.cells bc 57)) := bal (Below.refl _ _)
  have hlt := HV4.out.lt
  have hn := HVN.out
  have hs1 := B1.out.size
  have hs4 := B4.out.size
  have hcp := HLC.out
  have hcg := HLG.out
  have HRES : BusAt (w4.alloc (Obj.cells bc 57)) ⟨w4.heap.size, vp, vg, cp, cg, cc⟩ (BusV.fresh p rom) := by
    refine ⟨?_, HV4.out.below hb6, Blk.below HC.out.card hb5, HC.out.sl.below hb5, HC.out.cap, HOK.out, ?_⟩
    · show Blk _ w4.heap.size ((BusV.fresh p rom).fields vp cp).flatten.toArray _
      rw [HBC.out]; exact Blk.new _ _ _
    · refine ⟨?_, ?_, ?_, ?_, ?_, ?_, ?_, ?_⟩ <;> (show (_ : Nat) ≠ _; simp only; omega)
  go_ret
  exact ⟨w4.heap.size, vp, vg, rfl, HRES, hb5, hs4, by omega, by omega⟩
end Go.Proofs.YtnllkgjmoipgbaaGreatDoor
-- SmY
namespace Go.Proofs.YtnllkgjmoipgbaaGreatDoor
open Go Go.RowKit
set_option linter.unusedSimpArgs false
set_option linter.unusedVariables false
set_option maxRecDepth 100000

/-- The rule's bytes. -/
def romAt (i : Nat) : Int := IntKind.u8.wrap (bits .xor .i64 ((i : Int) * 5 / 16) (i : Int))
def romTo (n k : Nat) : List Int := (List.range n).map fun i => if i < k then romAt i else 0
theorem romTo_length (n k : Nat) : (romTo n k).length = n := by simp [romTo]
theorem romTo_zero (n : Nat) : romTo n 0 = List.replicate n 0 := by
  unfold romTo
  apply List.ext_getElem
  · simp
  · intro i h1 h2; simp
theorem romTo_succ (n k : Nat) (hk : k < n) : (romTo n k).set k (romAt k) = romTo n (k + 1) := by
  unfold romTo
  apply List.ext_getElem
  · simp
  · intro i h1 h2
    simp only [List.getElem_set, List.getElem_map, List.getElem_range]
    by_cases h : k = i
    · subst h; simp
    · rw [if_neg h]
      by_cases h3 : i < k
      · rw [if_pos h3, if_pos (by omega)]
      · rw [if_neg h3, if_neg (by omega)]
theorem romAt_in (i : Nat) : 0 ≤ romAt i ∧ romAt i ≤ 255 := by
  unfold romAt
  rw [IntKind.wrap_u8]
  omega
/-- The image: its own bytes at the beginning, and the rule. -/
def romL (n : Nat) (b : List Int) : List Int := (b.take n) ++ (romTo n n).drop (b.take n).length
theorem romL_length (n : Nat) (b : List Int) : (romL n b).length = n := by
  unfold romL; simp [romTo_length]; omega
theorem romL_in (n : Nat) (b : List Int) (hb : ∀ x ∈ b, 0 ≤ x ∧ x ≤ 255) (j : Nat) : 0 ≤ nth 0 (romL n b) j ∧ nth 0 (romL n b) j ≤ 255 := by
  by_cases hj : j < (romL n b).length
  · have hm := nth_mem (d := 0) hj
    unfold romL at hm ⊢
    rcases List.mem_append.1 hm with h | h
    · exact hb _ (List.mem_of_mem_take h)
    · have h2 := List.mem_of_mem_drop h
      generalize nth 0 (b.take n ++ (romTo n n).drop (b.take n).length) j = z at *
      unfold romTo at h2
      obtain ⟨i, hi, he⟩ := List.mem_map.1 h2
      rw [← he]
      split
      · exact romAt_in i
      · omega
  · rw [nth_ge (by omega)]; omega
set_option maxHeartbeats 4000000 in
theorem law24_Rom (p : Nat) (hp : 1 ≤ p ∧ p ≤ 8) (a : Option Addr) (c : Nat) (b : List Int) (w : World) (S : SlAt (Value.int .u8) 0 w a b) (hm : b.length ≤ maxLen) : Calls Tryz.prog 68 #[.int .i64 p, .slice a b.length c] w fun e w' =>
    ∃ g, e = .returned (.slice (some ⟨g, 0, none⟩) (8192 * p) (8192 * p)) ∧ BlkL (Value.int .u8) w' g (romL (8192 * p) b) 5 ∧ Below w.heap.size w w' ∧ w.heap.size ≤ g := by
  obtain ⟨n, hn⟩ : ∃ n, n = 8192 * p := ⟨_, rfl⟩
  rw [← hn]
  have hnn : ((p : Int) * 8192) = (n : Int) := by omega
  have h1 : 1 ≤ n := by omega
  have h2 : n ≤ 65536 := by omega
  have hnw : wrap64 (n : Int) = n := w64_in (by omega)
  have hnt : (n : Int).toNat = n := by omega
  have HS := Lib.hid S
  have HM := Lib.hid hm
  have hinfo : (Tryz.prog.info? 5).map (fun i => (i.zero, i.size, i.bytes)) = some (some (.int .u8 0), 1, 1) := by kernel_rfl
  have hmk : ∀ wx, (Instr.makeSlice 25 (.int .i64 (n : Int)) (.int .i64 (n : Int))).run Tryz.prog wx = .ok (.slice (some ⟨wx.heap.size, 0, none⟩) n n) (wx.alloc (.cells (madeCells #[.int .u8 0] n) 5)) :=
    run_make_row' 25 5 _ 1 Tryz.underlying25 hinfo rfl .i64 .i64 n (by omega) (by omega)
  clear hinfo
  clear hp hn S hm
  go_enter Tryz.func68, Tryz.ntmps68
  go_wp2_with fail
  have Z := BlkL.made (f := Value.int .u8) w 0 n 5 rfl
  rw [← romTo_zero] at Z
  have B0 := bal (Below.refl w.heap.size w) (o := Obj.cells (madeCells #[Value.int .u8 0] n) 5)
  have HZ := Lib.hid Z
  have HB0 := Lib.hid B0
  clear Z B0 hmk
  go_loopw [6] (fun i wr => ∃ k : Nat, k ≤ n ∧ i = .int .i64 k ∧ BlkL (Value.int .u8) wr w.heap.size (romTo n k) 5 ∧ Below w.heap.size w wr) (fun i _ => n - (intOf i).toNat)
  case atStart => exact ⟨0, Nat.zero_le _, rfl, HZ.out, HB0.out⟩
  case round =>
    obtain ⟨k, hk, rfl, hz, hb⟩ := hrel
    by_cases hlt : k < n
    · have d1 : decide ((k : Int) < (n : Int)) = true := by simpa using hlt
      have c1 := hz.cell 0 (by rw [romTo_length]; exact hlt)
      have f1 := Blk.free hz k
      have hset := BlkL.set (i := k) hz (romAt k)
      rw [romTo_succ n k hlt] at hset
      have HSET := Lib.hid hset
      have HBS := Lib.hid (bst hb (g := w.heap.size) (i := k) (Nat.le_refl _) (v := .int .u8 (romAt k)))
      have HRA := Lib.hid (show IntKind.u8.wrap (bits .xor .i64 ((k : Int) * 5 / 16) (k : Int)) = romAt k from rfl)
      have q1 : (k : Int) < (n : Int) := by omega
      have q0 : 0 ≤ (k : Int) * 5 := by omega
      have q2 : wrap64 ((k : Int) * 5) = (k : Int) * 5 := w64_in (by omega)
      have hra := HRA.out
      clear hset hz hb
      go_wp2
      go_roundw
      case rel => exact ⟨k + 1, by omega, by go_num, HSET.out, HBS.out⟩
      case measure => simp [intOf]; omega
    · obtain rfl : k = n := by omega
      have d1 : decide ((k : Int) < (k : Int)) = false := by simp
      have hcell : 0 < ((b.take k).map (Value.int .u8)).length → some (⟨w.heap.size, 0, none⟩ : Addr) = some ⟨w.heap.size, 0, none⟩ ∧ ∃ ad, a = some ad ∧ ∀ j v, ((b.take k).map (Value.int .u8))[j]? = some v → wr.cell? (ad.add j) = some v := fun hpos => by
        have hbl : 0 < b.length := by
          rcases Nat.eq_zero_or_pos b.length with h0 | h0
          · rw [List.length_eq_zero_iff.1 h0] at hpos; simp at hpos
          · exact h0
        obtain ⟨ad, ea, _⟩ := HS.out.atN 0 hbl
        refine ⟨rfl, ad, ea, fun j v hj => ?_⟩
        have hjl : j < (b.take k).length := by
          rcases Nat.lt_or_ge j (b.take k).length with h | h
          · exact h
          · rw [List.getElem?_eq_none (by simpa using h)] at hj; cases hj
        have hjb : j < b.length := by simp at hjl; omega
        obtain ⟨ad', e', g0⟩ := (HS.out.below hb).atN j hjb
        obtain rfl := Option.some.inj (ea.symm.trans e')
        rw [List.getElem?_map, List.getElem?_eq_getElem hjl, List.getElem_take] at hj
        rw [nth_lt hjb] at g0
        exact g0.trans hj
      have HCELL := Lib.hid hcell
      have hzb : wr.heap[w.heap.size]? = some (.cells ((romTo k k).map (Value.int .u8)).toArray 5 (0, 0)) := hz
      have HZB := Lib.hid hzb
      have HBB := Lib.hid hb
      have HL2 := Lib.hid (show ((b.take k).map (Value.int .u8)).length = Nat.min b.length k by rw [List.length_map, List.length_take]; exact Nat.min_comm _ _)
      have HL3 := Lib.hid (show 0 + ((b.take k).map (Value.int .u8)).length ≤ ((romTo k k).map (Value.int .u8)).length by simp [romTo_length]; omega)
      clear hcell hzb hz hb
      go_wp2_with (refine wpList_copy_splice rfl (.tmp 25) (.tmp 26) 25 25 rfl 5 Tryz.underlying25 (by kernel_rfl) (some ⟨w.heap.size, 0, none⟩) a k k b.length c rfl rfl w.heap.size 0 ((romTo k k).map (Value.int .u8)) 5 HZB.out ((b.take k).map (Value.int .u8)) HL2.out HCELL.out HL3.out (by intro u hu; obtain ⟨x, _, rfl⟩ := List.mem_map.1 hu; rfl) w.heap.size w HBB.out (Nat.le_refl _) ?_; intro wc hgc hbc)
      have HR : BlkL (Value.int .u8) wc w.heap.size (romL k b) 5 := by
        have := hgc.out
        unfold BlkL Blk
        rw [this]
        congr 3
        unfold romL splice
        simp
      have HRH := Lib.hid HR
      clear HR hgc
      go_ret
      exact ⟨w.heap.size, rfl, HRH.out, hbc, Nat.le_refl _⟩
/-- The machine that the laws begin with. -/
def BusV.made (p : Nat) (b : List Int) : BusV := BusV.fresh p (romL (8192 * p) b)
/-- Its blocks are the call's own. -/
def BusL.From (l : BusL) (n : Nat) : Prop := n ≤ l.p ∧ n ≤ l.vp ∧ n ≤ l.vg
theorem BusL.From.own {l : BusL} {n : Nat} (h : l.From n) : ∀ b ∈ l.own, n ≤ b := by
  intro b hb
  unfold BusL.own at hb
  simp only [List.mem_cons, List.not_mem_nil, or_false] at hb
  rcases hb with rfl | rfl | rfl
  · exact h.1
  · exact h.2.1
  · exact h.2.2
set_option maxHeartbeats 4000000 in
theorem law24_machine (p : Nat) (hp : isPages p) (w : World) : Calls Tryz.prog 26 #[.int .i64 p] w fun e w' =>
    ∃ l : BusL, e = .returned (.pointer (some ⟨l.p, 0, none⟩)) ∧ BusAt w' l (BusV.made p []) ∧ Below w.heap.size w w' ∧ l.From w.heap.size := by
  have h8 : 1 ≤ p ∧ p ≤ 8 := by unfold isPages at hp; omega
  have HR : Hid (∀ w, Calls Tryz.prog 68 #[.int .i64 p, .slice none 0 0] w fun e w' =>
    ∃ g, e = .returned (.slice (some ⟨g, 0, none⟩) (8192 * p) (8192 * p)) ∧ BlkL (Value.int .u8) w' g (romL (8192 * p) []) 5 ∧ Below w.heap.size w w' ∧ w.heap.size ≤ g) := Lib.hid (fun w => law24_Rom p h8 none 0 [] w SlAt.nil (by simp))
  have hlen := romL_length (8192 * p) []
  have hin := romL_in (8192 * p) [] (by intro x hx; cases hx)
  have hmd : BusV.made p [] = BusV.fresh p (romL (8192 * p) []) := rfl
  rw [hmd]
  generalize romL (8192 * p) [] = rom at *
  have HL := Lib.hid hlen
  have HI := Lib.hid hin
  have HP := Lib.hid hp
  have HLd : Hid (∀ (w : World) (g c : Nat), SlAt (Value.int .u8) 0 w (some ⟨g, 0, none⟩) rom → Calls Tryz.prog 67 #[.slice (some ⟨g, 0, none⟩) (8192 * p) c] w fun e w' =>
    ∃ cp cg cc, e = .returned (.tuple #[.pointer (some ⟨cp, 0, none⟩), .int .i64 0]) ∧ CardAt w' cp cg cc rom p ∧ Below w.heap.size w w' ∧ w.heap.size ≤ cp ∧ w.heap.size ≤ cg) := Lib.hid (fun w g c S => by
    have := card_Load ⟨g, 0, none⟩ c p rom hp hlen hin w S
    rw [hlen] at this; exact this)
  clear hlen hin hp h8 hmd
  go_enter Tryz.func26, Tryz.ntmps26
  go_wp2_with fail
  refine (HR.out _).mono ?_; rintro e w1 ⟨g, rfl, hg, b1, hgn⟩
  have HG := Lib.hid (SlAt.of_blkL (f := Value.int .u8) (d := 0) hg)
  have B1 := Lib.hid b1
  clear hg b1 hgn
  go_wp2_with fail
  refine (HLd.out _ _ _ HG.out).mono ?_; rintro e w2 ⟨cp, cg, cc, rfl, hc, b2, hcp, hcg⟩
  have HC := Lib.hid hc
  have B2 := Lib.hid (B1.out.trans (b2.mono B1.out.size))
  clear hc b2 hcp hcg
  go_wp2_with fail
  refine (bus_New HC.out).mono ?_; rintro e w3 ⟨bp, vp, vg, rfl, hb, b3, h1, h2, h3⟩
  have HB := Lib.hid hb
  have B3 := Lib.hid (B2.out.trans (b3.mono B2.out.size))
  have HF : Hid (BusL.From ⟨bp, vp, vg, cp, cg, cc⟩ w.heap.size) := Lib.hid (by have := B2.out.size; refine ⟨?_, ?_, ?_⟩ <;> (show w.heap.size ≤ _; simp only; omega))
  clear hb b3 h1 h2 h3
  go_wp2_with fail
  go_ret
  exact ⟨⟨bp, vp, vg, cp, cg, cc⟩, rfl, HB.out, B3.out, HF.out⟩
end Go.Proofs.YtnllkgjmoipgbaaGreatDoor
-- LwA
namespace Go.Proofs.YtnllkgjmoipgbaaGreatDoor
open Go Go.RowKit
set_option linter.unusedSimpArgs false
set_option linter.unusedVariables false
set_option maxRecDepth 100000

theorem BusL.From.below {l : BusL} {W w w' : World} (h : l.From W.heap.size) (hb : Below W.heap.size W w) (t : Tr l.own w w') : Below W.heap.size W w' := Tr.below hb t (Nat.le_refl _) h.own
/-- Places. -/
theorem reg_ram {k j : Int} (hk : 0 ≤ k ∧ k < 4) (hj : 0 ≤ j ∧ j < 8192) : regKind (2031616 + k * 8192 + j) = 1 ∧ regAt (2031616 + k * 8192 + j) = j := by
  have h1 : regKind (2031616 + k * 8192 + j) = 1 := by unfold regKind; rw [if_neg (by omega), if_neg (by omega), if_pos (by omega)]
  refine ⟨h1, ?_⟩
  unfold regAt; rw [if_pos (by omega)]; omega
theorem reg_rom0 {a : Int} (h : 0 ≤ a ∧ a < 1048576) : regKind a = 0 := by unfold regKind; rw [if_neg (by omega), if_pos (by omega)]
theorem reg_open {a : Int} (h : 1048576 ≤ a ∧ a < 1056768) : regKind a = 8 := by unfold regKind; rw [if_neg (by omega), if_neg (by omega), if_neg (by omega), if_neg (by omega)]
def BusV.setRam (B : BusV) (j : Nat) (x : Int) : BusV := { B with ram := B.ram.set j x }
theorem BusV.wr_ram (B : BusV) (a v : Int) (j : Nat) (hk : regKind a = 1) (hj : regAt a = j) : B.wr a v = B.setRam j (v % 256) := by
  unfold BusV.wr BusV.wr8 BusV.setRam; rw [if_pos hk, hj]; rfl
theorem BusV.rd_ram (B : BusV) (a : Int) (j : Nat) (hk : regKind a = 1) (hj : regAt a = j) : B.rd a = nth 0 B.ram j := by
  unfold BusV.rd; rw [if_neg (by omega), if_pos hk, hj]; rfl
theorem BusV.wr_none (B : BusV) (a v : Int) (hk : regKind a = 0 ∨ regKind a = 8) : B.wr a v = B := by
  unfold BusV.wr BusV.wr8; rw [if_neg (by omega), if_neg (by omega), if_neg (by omega), if_neg (by omega)]
theorem BusV.go_none (B : BusV) (a : Int) (hk : regKind a = 0 ∨ regKind a = 1 ∨ regKind a = 8) : B.go a = B := by
  unfold BusV.go; rw [if_neg (by omega), if_neg (by omega), if_neg (by omega)]
theorem BusV.rd_open (B : BusV) (a : Int) (hk : regKind a = 8) : B.rd a = 255 := by
  unfold BusV.rd; rw [if_neg (by omega), if_neg (by omega), if_neg (by omega), if_neg (by omega), if_pos hk]
theorem BusV.rd_rom (B : BusV) (a : Int) (hk : regKind a = 0) : B.rd a = nth 0 B.rom (regPage a % B.pages * 8192 + regAt a).toNat := by unfold BusV.rd; rw [if_pos hk]
theorem made_lag (p : Nat) (b : List Int) : (BusV.made p b).lag = 0 := rfl
theorem setRam_twice (B : BusV) (j : Nat) (x y : Int) : (B.setRam j x).setRam j y = B.setRam j y := by unfold BusV.setRam; simp
theorem zeros_set (n j : Nat) : (zeros n).set j 0 = zeros n := by
  unfold zeros
  apply List.ext_getElem
  · simp
  · intro i h1 h2
    simp [List.getElem_set]
theorem setRam_made (p : Nat) (b : List Int) (j : Nat) : (BusV.made p b).setRam j 0 = BusV.made p b := by
  unfold BusV.setRam BusV.made BusV.fresh
  have : (zeros 8192).set j 0 = zeros 8192 := zeros_set 8192 j
  simp only [this]
section
variable {W : World} {l : BusL}
/-- A call of Write, of a machine whose timer is not behind. -/
theorem lw_Write (hF : l.From W.heap.size) {w : World} {B : BusV} (h : BusAt w l B) (hb : Below W.heap.size W w) (h0 : B.lag = 0) (a v : Int) {B' : BusV} (hB : B.wr a v = B') : Calls Tryz.prog 22 #[.pointer (some ⟨l.p, 0, none⟩), .int .i64 a, .int .i64 v] w fun e w' => e = .returned (.tuple #[]) ∧ BusAt w' l B' ∧ Below W.heap.size W w' :=
  (bus_Write h (by rw [h0]; decide) a v).mono fun _ _ ⟨he, h1, t⟩ => ⟨he, hB ▸ h1, hF.below hb t⟩
theorem lw_Read (hF : l.From W.heap.size) {w : World} {B : BusV} (h : BusAt w l B) (hb : Below W.heap.size W w) (h0 : B.lag = 0) (a : Int) {x : Int} {B' : BusV} (hx : B.rd a = x) (hB : B.go a = B') : Calls Tryz.prog 25 #[.pointer (some ⟨l.p, 0, none⟩), .int .i64 a] w fun e w' => e = .returned (.int .i64 x) ∧ BusAt w' l B' ∧ Below W.heap.size W w' :=
  (bus_Read h (by rw [h0]; decide) a).mono fun _ _ ⟨he, h1, t⟩ => ⟨by rw [he, hx], hB ▸ h1, hF.below hb t⟩
end
set_option maxHeartbeats 4000000 in
theorem busRam_walk (at' v phys : Int) (w : World) : Calls Tryz.prog 4 #[.int .i64 at', .int .i64 v, .int .i64 phys] w fun e w' => e = .returned (.bool true) ∧ Below w.heap.size w w' := by
  have HM := Lib.hid (fun w => law24_machine 1 (.inl rfl) w)
  obtain ⟨j, hj⟩ : ∃ j : Nat, at' % 8192 = (j : Int) := ⟨(at' % 8192).toNat, by omega⟩
  have hj2 : (j : Int) < 8192 := by omega
  obtain ⟨ph, hph⟩ : ∃ ph : Int, phys % 1048576 = ph := ⟨_, rfl⟩
  have hph2 : 0 ≤ ph ∧ ph < 1048576 := by omega
  have hpa : bits .and .i64 phys 1048575 = ph := by rw [and_mask 20 (by omega) phys 1048575 (by decide)]; exact hph
  clear hph
  go_enter Tryz.func4, Tryz.ntmps4
  go_wp2_with fail
  refine (HM.out _).mono ?_; rintro e w1 ⟨l, rfl, hb, b1, hF⟩
  have HF := Lib.hid hF
  have HJ := Lib.hid hj2
  rw [← setRam_made 1 [] j] at hb
  have H0 := Lib.hid hb
  have B0 := Lib.hid b1
  clear hb b1 hF
  go_wp2_with fail
  obtain ⟨z, hz⟩ : ∃ z : Nat → Int, z = fun k : Nat => if k = 0 then (0 : Int) else (v + ((k : Int) - 1)) % 256 := ⟨_, rfl⟩
  have HZS := Lib.hid (show ∀ k : Nat, wrap64 (v + (k : Int)) % 256 = z (k + 1) from fun k => by
    rw [hz]
    show _ = if k + 1 = 0 then (0 : Int) else _
    rw [if_neg (by omega), w64_mod (v + k) 256 (by decide), show (((k + 1 : Nat) : Int) - 1) = k by omega])
  have h00 : z 0 = 0 := by rw [hz]; rfl
  rw [← h00] at H0
  clear hz h00
  go_loopw [8, 9] (fun i _ wr => ∃ k : Nat, k ≤ 4 ∧ i = .int .i64 k ∧ BusAt wr l ((BusV.made 1 []).setRam j (z k)) ∧ Below w.heap.size w wr) (fun i _ _ => 4 - (intOf i).toNat)
  case atStart => exact ⟨0, Nat.zero_le _, rfl, H0.out, B0.out⟩
  case round =>
    obtain ⟨k, hk, rfl, hb, hbl⟩ := hrel
    by_cases hlt : k < 4
    · have d1 : decide ((k : Int) < 4) = true := by simp; omega
      have x1 : (k : Int) < 4 := by omega
      obtain ⟨rk, ra⟩ := reg_ram (k := (k : Int)) (j := (j : Int)) ⟨by omega, by omega⟩ ⟨by omega, hj2⟩
      have hwr : ((BusV.made 1 []).setRam j (z k)).wr (2031616 + (k : Int) * 8192 + j) (wrap64 (v + k)) = (BusV.made 1 []).setRam j (z (k + 1)) := by
        rw [BusV.wr_ram _ _ _ j rk (by rw [ra]), setRam_twice]
        congr 1
        exact HZS.out k
      have HW := Lib.hid (lw_Write HF.out hb hbl rfl (2031616 + (k : Int) * 8192 + j) (wrap64 (v + k)) hwr)
      clear hwr rk ra hb hbl
      go_wp2_with fail
      refine HW.out.mono ?_; rintro e w2 ⟨rfl, hb2, b2⟩
      have HB2 := Lib.hid hb2
      have BL2 := Lib.hid b2
      have HZK : Hid (wrap64 (v + k) % 256 = z (k + 1)) := Lib.hid (HZS.out k)
      clear hb2 b2 HW
      go_wp2_with fail
      go_loopw [9] (fun i wr => ∃ m : Nat, m ≤ 4 ∧ i = .int .i64 m ∧ BusAt wr l ((BusV.made 1 []).setRam j (z (k + 1))) ∧ Below w.heap.size w wr) (fun i _ => 4 - (intOf i).toNat)
      case atStart => exact ⟨0, Nat.zero_le _, rfl, HB2.out, BL2.out⟩
      case round =>
        clear HB2 BL2
        obtain ⟨m, hm, rfl, hb, hbl⟩ := hrel
        by_cases hlm : m < 4
        · have d2 : decide ((m : Int) < 4) = true := by simp; omega
          have x2 : (m : Int) < 4 := by omega
          obtain ⟨rk, ra⟩ := reg_ram (k := (m : Int)) (j := (j : Int)) ⟨by omega, by omega⟩ ⟨by omega, hj2⟩
          have HR := Lib.hid (lw_Read HF.out hb hbl rfl (2031616 + (m : Int) * 8192 + j) (x := z (k + 1)) (by
            rw [BusV.rd_ram _ _ j rk (by rw [ra])]
            show nth 0 ((zeros 8192).set j _) j = _
            rw [nth_set_eq (by rw [zeros_length]; omega)]) (BusV.go_none _ _ (.inr (.inl rk))))
          clear rk ra hb hbl
          go_wp2_with fail
          refine HR.out.mono ?_; rintro e w3 ⟨rfl, hb3, b3⟩
          have HB3 := Lib.hid hb3
          have BL3 := Lib.hid b3
          have hzk := HZK.out
          clear hb3 b3 HR
          go_wp2
          go_roundw
          case rel => exact ⟨m + 1, by omega, by go_num, HB3.out, BL3.out⟩
          case measure => simp [intOf]; omega
        · obtain rfl : m = 4 := by omega
          have HB3 := Lib.hid hb
          have BL3 := Lib.hid hbl
          clear hb hbl
          go_wp2
          go_roundw
          case rel => exact ⟨k + 1, by omega, by go_num, HB3.out, BL3.out⟩
          case measure => simp [intOf]; omega
    · obtain rfl : k = 4 := by omega
      obtain ⟨rk, ra⟩ := reg_ram (k := 0) (j := (j : Int)) ⟨by omega, by omega⟩ ⟨by omega, hj2⟩
      have e5 : (2031616 : Int) + 0 * 8192 + j = 2031616 + j := by omega
      rw [e5] at rk ra
      have hr0 := reg_rom0 hph2
      have ho : bits .or .i64 1048576 (j : Int) = 1048576 + j := or_join64 13 _ _ (by omega) (by omega) (by omega) (by simp; omega) (by omega) (by decide)
      have hr8 := reg_open (a := 1048576 + (j : Int)) ⟨by omega, by omega⟩
      obtain ⟨B4, hB4⟩ : ∃ B4, B4 = (BusV.made 1 []).setRam j (z 4) := ⟨_, rfl⟩
      rw [← hB4] at hb
      have hl4 : B4.lag = 0 := by rw [hB4]; rfl
      have hx4 : B4.rd (2031616 + (j : Int)) = z 4 := by
        rw [BusV.rd_ram _ _ j rk (by rw [ra]), hB4]
        show nth 0 ((zeros 8192).set j _) j = _
        rw [nth_set_eq (by rw [zeros_length]; omega)]
      obtain ⟨was, hwas⟩ : ∃ was, B4.rd ph = was := ⟨_, rfl⟩
      have HRP := Lib.hid (fun w' (h' : BusAt w' l B4) (hbl' : Below w.heap.size w w') => lw_Read HF.out h' hbl' hl4 ph hwas (BusV.go_none _ _ (.inl hr0)))
      have HWP := Lib.hid (fun w' (h' : BusAt w' l B4) (hbl' : Below w.heap.size w w') => lw_Write HF.out h' hbl' hl4 ph v (BusV.wr_none _ _ _ (.inl hr0)))
      have HWO := Lib.hid (fun w' (h' : BusAt w' l B4) (hbl' : Below w.heap.size w w') => lw_Write HF.out h' hbl' hl4 (1048576 + (j : Int)) v (BusV.wr_none _ _ _ (.inr hr8)))
      have HRO := Lib.hid (fun w' (h' : BusAt w' l B4) (hbl' : Below w.heap.size w w') => lw_Read HF.out h' hbl' hl4 (1048576 + (j : Int)) (BusV.rd_open _ _ hr8) (BusV.go_none _ _ (.inr (.inr hr8))))
      have HRR := Lib.hid (fun w' (h' : BusAt w' l B4) (hbl' : Below w.heap.size w w') => lw_Read HF.out h' hbl' hl4 (2031616 + (j : Int)) hx4 (BusV.go_none _ _ (.inr (.inl rk))))
      have HZ4 : Hid (wrap64 (v + 3) % 256 = z 4) := Lib.hid (HZS.out 3)
      have hp1 := hph2.1
      have hp2 := hph2.2
      have HB := Lib.hid hb
      have BL := Lib.hid hbl
      clear hB4 hl4 hx4 hwas hb hbl rk ra hr0 hr8 hph2 e5 H0 B0
      go_wp2_with fail
      refine (HRP.out _ HB.out BL.out).mono ?_; rintro e w2 ⟨rfl, h2, b2⟩
      have HB2 := Lib.hid h2
      have BL2 := Lib.hid b2
      clear h2 b2
      go_wp2_with fail
      refine (HWP.out _ HB2.out BL2.out).mono ?_; rintro e w3 ⟨rfl, h2, b2⟩
      have HB3 := Lib.hid h2
      have BL3 := Lib.hid b2
      clear h2 b2
      go_wp2_with fail
      refine (HWO.out _ HB3.out BL3.out).mono ?_; rintro e w4 ⟨rfl, h2, b2⟩
      have HB4 := Lib.hid h2
      have BL4 := Lib.hid b2
      clear h2 b2
      go_wp2_with fail
      refine (HRP.out _ HB4.out BL4.out).mono ?_; rintro e w5 ⟨rfl, h2, b2⟩
      have HB5 := Lib.hid h2
      have BL5 := Lib.hid b2
      clear h2 b2
      go_wp2_with fail
      refine (HRO.out _ HB5.out BL5.out).mono ?_; rintro e w6 ⟨rfl, h2, b2⟩
      have HB6 := Lib.hid h2
      have BL6 := Lib.hid b2
      clear h2 b2
      go_wp2_with fail
      refine (HRR.out _ HB6.out BL6.out).mono ?_; rintro e w7 ⟨rfl, h2, b2⟩
      have BL7 := Lib.hid b2
      have hz4 := HZ4.out
      clear h2 b2
      go_wp2_with fail
      go_ret
      exact ⟨rfl, BL7.out⟩
end Go.Proofs.YtnllkgjmoipgbaaGreatDoor
-- LwB
namespace Go.Proofs.YtnllkgjmoipgbaaGreatDoor
open Go Go.RowKit
set_option linter.unusedSimpArgs false
set_option linter.unusedVariables false
set_option maxRecDepth 100000

theorem and_low (k : Nat) (hk : k ≤ 62) (n : Int) (m : Nat) (hm : m < 2 ^ k) : bits .and .i64 n (m : Int) = (((n % 2 ^ k).toNat &&& m : Nat) : Int) := by
  have hp : (2 : Nat) ^ k ≤ 2 ^ 62 := Nat.pow_le_pow_right (by omega) hk
  have h1 : (BitVec.ofInt 64 (m : Int)).toNat = m := by rw [ofInt64_toNat _ (by omega) (by omega)]; omega
  have key : (BitVec.ofInt 64 n &&& BitVec.ofInt 64 (m : Int)).toNat = (n % ((2 ^ 64 : Nat) : Int)).toNat &&& m := by
    rw [BitVec.toNat_and, BitVec.toNat_ofInt, h1]
  have e1 : (n % ((2 ^ 64 : Nat) : Int)).toNat &&& m = (n % 2 ^ k).toNat &&& m := by
    have e2 : m = (2 ^ k - 1) &&& m := by rw [Nat.and_comm, Nat.and_two_pow_sub_one_eq_mod, Nat.mod_eq_of_lt hm]
    have e3 : (n % ((2 ^ 64 : Nat) : Int)).toNat % 2 ^ k = (n % 2 ^ k).toNat := by
      have hd : (n % ((2 ^ 64 : Nat) : Int)) % (2 ^ k) = n % 2 ^ k := by
        rw [Int.emod_emod_of_dvd]
        have : (2 : Int) ^ 64 = 2 ^ k * 2 ^ (64 - k) := by rw [← Int.pow_add]; congr 1; omega
        exact ⟨2 ^ (64 - k), by simpa using this⟩
      have hnn : 0 ≤ n % ((2 ^ 64 : Nat) : Int) := Int.emod_nonneg _ (by decide)
      rw [← hd]
      generalize n % ((2 ^ 64 : Nat) : Int) = z at *
      obtain ⟨q, rfl⟩ := Int.eq_ofNat_of_zero_le hnn
      have cst : ((2 : Int) ^ k) = ((2 ^ k : Nat) : Int) := by simp
      rw [cst]
      simp only [Int.toNat_natCast]
      rw [← Int.natCast_emod, Int.toNat_natCast]
    rw [e2, ← Nat.and_assoc, ← Nat.and_assoc, Nat.and_two_pow_sub_one_eq_mod, Nat.and_two_pow_sub_one_eq_mod, e3]
    congr 1
    exact (Nat.mod_eq_of_lt (by
      have := Int.emod_lt_of_pos n (show (0 : Int) < 2 ^ k from Int.pow_pos (by decide))
      have := Int.emod_nonneg n (show (2 : Int) ^ k ≠ 0 from Int.pow_ne_zero (by decide))
      have cst : ((2 : Int) ^ k) = ((2 ^ k : Nat) : Int) := by simp
      omega)).symm
  show IntKind.i64.wrap ((BitVec.ofInt 64 n &&& BitVec.ofInt 64 (m : Int)).toNat : Nat) = _
  rw [key, e1, IntKind.wrap_i64]
  have hle : (n % 2 ^ k).toNat &&& m ≤ m := Nat.and_le_right
  omega
theorem and_io (x : Int) (y : Int) (hy : bits .and .i64 x 2088959 = y) : 0 ≤ y ∧ y < 2097152 ∧ y / 8192 % 2 = 0 := by
  have h := and_low 21 (by omega) x 2088959 (by decide)
  rw [show ((2088959 : Nat) : Int) = 2088959 by rfl, hy] at h
  obtain ⟨z, hz⟩ : ∃ z, z = (x % 2 ^ 21).toNat &&& 2088959 := ⟨_, rfl⟩
  have h1 : z ≤ 2088959 := by rw [hz]; exact Nat.and_le_right
  have h2 : z / 8192 % 2 = 0 := by
    have h3 : z.testBit 13 = false := by rw [hz, Nat.testBit_and, show (2088959 : Nat).testBit 13 = false by decide, Bool.and_false]
    rw [Nat.testBit_eq_decide_div_mod_eq] at h3
    have := of_decide_eq_false h3
    omega
  rw [← hz] at h
  omega
/-- The devices' places. -/
theorem reg_io (o : Int) (h : 0 ≤ o ∧ o < 6144) : regKind (2088960 + o) = 2 + o / 1024 := by
  unfold regKind; rw [if_neg (by omega), if_neg (by omega), if_neg (by omega), if_pos (by omega), if_pos (by omega)]; omega
theorem io_at (o k : Int) (h : 0 ≤ o ∧ o < 6144) (hk : o / 1024 = k) : regAt (2088960 + o) = if k = 0 ∨ k = 5 then o % 4 else if k = 1 then o % 8 else if k = 2 then o % 16 else if k = 3 then o % 2 else 0 := by
  have h1 := reg_io o h
  unfold regAt
  rw [h1, hk]
  split
  · omega
  split
  · rw [if_pos (by omega)]; omega
  split
  · rw [if_neg (by omega), if_pos (by omega)]; omega
  split
  · rw [if_neg (by omega), if_neg (by omega), if_pos (by omega)]; omega
  split
  · rw [if_neg (by omega), if_neg (by omega), if_neg (by omega), if_pos (by omega)]; omega
  · rw [if_neg (by omega), if_neg (by omega), if_neg (by omega), if_neg (by omega)]
theorem BusV.wr_held (B : BusV) (a v : Int) (h : 4 ≤ regKind a ∧ regKind a ≤ 7) : (B.wr a v).hold = v % 256 := by
  unfold BusV.wr BusV.wr8
  rw [if_neg (by omega), if_neg (by omega), if_neg (by omega), if_pos h]
  unfold BusV.held
  split
  · rfl
  split
  · rfl
  split
  · rfl
  · rfl
theorem BusV.wr_lag (B : BusV) (a v : Int) (h0 : B.lag = 0) (h : 4 ≤ regKind a ∧ regKind a ≤ 7) : (B.wr a v).lag = 0 := by
  unfold BusV.wr BusV.wr8
  rw [if_neg (by omega), if_neg (by omega), if_neg (by omega), if_pos h]
  unfold BusV.held
  split
  · exact h0
  split
  · rfl
  split
  · exact h0
  · rfl
set_option maxHeartbeats 4000000 in
theorem busHolds_walk (k v phys : Int) (w : World) : Calls Tryz.prog 7 #[.int .i64 k, .int .i64 v, .int .i64 phys] w fun e w' => e = .returned (.bool true) ∧ Below w.heap.size w w' := by
  have HM := Lib.hid (fun w => law24_machine 1 (.inl rfl) w)
  obtain ⟨q, hq⟩ : ∃ q : Int, k % 4 = q := ⟨_, rfl⟩
  have hq2 : 0 ≤ q ∧ q < 4 := by omega
  obtain ⟨ph, hph⟩ : ∃ ph : Int, bits .and .i64 phys 2088959 = ph := ⟨_, rfl⟩
  have hpi := and_io phys ph hph
  have rk : regKind (2091008 + q * 1024) = 4 + q := by
    have := reg_io (2048 + q * 1024) (by omega)
    rw [show (2091008 : Int) + q * 1024 = 2088960 + (2048 + q * 1024) by omega, this]; omega
  have rk4 : regKind 2091008 = 4 := by have := reg_io 2048 (by omega); simpa using this
  have ra4 : regAt 2091008 = 0 := by have := io_at 2048 2 (by omega) (by decide); simpa using this
  have rk3 : regKind 2089984 = 3 := by have := reg_io 1024 (by omega); simpa using this
  have hkp : regKind ph = 0 ∨ regKind ph = 1 ∨ regKind ph = 8 := by
    unfold regKind
    rw [if_neg (by omega)]
    split
    · exact .inl rfl
    split
    · exact .inr (.inl rfl)
    rw [if_neg (by omega)]
    exact .inr (.inr rfl)
  obtain ⟨B1, hB1⟩ : ∃ B1, B1 = (BusV.made 1 []).wr (2091008 + q * 1024) v := ⟨_, rfl⟩
  have hl1 : B1.lag = 0 := by rw [hB1]; exact BusV.wr_lag _ _ _ rfl (by omega)
  have hh1 : B1.hold = v % 256 := by rw [hB1]; exact BusV.wr_held _ _ _ (by omega)
  have hrd : B1.rd 2091008 = v % 256 := by
    unfold BusV.rd
    rw [rk4, if_neg (by decide), if_neg (by decide), if_neg (by decide), if_neg (by decide), if_neg (by decide)]
    show (B1.goHeld 4 _).hold = _
    unfold BusV.goHeld
    rw [if_neg (by decide), if_neg (by decide), if_neg (by omega)]; exact hh1
  have hgo : B1.go 2091008 = B1 := by
    unfold BusV.go
    rw [rk4, if_neg (by decide), if_neg (by decide), if_pos (by decide)]
    unfold BusV.goHeld
    rw [if_neg (by decide), if_neg (by decide), if_neg (by omega)]
  obtain ⟨B2, hB2⟩ : ∃ B2, B2 = B1.wr ph (wrap64 (v + 1)) := ⟨_, rfl⟩
  have hw2 : B2 = B1 ∨ ∃ j x, B2 = B1.setRam j x := by
    rcases hkp with h | h | h
    · left; rw [hB2, BusV.wr_none _ _ _ (.inl h)]
    · right; exact ⟨_, _, by rw [hB2, BusV.wr_ram _ _ _ (regAt ph).toNat h (by have := reg_at ph; omega)]⟩
    · left; rw [hB2, BusV.wr_none _ _ _ (.inr h)]
  have hl2 : B2.lag = 0 := by rcases hw2 with h | ⟨j, x, h⟩ <;> (rw [h]; exact hl1)
  have hh2 : B2.hold = v % 256 := by rcases hw2 with h | ⟨j, x, h⟩ <;> (rw [h]; exact hh1)
  obtain ⟨B3, hB3⟩ : ∃ B3, B3 = B2.go 2089984 := ⟨_, rfl⟩
  have hh3 : B3.hold = v % 256 := by
    rw [hB3]; unfold BusV.go; rw [rk3, if_neg (by decide), if_pos rfl]; exact hh2
  have HL1 := Lib.hid hl1
  have HH1 := Lib.hid hh1
  have HRD := Lib.hid hrd
  have HGO := Lib.hid hgo
  have HL2 := Lib.hid hl2
  have HH3 := Lib.hid hh3
  have HB1 := Lib.hid hB1.symm
  have HB2 := Lib.hid hB2.symm
  have HB3 := Lib.hid hB3.symm
  have HKP := Lib.hid (BusV.go_none B1 ph hkp)
  have hq0 := hq2.1
  have hq4 := hq2.2
  clear hkp hpi rk rk4 ra4 rk3 hl1 hh1 hrd hgo hw2 hl2 hh2 hh3 hB1 hB2 hB3 hq2
  go_enter Tryz.func7, Tryz.ntmps7
  go_wp2_with fail
  refine (HM.out _).mono ?_; rintro e w1 ⟨l, rfl, h2, b2, hF⟩
  have HF := Lib.hid hF
  have H1 := Lib.hid h2
  have BL1 := Lib.hid b2
  clear h2 b2 hF
  go_wp2_with fail
  refine (lw_Write HF.out H1.out BL1.out rfl _ v HB1.out).mono ?_; rintro e w2 ⟨rfl, h2, b2⟩
  have H2 := Lib.hid h2
  have BL2 := Lib.hid b2
  have c1 := h2.hold
  rw [HH1.out] at c1
  clear h2 b2
  go_wp2_with fail
  refine (lw_Read HF.out H2.out BL2.out HL1.out _ HRD.out HGO.out).mono ?_; rintro e w3 ⟨rfl, h2, b2⟩
  have H3 := Lib.hid h2
  have BL3 := Lib.hid b2
  clear h2 b2 c1
  go_wp2_with fail
  refine (lw_Read HF.out H3.out BL3.out HL1.out ph rfl HKP.out).mono ?_; rintro e w4 ⟨rfl, h2, b2⟩
  have H4 := Lib.hid h2
  have BL4 := Lib.hid b2
  clear h2 b2
  go_wp2_with fail
  refine (lw_Write HF.out H4.out BL4.out HL1.out ph _ HB2.out).mono ?_; rintro e w5 ⟨rfl, h2, b2⟩
  have H5 := Lib.hid h2
  have BL5 := Lib.hid b2
  clear h2 b2
  go_wp2_with fail
  refine (lw_Read HF.out H5.out BL5.out HL2.out 2089984 rfl HB3.out).mono ?_; rintro e w6 ⟨rfl, h2, b2⟩
  have BL6 := Lib.hid b2
  have c1 := h2.hold
  rw [HH3.out] at c1
  clear h2 b2
  go_wp2_with fail
  go_ret
  exact ⟨rfl, BL6.out⟩
end Go.Proofs.YtnllkgjmoipgbaaGreatDoor
-- MaL
namespace Go.Proofs.YtnllkgjmoipgbaaGreatDoor
open Go Go.RowKit
set_option linter.unusedSimpArgs false
set_option linter.unusedVariables false

theorem TimerV.adv_zero (t : TimerV) : t.adv 0 = t := by unfold TimerV.adv; rw [if_neg (by omega)]
theorem TimerV.not_rings_zero (t : TimerV) : ¬ t.rings 0 := by unfold TimerV.rings; omega
theorem emod_add_lt (x y m R : Int) (hR : 0 < R) (hm : x % R = m) (hy : 0 ≤ y) (hlt : m + y < R) (h0 : 0 ≤ m) : (x + y) % R = m + y := by
  rw [Int.add_emod, hm, Int.emod_eq_of_lt hy (by omega), Int.emod_eq_of_lt (by omega) (by omega)]
theorem emod_add_any (x y m R : Int) (hm : x % R = m) : (x + y) % R = (m + y) % R := by
  rw [← hm, Int.emod_add_emod]
theorem TimerV.adv_add {t : TimerV} (h : t.Ok) (a b : Int) (ha : 0 ≤ a) (hb : 0 ≤ b) : (t.adv a).adv b = t.adv (a + b) := by
  by_cases ha0 : a = 0
  · subst ha0; rw [TimerV.adv_zero, Int.zero_add]
  by_cases hb0 : b = 0
  · subst hb0; rw [TimerV.adv_zero, Int.add_zero]
  by_cases ho : t.on = true
  · have hr := h.reload; have hc := h.count; have hp := h.pre
    obtain ⟨s, hs⟩ : ∃ s, s = (t.pre + a) / 3072 := ⟨_, rfl⟩
    obtain ⟨q, hq⟩ : ∃ q, q = (t.pre + a) % 3072 := ⟨_, rfl⟩
    obtain ⟨s2, hs2⟩ : ∃ s2, s2 = (q + b) / 3072 := ⟨_, rfl⟩
    have e1 : (t.pre + (a + b)) / 3072 = s + s2 := by omega
    have e2 : (t.pre + (a + b)) % 3072 = (q + b) % 3072 := by omega
    have s0 : 0 ≤ s := by omega
    have s20 : 0 ≤ s2 := by omega
    have hR : 0 < t.reload + 1 := by omega
    unfold TimerV.adv
    rw [if_pos (show t.on = true ∧ 1 ≤ a + b from ⟨ho, by omega⟩), if_pos (show t.on = true ∧ 1 ≤ a from ⟨ho, by omega⟩), e1, e2, ← hs, ← hq]
    by_cases h1 : s ≤ t.count
    · rw [if_pos h1, if_pos (show t.on = true ∧ 1 ≤ b from ⟨ho, by omega⟩)]
      simp only [← hs2]
      by_cases h2 : s2 ≤ t.count - s
      · rw [if_pos h2, if_pos (by omega)]
        simp only [TimerV.mk.injEq, true_and, and_true]
        omega
      · rw [if_neg h2, if_neg (by omega)]
        have : s2 - (t.count - s + 1) = s + s2 - (t.count + 1) := by omega
        rw [this]
    · rw [if_neg h1, if_neg (show ¬ s + s2 ≤ t.count by omega), if_pos (show t.on = true ∧ 1 ≤ b from ⟨ho, by omega⟩)]
      simp only [← hs2]
      obtain ⟨m, hm⟩ : ∃ m, (s - (t.count + 1)) % (t.reload + 1) = m := ⟨_, rfl⟩
      have hm0 : 0 ≤ m := by rw [← hm]; exact Int.emod_nonneg _ (by omega)
      have hm1 : m < t.reload + 1 := by rw [← hm]; exact Int.emod_lt_of_pos _ hR
      rw [hm]
      have e3 : s + s2 - (t.count + 1) = (s - (t.count + 1)) + s2 := by omega
      by_cases h2 : s2 ≤ t.reload - m
      · rw [if_pos h2, e3, emod_add_lt _ _ m _ hR hm s20 (by omega) hm0]
        simp only [TimerV.mk.injEq, true_and, and_true]
        omega
      · rw [if_neg h2, e3, emod_add_any _ _ m _ hm]
        have : s2 - (t.reload - m + 1) = (m + s2) - (t.reload + 1) := by omega
        rw [this, Int.sub_emod_right]
  · have e : ∀ n, t.adv n = t := fun n => by unfold TimerV.adv; rw [if_neg (fun k => ho k.1)]
    rw [e, e, e]
theorem TimerV.adv_on (t : TimerV) (n : Int) : (t.adv n).on = t.on := by
  unfold TimerV.adv
  split
  · split <;> rfl
  · rfl
theorem TimerV.adv_reload (t : TimerV) (n : Int) : (t.adv n).reload = t.reload := by
  unfold TimerV.adv
  split
  · split <;> rfl
  · rfl
theorem TimerV.rings_add {t : TimerV} (h : t.Ok) (a b : Int) (ha : 0 ≤ a) (hb : 0 ≤ b) : t.rings (a + b) ↔ t.rings a ∨ (t.adv a).rings b := by
  by_cases ha0 : a = 0
  · subst ha0; rw [TimerV.adv_zero, Int.zero_add]
    exact ⟨.inr, fun k => k.elim (fun k => absurd k t.not_rings_zero) id⟩
  by_cases hb0 : b = 0
  · subst hb0; rw [Int.add_zero]
    exact ⟨.inl, fun k => k.elim id (fun k => absurd k (TimerV.not_rings_zero _))⟩
  by_cases ho : t.on = true
  · have hr := h.reload; have hc := h.count; have hp := h.pre
    have hon := t.adv_on a
    by_cases h1 : (t.pre + a) / 3072 ≤ t.count
    · have e : t.adv a = { t with pre := (t.pre + a) % 3072, count := t.count - (t.pre + a) / 3072 } := by
        unfold TimerV.adv; rw [if_pos ⟨ho, by omega⟩, if_pos h1]
      rw [e]
      unfold TimerV.rings
      simp only [ho, true_and]
      omega
    · constructor
      · intro _; exact .inl ⟨ho, by omega, by omega⟩
      · intro _; exact ⟨ho, by omega, by omega⟩
  · constructor
    · intro k; exact absurd k.1 ho
    · rintro (k | k)
      · exact absurd k.1 ho
      · exact absurd (by rw [← t.adv_on a]; exact k.1) ho
theorem orBit_twice (l : Int) (b : Int) (hb : b = 1 ∨ b = 2 ∨ b = 4) (hl : 0 ≤ l ∧ l ≤ 7) : orBit (orBit l b) b = orBit l b := by
  unfold orBit
  rcases hb with rfl | rfl | rfl
  · by_cases h : l / 1 % 2 = 0
    · rw [if_pos h, if_neg (by omega)]
    · rw [if_neg h, if_neg h]
  · by_cases h : l / 2 % 2 = 0
    · rw [if_pos h, if_neg (by omega)]
    · rw [if_neg h, if_neg h]
  · by_cases h : l / 4 % 2 = 0
    · rw [if_pos h, if_neg (by omega)]
    · rw [if_neg h, if_neg h]
/-- So many ticks more. -/
def BusV.tick (B : BusV) (n : Int) : BusV := { B with lag := B.lag + n }
theorem BusV.settle_idem (B : BusV) : B.settle.settle = B.settle := by
  unfold BusV.settle
  simp only [TimerV.adv_zero, if_neg (TimerV.not_rings_zero _)]
theorem BusV.settle_of {B : BusV} (h : B.lag = 0) : B.settle = B := by
  obtain ⟨⟩ := B
  simp only at h
  subst h
  unfold BusV.settle
  simp only [TimerV.adv_zero, if_neg (TimerV.not_rings_zero _)]
theorem BusV.settle_tick {B : BusV} (h : B.Ok) (n : Int) (hn : 0 ≤ n) : (B.tick n).settle = (B.settle.tick n).settle := by
  unfold BusV.settle BusV.tick
  simp only [Int.zero_add]
  have e1 := TimerV.adv_add h.timer B.lag n h.lag hn
  have e2 := TimerV.rings_add h.timer B.lag n h.lag hn
  rw [e1]
  congr 1
  by_cases h1 : B.timer.rings B.lag
  · rw [if_pos h1, if_pos (e2.2 (.inl h1))]
    split
    · rw [orBit_twice _ 4 (by simp) h.lines]
    · rfl
  · rw [if_neg h1]
    by_cases h2 : (B.timer.adv B.lag).rings n
    · rw [if_pos h2, if_pos (e2.2 (.inr h2))]
    · rw [if_neg h2, if_neg (fun k => (e2.1 k).elim h1 h2)]
end Go.Proofs.YtnllkgjmoipgbaaGreatDoor
-- LwC
namespace Go.Proofs.YtnllkgjmoipgbaaGreatDoor
open Go Go.RowKit
set_option linter.unusedSimpArgs false
set_option linter.unusedVariables false
set_option maxRecDepth 100000

theorem reg_timer0 : regKind 2092032 = 5 ∧ regAt 2092032 = 0 := ⟨by have := reg_io 3072 (by omega); simpa using this, by have := io_at 3072 3 (by omega) (by decide); simpa using this⟩
theorem reg_timer1 : regKind 2092033 = 5 ∧ regAt 2092033 = 1 := ⟨by have := reg_io 3073 (by omega); simpa using this, by have := io_at 3073 3 (by omega) (by decide); simpa using this⟩
theorem reg_psg0 : regKind 2091008 = 4 ∧ regAt 2091008 = 0 := ⟨by have := reg_io 2048 (by omega); simpa using this, by have := io_at 2048 2 (by omega) (by decide); simpa using this⟩
theorem reg_vdc0 : regKind 2088960 = 2 ∧ regAt 2088960 = 0 := ⟨by have := reg_io 0 (by omega); simpa using this, by have := io_at 0 0 (by omega) (by decide); simpa using this⟩
theorem reg_irq3 : regKind 2094083 = 7 ∧ regAt 2094083 = 3 := ⟨by have := reg_io 5123 (by omega); simpa using this, by have := io_at 5123 5 (by omega) (by decide); simpa using this⟩
theorem BusV.wr_io (B : BusV) (a v k o : Int) (h : regKind a = k ∧ regAt a = o) (hk : 4 ≤ k ∧ k ≤ 7) : B.wr a v = B.held k o (v % 256) := by
  unfold BusV.wr BusV.wr8
  rw [h.1, if_neg (by omega), if_neg (by omega), if_neg (by omega), if_pos hk, h.2]
theorem BusV.go_io (B : BusV) (a k o : Int) (h : regKind a = k ∧ regAt a = o) (hk : 4 ≤ k ∧ k ≤ 7) : B.go a = B.goHeld k o := by
  unfold BusV.go
  rw [h.1, if_neg (by omega), if_neg (by omega), if_pos hk, h.2]
theorem BusV.rd_io (B : BusV) (a k o : Int) (h : regKind a = k ∧ regAt a = o) (hk : 4 ≤ k ∧ k ≤ 7) : B.rd a = (B.goHeld k o).hold := by
  unfold BusV.rd
  rw [h.1, if_neg (by omega), if_neg (by omega), if_neg (by omega), if_neg (by omega), if_neg (by omega), h.2]
/-- What the clock's law sees of a machine. -/
structure ClockV (B : BusV) (t : TimerV) (hold lag mask lines status : Int) : Prop where
  timer : B.timer = t
  hold : B.hold = hold
  lag : B.lag = lag
  mask : B.mask = mask
  lines : B.lines = lines
  status : B.status = status
theorem clock_set {B : BusV} {t : TimerV} {h m li s : Int} (c : ClockV B t h 0 m li s) (o b : Int) : ClockV (B.held 5 o b) (t.write o b) b 0 m li s := by
  have e := BusV.settle_of c.lag
  unfold BusV.held
  rw [if_neg (by decide), if_pos rfl, e]
  exact ⟨by show B.timer.write o b = _; rw [c.timer], rfl, c.lag, c.mask, c.lines, c.status⟩
theorem clock_psg {B : BusV} {t : TimerV} {h m li s : Int} (c : ClockV B t h 0 m li s) (o b : Int) : ClockV (B.held 4 o b) t b 0 m li s := by
  unfold BusV.held
  rw [if_pos rfl]
  exact ⟨c.timer, rfl, c.lag, c.mask, c.lines, c.status⟩
theorem made_clock (p : Nat) (b : List Int) : ClockV (BusV.made p b) ⟨0, 0, false, 0⟩ 255 0 0 0 0 := ⟨rfl, rfl, rfl, rfl, rfl, rfl⟩
/-- The clock that is set up, so many ticks on. -/
theorem clock_adv (r n : Int) (hr : 0 ≤ r ∧ r ≤ 127) (hn : 0 ≤ n) : (TimerV.adv ⟨r, r, true, 0⟩ n).count = r - n / 3072 % (r + 1) := by
  unfold TimerV.adv
  by_cases h1 : 1 ≤ n
  · rw [if_pos ⟨rfl, h1⟩]
    simp only [Int.zero_add]
    have hq : 0 ≤ n / 3072 := Int.ediv_nonneg hn (by omega)
    by_cases h2 : n / 3072 ≤ r
    · rw [if_pos h2]
      show r - n / 3072 = _
      rw [Int.emod_eq_of_lt hq (by omega)]
    · rw [if_neg h2]
      show r - (n / 3072 - (r + 1)) % (r + 1) = _
      rw [Int.sub_emod_right]
  · rw [if_neg (fun h => h1 h.2)]
    have : n = 0 := by omega
    subst this
    show r = r - 0 / 3072 % (r + 1)
    rw [Int.zero_ediv, Int.zero_emod]; omega
theorem clock_rings (r n : Int) (hr : 0 ≤ r ∧ r ≤ 127) (hn : 0 ≤ n) : TimerV.rings ⟨r, r, true, 0⟩ n ↔ (r + 1) * 3072 ≤ n := by
  unfold TimerV.rings
  simp only [Int.zero_add, true_and]
  constructor
  · intro h; omega
  · intro h; omega
set_option maxHeartbeats 4000000 in
theorem busClock_walk (reload ticks v : Int) (w : World) : Calls Tryz.prog 8 #[.int .i64 reload, .int .i64 ticks, .int .i64 v] w fun e w' => e = .returned (.bool true) ∧ Below w.heap.size w w' := by
  have HM := Lib.hid (fun w => law24_machine 1 (.inl rfl) w)
  obtain ⟨r, hr⟩ : ∃ r : Int, reload % 128 = r := ⟨_, rfl⟩
  have hr2 : 0 ≤ r ∧ r ≤ 127 := by omega
  obtain ⟨n, hn⟩ : ∃ n : Int, bits .and .i64 ticks 1048575 = n := ⟨_, rfl⟩
  have hn2 : 0 ≤ n ∧ n < 1048576 := by rw [and_mask 20 (by omega) ticks 1048575 (by decide)] at hn; omega
  obtain ⟨B1, hB1⟩ : ∃ B1, (BusV.made 1 []).wr 2092032 r = B1 := ⟨_, rfl⟩
  obtain ⟨B2, hB2⟩ : ∃ B2, B1.wr 2092033 1 = B2 := ⟨_, rfl⟩
  obtain ⟨B3, hB3⟩ : ∃ B3, B2.wr 2091008 v = B3 := ⟨_, rfl⟩
  have c1 : ClockV B1 ⟨r, 0, false, 0⟩ r 0 0 0 0 := by
    rw [← hB1, BusV.wr_io _ _ _ 5 0 reg_timer0 (by decide)]
    have := clock_set (made_clock 1 []) 0 (r % 256)
    rw [show r % 256 = r by omega] at this ⊢
    have e : TimerV.write ⟨0, 0, false, 0⟩ 0 r = ⟨r, 0, false, 0⟩ := by unfold TimerV.write; rw [if_pos rfl]; show TimerV.mk (r % 128) 0 false 0 = _; rw [show r % 128 = r by omega]
    rwa [e] at this
  have c2 : ClockV B2 ⟨r, r, true, 0⟩ 1 0 0 0 0 := by
    rw [← hB2, BusV.wr_io _ _ _ 5 1 reg_timer1 (by decide)]
    exact clock_set c1 1 (1 % 256)
  have c3 : ClockV B3 ⟨r, r, true, 0⟩ (v % 256) 0 0 0 0 := by
    rw [← hB3, BusV.wr_io _ _ _ 4 0 reg_psg0 (by decide)]
    exact clock_psg c2 0 (v % 256)
  obtain ⟨B4, hB4⟩ : ∃ B4 : BusV, B4 = { B3 with lag := n } := ⟨_, rfl⟩
  obtain ⟨ct, hct⟩ : ∃ ct, r - n / 3072 % (r + 1) = ct := ⟨_, rfl⟩
  have hm1 := Int.emod_nonneg (n / 3072) (show r + 1 ≠ 0 by omega)
  have hm2 := Int.emod_lt_of_pos (n / 3072) (show 0 < r + 1 by omega)
  have hcti : 0 ≤ ct ∧ ct ≤ 127 := by omega
  obtain ⟨ar, har⟩ : ∃ ar : Bool, decide ((r + 1) * 3072 ≤ n) = ar := ⟨_, rfl⟩
  obtain ⟨B5, hB5⟩ : ∃ B5, B4.go 2092032 = B5 := ⟨_, rfl⟩
  have hst : ClockV B4.settle (TimerV.adv ⟨r, r, true, 0⟩ n) (v % 256) 0 0 (if ar then 4 else 0) 0 := by
    rw [hB4]
    refine ⟨by show B3.timer.adv n = _; rw [c3.timer], c3.hold, rfl, c3.mask, ?_, c3.status⟩
    show (if B3.timer.rings n then orBit B3.lines 4 else B3.lines) = _
    rw [c3.timer, c3.lines]
    by_cases h : (r + 1) * 3072 ≤ n
    · rw [if_pos ((clock_rings r n hr2 hn2.1).2 h), ← har, decide_eq_true h]; rfl
    · rw [if_neg (fun k => h ((clock_rings r n hr2 hn2.1).1 k)), ← har, decide_eq_false h]; rfl
  have hgo : B5 = { B4.settle with hold := B4.hold / 128 * 128 + B4.settle.timer.count } := by
    rw [← hB5, BusV.go_io _ _ 5 0 reg_timer0 (by decide)]; unfold BusV.goHeld; rw [if_pos rfl]
  have hc4 : B4.hold = v % 256 := by rw [hB4]; exact c3.hold
  have hcc : B4.settle.timer.count = ct := by rw [hst.timer, clock_adv r n hr2 hn2.1]; exact hct
  have c5 : ClockV B5 (TimerV.adv ⟨r, r, true, 0⟩ n) (v % 256 / 128 * 128 + ct) 0 0 (if ar then 4 else 0) 0 := by
    rw [hgo]
    exact ⟨hst.timer, by show B4.hold / 128 * 128 + B4.settle.timer.count = _; rw [hc4, hcc], hst.lag, hst.mask, hst.lines, hst.status⟩
  have hrd5 : B4.rd 2092032 = v % 256 / 128 * 128 + ct := by
    rw [BusV.rd_io _ _ 5 0 reg_timer0 (by decide), ← BusV.go_io _ _ 5 0 reg_timer0 (by decide), hB5]; exact c5.hold
  obtain ⟨B6, hB6⟩ : ∃ B6, B5.go 2088960 = B6 := ⟨_, rfl⟩
  have c6 : ClockV B6 (TimerV.adv ⟨r, r, true, 0⟩ n) (v % 256 / 128 * 128 + ct) 0 0 (if ar then 4 else 0) 0 := by
    rw [← hB6]
    unfold BusV.go
    rw [reg_vdc0.1, if_pos rfl, reg_vdc0.2]
    unfold BusV.goVdc
    rw [if_pos rfl]
    refine ⟨c5.timer, c5.hold, c5.lag, c5.mask, ?_, rfl⟩
    show clrBit B5.lines 2 = _
    rw [c5.lines]
    cases ar <;> rfl
  obtain ⟨B7, hB7⟩ : ∃ B7, B6.wr 2094083 v = B7 := ⟨_, rfl⟩
  have hl7 : B7.lines = 0 := by
    rw [← hB7, BusV.wr_io _ _ _ 7 3 reg_irq3 (by decide)]
    unfold BusV.held
    rw [if_neg (by decide), if_neg (by decide), if_neg (by decide), BusV.settle_of c6.lag]
    show (if (3 : Int) = 3 then clrBit B6.lines 4 else B6.lines) = 0
    rw [if_pos rfl, c6.lines]
    cases ar <;> rfl
  have C1 := Lib.hid c1.lag
  have C2 := Lib.hid c2.lag
  have C3 := Lib.hid c3
  have C5 := Lib.hid c5
  have C6 := Lib.hid c6
  have HB1 := Lib.hid hB1
  have HB2 := Lib.hid hB2
  have HB3 := Lib.hid hB3
  have HB4 := Lib.hid hB4
  have HB5 := Lib.hid hB5
  have HB6 := Lib.hid hB6
  have HB7 := Lib.hid hB7
  have HL7 := Lib.hid hl7
  have HRD5 := Lib.hid hrd5
  have HCT := Lib.hid hct
  have HAR := Lib.hid har
  have HL4 := Lib.hid (show 0 ≤ B4.lag ∧ B4.lag ≤ 1099511627776 by rw [hB4]; exact ⟨hn2.1, by show n ≤ 1099511627776; omega⟩)
  have x1 := hr2.1
  have x2 := hr2.2
  have y1 := hn2.1
  have y2 := hn2.2
  clear c1 c2 c3 c5 c6 hst hgo hc4 hcc hrd5 hl7 hB1 hB2 hB3 hB4 hB5 hB6 hB7 hct har hm1 hm2 hr2 hn2
  go_enter Tryz.func8, Tryz.ntmps8
  go_wp2_with fail
  refine (HM.out _).mono ?_; rintro e w1 ⟨l, rfl, h2, b2, hF⟩
  have HF := Lib.hid hF
  have H1 := Lib.hid h2
  have BL1 := Lib.hid b2
  clear h2 b2 hF
  go_wp2_with fail
  refine (lw_Write HF.out H1.out BL1.out rfl _ r HB1.out).mono ?_; rintro e w2 ⟨rfl, h2, b2⟩
  have H2 := Lib.hid h2
  have BL2 := Lib.hid b2
  clear h2 b2
  go_wp2_with fail
  refine (lw_Write HF.out H2.out BL2.out C1.out _ 1 HB2.out).mono ?_; rintro e w3 ⟨rfl, h2, b2⟩
  have H3 := Lib.hid h2
  have BL3 := Lib.hid b2
  clear h2 b2
  go_wp2_with fail
  refine (lw_Write HF.out H3.out BL3.out C2.out _ v HB3.out).mono ?_; rintro e w4 ⟨rfl, h2, b2⟩
  have k4 := h2.lag
  have f4 := h2.free 9262
  have H4 := Lib.hid (h2.put1 17 (v := .int .i64 n) (B' := B4) (o := 9262) rfl (by decide) (by rw [HB4.out]; rfl) (by rw [HB4.out]; exact { h2.ok with lag := y1 }) (by rw [HB4.out]) (by rw [HB4.out]))
  have BL4 := Lib.hid (b2.setCell (p := ⟨l.p, 9262, none⟩) HF.out.1 (.int .i64 n))
  clear h2 b2
  go_wp2_with fail
  refine ((bus_Read H4.out HL4.out 2092032)).mono ?_; rintro e w5 ⟨rfl, h2, t2⟩
  rw [HB5.out] at h2
  have BL5 := Lib.hid (HF.out.below BL4.out t2)
  rw [HRD5.out]
  have H5 := Lib.hid h2
  have d1 := h2.irqC.2
  have d2 := h2.lag
  rw [C5.out.lines] at d1
  rw [C5.out.lag] at d2
  clear h2 t2 k4 f4
  obtain ⟨cv, hcv⟩ : ∃ cv, cv = v % 256 / 128 * 128 + ct := ⟨_, rfl⟩
  rw [← hcv]
  have e1 : cv % 128 = ct := by omega
  have e2 : bits .and .i64 cv 128 = v % 256 / 128 * 128 := by rw [and255_128 cv (by omega)]; omega
  have e3 : bits .and .i64 v 128 = v % 256 / 128 * 128 := by
    have h1 := and_low 8 (by omega) v 128 (by decide)
    have h2 := and_low 8 (by omega) (v % 256) 128 (by decide)
    have h3 := and255_128 (v % 256) (by omega)
    rw [show ((128 : Nat) : Int) = 128 by rfl] at h1 h2
    rw [h1, ← h3, h2]
    rw [show (2 : Int) ^ 8 = 256 by decide, Int.emod_emod_of_dvd v (show (256 : Int) ∣ 256 by decide)]
  have e4 := HCT.out
  have e5 := HAR.out
  have e6 : 0 ≤ n / 3072 := Int.ediv_nonneg y1 (by decide)
  have e7 : n / 3072 ≤ 400 := by omega
  have e8 : (v % 256 / 128 * 128 == v % 256 / 128 * 128) = true := by simp
  obtain ⟨vv, hvv⟩ : ∃ vv, vv = v % 256 / 128 * 128 := ⟨_, rfl⟩
  rw [← hvv] at e2 e3
  clear e8 hcv hvv
  have HBA := Lib.hid (show B5.go 2088960 = B6 from HB6.out)
  cases ar
  · have d1' : w5.cell? ⟨l.p, 9246, none⟩ = some (.int .i64 0) := d1
    clear d1
    have L6 := Lib.hid (show B6.lines = 0 from C6.out.lines)
    go_wp2_with fail
    refine (lw_Read HF.out H5.out BL5.out C5.out.lag 2088960 rfl HB6.out).mono ?_; rintro e w6 ⟨rfl, h2, b2⟩
    have H6 := Lib.hid h2
    have BL6 := Lib.hid b2
    have d3 := h2.irqC.2
    rw [L6.out] at d3
    clear h2 b2 d1' d2
    go_wp2_with fail
    refine (lw_Write HF.out H6.out BL6.out C6.out.lag 2094083 v HB7.out).mono ?_; rintro e w7 ⟨rfl, h2, b2⟩
    have BL7 := Lib.hid b2
    have d4 := h2.irqC.2
    rw [HL7.out] at d4
    clear h2 b2 d3
    go_wp2_with fail
    go_ret
    exact ⟨rfl, BL7.out⟩
  · have d1' : w5.cell? ⟨l.p, 9246, none⟩ = some (.int .i64 4) := d1
    clear d1
    have L6 := Lib.hid (show B6.lines = 4 from C6.out.lines)
    go_wp2_with fail
    refine (lw_Read HF.out H5.out BL5.out C5.out.lag 2088960 rfl HB6.out).mono ?_; rintro e w6 ⟨rfl, h2, b2⟩
    have H6 := Lib.hid h2
    have BL6 := Lib.hid b2
    have d3 := h2.irqC.2
    rw [L6.out] at d3
    clear h2 b2 d1' d2
    go_wp2_with fail
    refine (lw_Write HF.out H6.out BL6.out C6.out.lag 2094083 v HB7.out).mono ?_; rintro e w7 ⟨rfl, h2, b2⟩
    have BL7 := Lib.hid b2
    have d4 := h2.irqC.2
    rw [HL7.out] at d4
    clear h2 b2 d3
    go_wp2_with fail
    go_ret
    exact ⟨rfl, BL7.out⟩
end Go.Proofs.YtnllkgjmoipgbaaGreatDoor
