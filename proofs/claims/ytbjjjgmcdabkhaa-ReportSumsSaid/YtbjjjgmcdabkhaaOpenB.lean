/- How arguments lie in memory: slices of slices, slices of small arrays. -/
import Derived.Test.YtbjjjgmcdabkhaaOpen
namespace Go.Proofs.Ytbjjjgmcdabkhaa
open Go Go.RowKit Go.ChangeShapes Go.WideShapes
set_option linter.unusedSimpArgs false
set_option linter.unusedVariables false

section
variable {H : Type} {enc : TypeId × Value → H} {P : Program} {W : World} {base b0 : Nat} {spare : Nat → Bool} {held : Bool} {r : Reach} {t e : TypeId} {v : Value} {d : DataW H} {p : List MemPlace} {k : IntKind} {n : Nat}

theorem weightsAll_mem {l : List (DataW H)} {x : DataW H} (hx : x ∈ l) : ∀ n ∈ x.weights P e, n ∈ DataW.weightsAll P e l := by
  induction l with
  | nil => cases hx
  | cons y l ih =>
    intro n hn
    rw [DataW.weightsAll, List.mem_append]
    rcases List.mem_cons.1 hx with rfl | h
    · exact .inl hn
    · exact .inr (ih h n hn)

/-- A slice, read element by element, each with its weights bounded. -/
theorem trod_slW {α : Type} (dflt : α) (R : List Value → α → Prop) {fuel : Nat} {y : DataW H × List MemPlace} (B : Nat) (ht : P.underlying t = some (.slice e))
    (hR : ∀ m cs y, DataW.trod enc P W base (fun _ => true) held m e cs = some y → (∀ n ∈ y.1.weights P e, n ≤ B) → ∃ x, R cs x)
    (h : DataW.trod enc P W base (fun _ => true) held fuel t [v] = some y) (hB : ∀ n ∈ y.1.weights P t, n ≤ B) :
    ∃ (a : Option Addr) (cap : Nat) (xs : List α), v = .slice a xs.length cap ∧ xs.length ≤ cap ∧ cap ≤ maxLen ∧ cap * P.bytesOf e ≤ B ∧
      (∀ i, i < xs.length → ∃ ad cs, a = some ad ∧ W.cells? base (ad.add (i * P.cellsOf e)) (P.cellsOf e) = some cs ∧ R cs (nth dflt xs i)) := by
  classical
  rcases Go.Deep.open_slice ht h with ⟨hcs, rfl⟩ | ⟨a, len, cap, m, n, D, Pl, hcs, hb, hl, hm, rfl, rfl, hel⟩
  · simp at hcs; subst hcs
    exact ⟨none, 0, [], rfl, by simp, by simp [maxLen], by simp, by intro i hi; simp at hi⟩
  · simp at hcs; subst hcs
    have hw : ∀ i, i < len → ∀ n ∈ (D i).weights P e, n ≤ B := by
      intro i hi n hn
      refine hB n ?_
      simp only [DataW.weights, ht]
      refine List.mem_cons_of_mem _ (List.mem_append_left _ (weightsAll_mem (x := D i) ?_ n hn))
      exact List.mem_map.2 ⟨i, List.mem_range.2 hi, rfl⟩
    have each : ∀ i, i < len → ∃ (cs : List Value) (x : α), W.cells? base (a.add (i * P.cellsOf e)) (P.cellsOf e) = some cs ∧ R cs x := by
      intro i hi
      obtain ⟨cs', h1, h2⟩ := hel i (by omega)
      obtain ⟨x, hx⟩ := hR _ _ _ h2 (hw i hi)
      exact ⟨cs', x, h1, hx⟩
    refine ⟨some a, m, (List.range len).map fun i => if hi : i < len then (each i hi).choose_spec.choose else dflt, by simp, by simpa using hl, hm, ?_, ?_⟩
    · have := hB _ (by simp only [DataW.weights, ht]; exact List.mem_cons_self)
      simpa [show len + (m - len) = m from by omega] using this
    · intro i hi
      simp only [List.length_map, List.length_range] at hi
      refine ⟨a, (each i hi).choose, rfl, (each i hi).choose_spec.choose_spec.1, ?_⟩
      rw [nth_lt (by simpa using hi)]
      simp only [List.getElem_map, List.getElem_range, hi, dif_pos]
      exact (each i hi).choose_spec.choose_spec.2
end

end Go.Proofs.Ytbjjjgmcdabkhaa
