/- How arguments that read as data lie in memory: arrays, slices and structs of whole numbers and bools. -/
import Derived.Test.YtlhnfllfankjhaaBase
import Derived.ProofKit
import Derived.OpenShut
import Derived.SizedLaws
import Derived.Deep.Slices
import Derived.Test.YtlhnfllfankjhaaSl
import Derived.Lib.SmallJoins
namespace Go.Proofs.Ytlhnfllfankjhaa
open Go Go.RowKit Go.ChangeShapes Go.WideShapes
set_option linter.unusedSimpArgs false
set_option linter.unusedVariables false

section
variable {H : Type} {enc : TypeId × Value → H} {P : Program} {W : World} {base b0 : Nat} {spare : Nat → Bool} {held : Bool} {r : Reach} {t e : TypeId} {v : Value} {d : DataW H} {p : List MemPlace} {k : IntKind} {n : Nat}

theorem okWide_array (ht : P.underlying t = some (.array n e)) (h : Value.okWide P W r b0 t v) : ∃ cs, v = .agg cs ∧ cs.size = P.cellsOf t := by
  simp only [Value.okWide, ht] at h
  obtain ⟨cs, h1, h2, _⟩ := h
  exact ⟨cs, h1, h2⟩

/-- An array of whole numbers, by value. -/
theorem open_arr (ht : P.underlying t = some (.array n e)) (he : P.underlying e = some (.int k)) (hc : P.cellsOf e = 1) (hn : P.cellsOf t = n)
    (hv : Value.okWide P W r b0 t v) (h : DataW.Trod enc P W base spare held t v d p) :
    ∃ zs : List Int, zs.length = n ∧ v = .agg (zs.map (Value.int k)).toArray ∧ ∀ z ∈ zs, (Lit.int k z).wf = true := by
  obtain ⟨cs, rfl, hs⟩ := okWide_array ht hv
  obtain ⟨fuel, hf⟩ := h
  obtain ⟨xs, m, _, _, hl, hxl, hx⟩ := DataW.trod_array ht hf
  simp only [Value.cells, hc] at hl hx
  have each : ∀ i, i < n → ∃ z, cs[i]? = some (.int k z) ∧ (Lit.int k z).wf = true := by
    intro i hi
    have h1 := hx i hi
    have h2 : i < xs.length := by omega
    rw [List.getElem?_eq_getElem h2] at h1
    obtain ⟨z, hz, _, hw⟩ := DataW.trod_int he h1
    refine ⟨z, ?_, hw⟩
    have h3 : ((cs.toList.drop (i * 1)).take 1)[0]? = some (.int k z) := by rw [hz]; rfl
    rw [List.getElem?_take] at h3
    simpa using h3
  refine ⟨cs.toList.map fun v => match v with | .int _ z => z | _ => 0, by simp; omega, ?_, ?_⟩
  · congr 1
    apply Array.ext'
    apply List.ext_getElem?
    intro i
    by_cases hi : i < n
    · obtain ⟨z, hz, _⟩ := each i hi
      simp [hz]
    · rw [List.getElem?_eq_none (by simp; omega), List.getElem?_eq_none (by simp; omega)]
  · intro z hz
    simp only [List.mem_map] at hz
    obtain ⟨v, hv, rfl⟩ := hz
    obtain ⟨i, hi, rfl⟩ := List.getElem_of_mem hv
    obtain ⟨z, hz, hw⟩ := each i (by simp at hi; omega)
    simp only [Array.length_toList] at hi
    rw [Array.getElem?_eq_getElem hi] at hz
    simp only [Array.getElem_toList, Option.some.inj hz]
    exact hw

/-- A slice whose elements are read one by one: R says what an element's cells mean. -/
theorem trod_sl {α : Type} (dflt : α) (R : List Value → α → Prop) {fuel : Nat} {y : DataW H × List MemPlace} (ht : P.underlying t = some (.slice e))
    (hR : ∀ m cs y, DataW.trod enc P W base (fun _ => true) held m e cs = some y → ∃ x, R cs x)
    (h : DataW.trod enc P W base (fun _ => true) held fuel t [v] = some y) :
    ∃ (a : Option Addr) (cap : Nat) (xs : List α), v = .slice a xs.length cap ∧ xs.length ≤ cap ∧ cap ≤ maxLen ∧
      (∀ i, i < xs.length → ∃ ad cs, a = some ad ∧ W.cells? base (ad.add (i * P.cellsOf e)) (P.cellsOf e) = some cs ∧ R cs (nth dflt xs i)) ∧
      (∀ B, (∀ n ∈ y.1.weights P t, n ≤ B) → cap * P.bytesOf e ≤ B) := by
  classical
  rcases Go.Deep.open_slice ht h with ⟨hcs, rfl⟩ | ⟨a, len, cap, m, n, D, Pl, hcs, hb, hl, hm, rfl, rfl, hel⟩
  · simp at hcs; subst hcs
    exact ⟨none, 0, [], rfl, by simp, by simp [maxLen], by intro i hi; simp at hi, by intro B _; simp⟩
  · simp at hcs; subst hcs
    have each : ∀ i, i < m → ∃ (cs : List Value) (x : α), W.cells? base (a.add (i * P.cellsOf e)) (P.cellsOf e) = some cs ∧ R cs x := by
      intro i hi
      obtain ⟨cs', h1, h2⟩ := hel i hi
      obtain ⟨x, hx⟩ := hR _ _ _ h2
      exact ⟨cs', x, h1, hx⟩
    refine ⟨some a, m, (List.range len).map fun i => if hi : i < m then (each i hi).choose_spec.choose else dflt, by simp, by simpa using hl, hm, ?_, ?_⟩
    · intro i hi
      simp only [List.length_map, List.length_range] at hi
      have hic : i < m := by omega
      refine ⟨a, (each i hic).choose, rfl, (each i hic).choose_spec.choose_spec.1, ?_⟩
      rw [nth_lt (by simpa using hi)]
      simp only [List.getElem_map, List.getElem_range, hic, dif_pos]
      exact (each i hic).choose_spec.choose_spec.2
    · intro B hB
      refine hB _ ?_
      simp only [DataW.weights, ht, if_true]
      simp only [List.length_map, List.length_range]
      rw [show len + (m - len) = m from by omega]
      exact List.mem_cons_self

/-- .. of elements of one cell. -/
theorem trod_sl1 {α : Type} (f : α → Value) (d0 : α) (ok : α → Prop) {fuel : Nat} {y : DataW H × List MemPlace} (ht : P.underlying t = some (.slice e)) (hc : P.cellsOf e = 1)
    (hR : ∀ m cs y, DataW.trod enc P W base (fun _ => true) held m e cs = some y → ∃ x, cs = [f x] ∧ ok x)
    (h : DataW.trod enc P W base (fun _ => true) held fuel t [v] = some y) :
    ∃ (a : Option Addr) (cap : Nat) (xs : List α), v = .slice a xs.length cap ∧ xs.length ≤ cap ∧ cap ≤ maxLen ∧ SlAt f d0 W a xs ∧ (∀ x ∈ xs, ok x) ∧
      (∀ B, (∀ n ∈ y.1.weights P t, n ≤ B) → cap * P.bytesOf e ≤ B) := by
  obtain ⟨a, cap, xs, rfl, h1, h2, h3, h4⟩ := trod_sl d0 (fun cs x => cs = [f x] ∧ ok x) ht hR h
  refine ⟨a, cap, xs, rfl, h1, h2, ?_, ?_, h4⟩
  · intro i hi
    obtain ⟨ad, cs, ea, hcs, rfl, _⟩ := h3 i hi
    rw [hc, Nat.mul_one] at hcs
    exact ⟨ad, ea, cell_of_cells?_one hcs⟩
  · intro x hx
    obtain ⟨i, hi, rfl⟩ := List.getElem_of_mem hx
    obtain ⟨ad, cs, ea, hcs, _, ho⟩ := h3 i hi
    rwa [nth_lt hi] at ho
theorem trod_ints {fuel : Nat} {y : DataW H × List MemPlace} (ht : P.underlying t = some (.slice e)) (he : P.underlying e = some (.int k)) (hc : P.cellsOf e = 1)
    (h : DataW.trod enc P W base (fun _ => true) held fuel t [v] = some y) :
    ∃ (a : Option Addr) (cap : Nat) (xs : List Int), v = .slice a xs.length cap ∧ xs.length ≤ cap ∧ cap ≤ maxLen ∧ SlAt (Value.int k) 0 W a xs ∧ (∀ x ∈ xs, (Lit.int k x).wf = true) ∧
      (∀ B, (∀ n ∈ y.1.weights P t, n ≤ B) → cap * P.bytesOf e ≤ B) :=
  trod_sl1 (Value.int k) 0 (fun x => (Lit.int k x).wf = true) ht hc (fun m cs y h => by obtain ⟨z, hz, _, hw⟩ := DataW.trod_int he h; exact ⟨z, hz, hw⟩) h
theorem trod_bools {fuel : Nat} {y : DataW H × List MemPlace} (ht : P.underlying t = some (.slice e)) (he : P.underlying e = some .bool) (hc : P.cellsOf e = 1)
    (h : DataW.trod enc P W base (fun _ => true) held fuel t [v] = some y) :
    ∃ (a : Option Addr) (cap : Nat) (xs : List Bool), v = .slice a xs.length cap ∧ xs.length ≤ cap ∧ cap ≤ maxLen ∧ SlAt Value.bool false W a xs ∧
      (∀ B, (∀ n ∈ y.1.weights P t, n ≤ B) → cap * P.bytesOf e ≤ B) := by
  obtain ⟨a, cap, xs, h1, h2, h3, h4, _, h5⟩ := trod_sl1 Value.bool false (fun _ => True) ht hc (fun m cs y h => by obtain ⟨z, hz, _⟩ := DataW.trod_bool he h; exact ⟨z, hz, trivial⟩) h
  exact ⟨a, cap, xs, h1, h2, h3, h4, h5⟩

/-- A value that is one cell, as its cell reads. -/
theorem trod_of_slice (ht : P.underlying t = some (.slice e)) (hv : Value.okWide P W r b0 t v) (h : DataW.Trod enc P W base spare held t v d p) : ∃ fuel, DataW.trod enc P W base spare held fuel t [v] = some (d, p) := by
  obtain ⟨a, l, c, rfl⟩ := okWide_slice ht hv
  obtain ⟨fuel, hf⟩ := h
  exact ⟨fuel, by simpa [Value.cells] using hf⟩
theorem weights_arg {ts : List TypeId} {ds : List (DataW H)} {j : Nat} {B : Nat} (hsz : (DataW.weightsEach P ts ds).all (· ≤ B) = true) (h1 : ts[j]? = some t) (h2 : ds[j]? = some d) : ∀ n ∈ d.weights P t, n ≤ B := by
  intro n hn
  have := List.all_eq_true.1 hsz n (DataW.weights_mem_each h1 h2 n hn)
  simpa using this

end
end Go.Proofs.Ytlhnfllfankjhaa
