/- Slices that are read: what they hold, by number. -/
import Derived.Test.YtnllkgjmoipgbaaGreatBase
import Derived.OpenShut
import Derived.ProofKit
import Derived.SizedLaws
namespace Go.Proofs.YtnllkgjmoipgbaaGreat
open Go Go.RowKit Go.ChangeShapes Go.WideShapes
set_option linter.unusedSimpArgs false
set_option linter.unusedVariables false

/-- An element by its number; behind a name of its own, so that no walk rewrites it. -/
def nth {α : Type} (d : α) (xs : List α) (i : Nat) : α := xs.getD i d
theorem nth_lt {α : Type} {d : α} {xs : List α} {i : Nat} (h : i < xs.length) : nth d xs i = xs[i] := by simp [nth, List.getD_eq_getElem?_getD, h]
theorem nth_ge {α : Type} {d : α} {xs : List α} {i : Nat} (h : xs.length ≤ i) : nth d xs i = d := by simp [nth, List.getD_eq_getElem?_getD, h]
theorem nth_mem {α : Type} {d : α} {xs : List α} {i : Nat} (h : i < xs.length) : nth d xs i ∈ xs := by rw [nth_lt h]; exact List.getElem_mem h
theorem nth_take {α : Type} {d : α} {xs : List α} {i n : Nat} (h : i < n) : nth d (xs.take n) i = nth d xs i := by
  simp only [nth, List.getD_eq_getElem?_getD, List.getElem?_take]; rw [if_pos h]
theorem nth_ext {α : Type} (d : α) {xs ys : List α} (h : xs.length = ys.length) (he : ∀ i, i < xs.length → nth d xs i = nth d ys i) : xs = ys := by
  apply List.ext_getElem h
  intro i h1 h2
  have := he i h1
  rwa [nth_lt h1, nth_lt h2] at this
theorem take_succ_nth {α : Type} (d : α) {xs : List α} {k : Nat} (h : k < xs.length) : xs.take (k + 1) = xs.take k ++ [nth d xs k] := by
  rw [nth_lt h, List.take_succ_eq_append_getElem h]

/-- The elements' cells, each of one cell. -/
def SlAt {α : Type} (f : α → Value) (d : α) (w : World) (a : Option Addr) (xs : List α) : Prop :=
  ∀ i, i < xs.length → ∃ ad, a = some ad ∧ w.cell? (ad.add i) = some (f (nth d xs i))

theorem add_block (a : Addr) (n : Nat) : (a.add n).block = a.block := by unfold Addr.add; split <;> rfl

theorem SlAt.below {α : Type} {f : α → Value} {d : α} {w w' : World} {a : Option Addr} {xs : List α} (h : SlAt f d w a xs) (hb : Below w.heap.size w w') : SlAt f d w' a xs := by
  intro i hi
  obtain ⟨ad, e, hc⟩ := h i hi
  exact ⟨ad, e, by rw [hb.cell (World.block_lt_of_cell? w _ hc)]; exact hc⟩
theorem SlAt.at {α : Type} {f : α → Value} {d : α} {w : World} {a : Option Addr} {xs : List α} (h : SlAt f d w a xs) (i : Int) (h0 : 0 ≤ i) (h1 : i < (xs.length : Int)) :
    ∃ ad, a = some ad ∧ w.cell? (ad.add i.toNat) = some (f (nth d xs i.toNat)) := h i.toNat (by omega)
theorem SlAt.atN {α : Type} {f : α → Value} {d : α} {w : World} {a : Option Addr} {xs : List α} (h : SlAt f d w a xs) (i : Nat) (h1 : i < xs.length) :
    ∃ ad, a = some ad ∧ w.cell? (ad.add i) = some (f (nth d xs i)) := h i h1
theorem SlAt.take {α : Type} {f : α → Value} {d : α} {w : World} {a : Option Addr} {xs : List α} (h : SlAt f d w a xs) (n : Nat) : SlAt f d w a (xs.take n) := by
  intro i hi
  simp only [List.length_take] at hi
  obtain ⟨ad, e, hc⟩ := h i (by omega)
  refine ⟨ad, e, ?_⟩
  rw [hc, nth_take (by omega)]
theorem SlAt.nil {α : Type} {f : α → Value} {d : α} {w : World} {a : Option Addr} : SlAt f d w a [] := fun i hi => by simp at hi

theorem SlAt.of_blkL {α : Type} {f : α → Value} {d : α} {w : World} {g : Nat} {xs : List α} {t : TypeId} (h : BlkL f w g xs t) : SlAt f d w (some ⟨g, 0, none⟩) xs := by
  intro i hi
  refine ⟨_, rfl, ?_⟩
  have e1 : (Addr.add ⟨g, 0, none⟩ i) = ⟨g, i, none⟩ := by unfold Addr.add; split <;> simp_all
  rw [e1, h.cell d hi]; rfl

/-- What the call owns, is there to be read. -/
theorem Own.sl {α : Type} {f : α → Value} {d : α} {w : World} {base : Nat} {e : TypeId} {v : Value} {xs : List α} (h : Own f w base e v xs) :
    ∃ a cap, v = .slice a xs.length cap ∧ xs.length ≤ cap ∧ cap ≤ maxLen ∧ SlAt f d w a xs := by
  rcases h with ⟨_, ⟨rfl, h0⟩ | ⟨g, cap, cur, rfl, hb, hg, hle, hmax, hsz, htake⟩⟩
  · have : xs = [] := List.length_eq_zero_iff.1 h0
    subst this
    exact ⟨none, 0, rfl, by simp, by simp [maxLen], SlAt.nil⟩
  · refine ⟨some ⟨g, 0, none⟩, cap, rfl, hle, hmax, ?_⟩
    intro i hi
    refine ⟨_, rfl, ?_⟩
    have e1 : (Addr.add ⟨g, 0, none⟩ i) = ⟨g, i, none⟩ := by unfold Addr.add; split <;> simp_all
    rw [e1, Go.Joins.cell_of_block hg]
    have h1 : (cur.toList.take (xs.length * 1))[i]? = some (f (nth d xs i)) := by rw [htake]; simp [nth_lt hi, hi]
    rw [List.getElem?_take] at h1
    simp only [Nat.mul_one, hi, if_true] at h1
    simpa using h1

section
variable {H : Type} {enc : TypeId × Value → H} {P : Program} {W : World} {base b0 : Nat} {held : Bool} {r : Reach} {t e : TypeId} {v : Value} {d : DataW H} {p : List MemPlace} {k : IntKind} {n : Nat}

/-- A slice of whole numbers that came in: its numbers up to its length; its capacity; that the list of them all is well formed. -/
theorem open_sl_ints (ht : P.underlying t = some (.slice e)) (he : P.underlying e = some (.int k)) (hc : P.cellsOf e = 1)
    (hv : Value.okWide P W r b0 t v) (h : DataW.Trod enc P W base (fun _ => true) held t v d p) :
    ∃ (a : Option Addr) (cap : Nat) (zs : List Int), v = .slice a zs.length cap ∧ zs.length ≤ cap ∧ cap ≤ maxLen ∧ SlAt (Value.int k) 0 W a zs ∧ (∀ z ∈ zs, (Lit.int k z).wf = true) ∧
      (∀ {ts : List TypeId} {ds : List (DataW H)} {j : Nat}, (DataW.weightsEach P ts ds).all (· ≤ reachBytes) = true → ts[j]? = some t → ds[j]? = some d → cap * P.bytesOf e ≤ 140737488351232) := by
  obtain ⟨a0, len0, cap0, rfl⟩ := okWide_slice ht hv
  obtain ⟨fuel, hf⟩ := h
  rcases open_ints ht he hc hf with ⟨hcs, hx⟩ | ⟨x, l, c, zs, hcs, _, hl, hm, hz, hx, hcell, hwz⟩
  · simp [Value.cells] at hcs
    obtain ⟨rfl, rfl, rfl⟩ := hcs
    refine ⟨none, 0, [], rfl, by simp, by simp [maxLen], SlAt.nil, by simp, ?_⟩
    intro ts ds j _ _ _; simp
  · simp [Value.cells] at hcs
    obtain ⟨rfl, rfl, rfl⟩ := hcs
    have hz' : zs.length = cap0 := by simpa using hz
    have hlen : (zs.take len0).length = len0 := by simp; omega
    refine ⟨some x, cap0, zs.take len0, by rw [hlen], by omega, hm, ?_, fun z hz => hwz z (List.mem_of_mem_take hz), ?_⟩
    · intro i hi
      rw [hlen] at hi
      refine ⟨x, rfl, ?_⟩
      rw [hcell i (by omega), nth_take hi]
      rfl
    · intro ts ds j hsz h1 h2
      obtain ⟨hx, _⟩ := Prod.mk.inj hx
      subst hx
      have z := sized_slice hsz h1 h2 ht
      have h3 : (lits (H := H) k (zs.take len0)).length + (lits (H := H) k (zs.drop len0)).length = cap0 := by
        simp [lits]; omega
      rw [h3] at z
      exact z
end

end Go.Proofs.YtnllkgjmoipgbaaGreat
