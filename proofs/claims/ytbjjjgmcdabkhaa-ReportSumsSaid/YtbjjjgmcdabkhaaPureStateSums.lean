/- Any bytes have the document's sum: the program's loop and the reference's go through the same two numbers. No conditions. -/
import Derived.Test.YtbjjjgmcdabkhaaPStateSumsx1
import Derived.Test.YtbjjjgmcdabkhaaInts
namespace Go.Proofs.Ytbjjjgmcdabkhaa.Pure
open Go.RowKit Go.Proofs.Ytbjjjgmcdabkhaa.PStateSums Go.Proofs.YtbjjjgmcdabkhaaW.PrintWords Go.Proofs.YtbjjjgmcdabkhaaW.PrintLast

theorem rd_byte {l : List Int} (h : ∀ x ∈ l, (Lit.int .u8 x).wf = true) (i : Int) : 0 ≤ rd l i ∧ rd l i ≤ 255 := by
  unfold rd
  by_cases hi : i.toNat < l.length
  · rw [List.getD_eq_getElem?_getD, List.getElem?_eq_getElem hi]
    have := h _ (List.getElem_mem hi)
    simp [Lit.wf, IntKind.min, IntKind.max, IntKind.signed, IntKind.bits] at this
    simpa using this
  · rw [List.getD_eq_getElem?_getD, List.getElem?_eq_none (by omega)]; simp

theorem two_sums (l : List Int) (hb : ∀ x ∈ l, (Lit.int .u8 x).wf = true) (hn : l.length ≤ 140737488351232) (d : Nat) :
    ∀ (k : Nat) (x y i : Int), 0 ≤ i → i ≤ l.length → (l.length : Int) - i = d → d < k → 0 ≤ x → x < 65521 → 0 ≤ y → y < 65521 →
    ∃ r, state_Sum.l0 k x y l l.length i = some r ∧ phosphorref27_Sum.l0 k l x y i = some r := by
  induction d with
  | zero =>
    intro k x y i h0 h1 hd hk hx0 hx hy0 hy
    obtain ⟨k, rfl⟩ : ∃ m, k = m + 1 := ⟨k - 1, by omega⟩
    refine ⟨y * 65536 + x, ?_, ?_⟩
    · simp only [state_Sum.l0]; rw [if_neg (by omega), w64_in (by omega), or_join64 16 _ _ (by omega) (by omega) hx0 (by omega) (by omega) (by omega)]
    · simp only [phosphorref27_Sum.l0]; rw [if_neg (by omega), w64_in (n := y * 65536) (by omega), w64_in (by omega)]
  | succ d ih =>
    intro k x y i h0 h1 hd hk hx0 hx hy0 hy
    obtain ⟨k, rfl⟩ : ∃ m, k = m + 1 := ⟨k - 1, by omega⟩
    have hlt : i < (l.length : Int) := by omega
    have hr := rd_byte hb i
    have e1 : wrap64 (rd l i) = rd l i := w64_in (by omega)
    have e2 : wrap64 (x + rd l i) = x + rd l i := w64_in (by omega)
    have e3 : Int.tmod (x + rd l i) 65521 = (x + rd l i) % 65521 := Int.tmod_eq_emod_of_nonneg (by omega)
    have e4 : wrap64 (y + (x + rd l i) % 65521) = y + (x + rd l i) % 65521 := w64_in (by omega)
    have e5 : Int.tmod (y + (x + rd l i) % 65521) 65521 = (y + (x + rd l i) % 65521) % 65521 := Int.tmod_eq_emod_of_nonneg (by omega)
    have e6 : wrap64 (i + 1) = i + 1 := w64_in (by omega)
    obtain ⟨r, ha, hc⟩ := ih k ((x + rd l i) % 65521) ((y + (x + rd l i) % 65521) % 65521) (i + 1) (by omega) (by omega) (by omega) (by omega) (by omega) (by omega) (by omega) (by omega)
    refine ⟨r, ?_, ?_⟩
    · simp only [state_Sum.l0]; rw [if_pos hlt, if_pos h0, if_pos hlt, e1, e2, e3, e4, e5, e6]; exact ha
    · simp only [phosphorref27_Sum.l0]; rw [if_pos hlt, if_pos h0, e1, e2, e3, e4, e5, e6]; exact hc

theorem StateSums : phosphorlaw27_StateSums.Pure := by
  intro l _ hn hb
  refine ⟨l.length + 1, ?_⟩
  have he : state_Sum.f (l.length + 1) [] = some 1 := by
    unfold state_Sum.f; simp only [state_Sum.l0]; rw [if_neg (by simp), w64_in (by omega), or_comm64, Int.zero_mul, or_zero64 _ (by omega)]
  have main : ∀ m : List Int, (∀ x ∈ m, (Lit.int .u8 x).wf = true) → m.length ≤ l.length → ∃ r, state_Sum.f (l.length + 1) m = some r ∧ phosphorref27_Sum.f (l.length + 1) m = some r := by
    intro m hm hml
    exact two_sums m hm (by omega) m.length (l.length + 1) 1 0 0 (by omega) (by omega) (by omega) (by omega) (by omega) (by omega) (by omega) (by omega)
  unfold phosphorlaw27_StateSums.f
  by_cases h : (l.length : Int) > 20000
  · rw [if_pos h, if_pos (by omega)]
    obtain ⟨r, h1, h2⟩ := main (l.take 20000) (fun x hx => hb x (List.mem_of_mem_take hx)) (by simp; omega)
    rw [h1, h2, he]; simp
  · rw [if_neg h]
    obtain ⟨r, h1, h2⟩ := main l hb (by omega)
    rw [h1, h2, he]; simp

end Go.Proofs.Ytbjjjgmcdabkhaa.Pure
