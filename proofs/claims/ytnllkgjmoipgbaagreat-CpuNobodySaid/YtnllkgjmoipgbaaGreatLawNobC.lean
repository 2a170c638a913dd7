/- The law CpuNobody, on values that read as data. -/
import Derived.Test.YtnllkgjmoipgbaaGreatNobC
import Derived.ProofKit
import Derived.OpenShut
namespace Go.Proofs.YtnllkgjmoipgbaaGreat
open Go Go.RowKit Go.ChangeShapes Go.WideShapes
set_option linter.unusedSimpArgs false
set_option linter.unusedVariables false
set_option maxRecDepth 100000
variable {H : Type} {enc : TypeId × Value → H}
theorem law_CpuNobody (W : World) (base : Nat) {v0 : Value} {d0 : DataW H} {p0 : List MemPlace}
    (hv0 : Value.okWide Tryz.prog W .any base 23 v0) (h0 : DataW.Trod enc Tryz.prog W 0 (fun _ => true) true 23 v0 d0 p0)
    {ts : List TypeId} {ds : List (DataW H)} (hsz : (DataW.weightsEach Tryz.prog ts ds).all (· ≤ reachBytes) = true) (e0 : ts[0]? = some 23) (f0 : ds[0]? = some d0) :
    Calls Tryz.prog 3 #[v0] W fun e W' => e = .returned (.bool true) ∧ Below W.heap.size W W' := by
  obtain ⟨cs, rfl, hs⟩ := okWide_struct Tryz.underlying23 hv0
  obtain ⟨fuel, hf0⟩ := h0
  obtain ⟨xs, n, _, _, hl, hlen, hf⟩ := DataW.trod_struct Tryz.underlying23 hf0
  have h4 : Tryz.prog.cellsOf 23 = 6 := by kernel_rfl
  have hc : Tryz.prog.cellsOf 3 = 1 := by kernel_rfl
  rw [h4] at hs
  have hlen9 : xs.length = 6 := hlen
  obtain ⟨l⟩ := cs
  match l, hs with
  | [u0, u1, u2, u3, u4, u5], _ =>
    have a : ∀ k, k < 6 → DataW.trod enc Tryz.prog W 0 (fun _ => true) true n 3 (List.take (Tryz.prog.cellsOf 3) (List.drop k [u0, u1, u2, u3, u4, u5])) = xs[k]? := by
      intro k hk
      rcases (show k = 0 ∨ k = 1 ∨ k = 2 ∨ k = 3 ∨ k = 4 ∨ k = 5 by omega) with rfl | rfl | rfl | rfl | rfl | rfl
      · exact hf 0 _ rfl
      · exact hf 1 _ rfl
      · exact hf 2 _ rfl
      · exact hf 3 _ rfl
      · exact hf 4 _ rfl
      · exact hf 5 _ rfl
    have z : ∀ k (hk : k < 6), ∃ z, List.take 1 (List.drop k [u0, u1, u2, u3, u4, u5]) = [Value.int .i64 z] := by
      intro k hk
      have := a k hk
      rw [List.getElem?_eq_getElem (by omega), hc] at this
      obtain ⟨z0, e0, _, _⟩ := DataW.trod_int Tryz.underlying3 this
      exact ⟨z0, e0⟩
    obtain ⟨z0, e0⟩ := z 0 (by decide)
    obtain ⟨z1, e1⟩ := z 1 (by decide)
    obtain ⟨z2, e2⟩ := z 2 (by decide)
    obtain ⟨z3, e3⟩ := z 3 (by decide)
    obtain ⟨z4, e4⟩ := z 4 (by decide)
    obtain ⟨z5, e5⟩ := z 5 (by decide)
    simp at e0 e1 e2 e3 e4 e5
    subst e0 e1 e2 e3 e4 e5
    exact cpuNobody_walk ⟨z0, z1, z2, z3, z4, z5⟩ W
end Go.Proofs.YtnllkgjmoipgbaaGreat
