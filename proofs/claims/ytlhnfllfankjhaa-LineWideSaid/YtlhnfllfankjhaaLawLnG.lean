/- The law LineWide, on values that read as data. -/
import Derived.Test.YtlhnfllfankjhaaLnG
import Derived.Test.YtlhnfllfankjhaaLawLnE
namespace Go.Proofs.Ytlhnfllfankjhaa
open Go Go.RowKit Go.ChangeShapes Go.WideShapes
set_option linter.unusedSimpArgs false
set_option linter.unusedVariables false
set_option maxRecDepth 100000
variable {H : Type} {enc : TypeId × Value → H}
theorem law_LineWide (W : World) (base : Nat) {v0 v1 : Value} {d0 d1 : DataW H} {p0 p1 : List MemPlace}
    (hv0 : Value.okWide Try.prog W .any base 92 v0) (h0 : DataW.Trod enc Try.prog W 0 (fun _ => true) true 92 v0 d0 p0)
    (hv1 : Value.okWide Try.prog W .any base 3 v1) (h1 : DataW.Trod enc Try.prog W 0 (fun _ => true) true 3 v1 d1 p1)
    {ts : List TypeId} {ds : List (DataW H)} (hsz : (DataW.weightsEach Try.prog ts ds).all (· ≤ reachBytes) = true) (e0 : ts[0]? = some 92) (f0 : ds[0]? = some d0) (e1 : ts[1]? = some 3) (f1 : ds[1]? = some d1) :
    Calls Try.prog 24 #[v0, v1] W fun e W' => e = .returned (.bool true) ∧ Below W.heap.size W W' := by
  obtain ⟨s, rfl, hs⟩ := open_scene hv0 h0
  obtain ⟨z1, rfl⟩ := okWide_int Try.underlying3 hv1
  obtain ⟨fuel, g1⟩ := h1
  obtain ⟨z, e1, _, w1⟩ := DataW.trod_int Try.underlying3 g1
  simp [Value.cells] at e1
  subst e1
  exact lineWide_walk s _ (wf_i64 w1) W hs
end Go.Proofs.Ytlhnfllfankjhaa
