/- Any number, any line: what SpritesMany tells, over arguments that read as data. -/
import Derived.Test.YtlhnfllfankjhaaLawTi
import Derived.Test.YtlhnfllfankjhaaSpI
namespace Go.Proofs.Ytlhnfllfankjhaa
open Go Go.RowKit Go.ChangeShapes Go.WideShapes
set_option linter.unusedVariables false
set_option maxRecDepth 100000
variable {H : Type} {enc : TypeId × Value → H}
theorem law_SpritesMany (W : World) (base : Nat) {v0 v1 : Value} {d0 d1 : DataW H} {p0 p1 : List MemPlace}
    (hv0 : Value.okWide Try.prog W .any base 3 v0) (h0 : DataW.Trod enc Try.prog W 0 (fun _ => true) true 3 v0 d0 p0)
    (hv1 : Value.okWide Try.prog W .any base 3 v1) (h1 : DataW.Trod enc Try.prog W 0 (fun _ => true) true 3 v1 d1 p1)
    {ts : List TypeId} {ds : List (DataW H)} (hsz : (DataW.weightsEach Try.prog ts ds).all (· ≤ reachBytes) = true) (e0 : ts[0]? = some 3) (f0 : ds[0]? = some d0) (e1 : ts[1]? = some 3) (f1 : ds[1]? = some d1) :
    Calls Try.prog 20 #[v0, v1] W fun e W' => e = .returned (.bool true) ∧ Below W.heap.size W W' := by
  obtain ⟨n, rfl, _, _, _⟩ := open_int Try.underlying3 hv0 h0
  obtain ⟨y, rfl, _, _, _⟩ := open_int Try.underlying3 hv1 h1
  exact spritesMany_walk n y W
end Go.Proofs.Ytlhnfllfankjhaa
