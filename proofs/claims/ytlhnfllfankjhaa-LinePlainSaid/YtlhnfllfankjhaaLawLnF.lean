/- The law LinePlain, over arguments that read as data. -/
import Derived.Test.YtlhnfllfankjhaaLawLnE
import Derived.Test.YtlhnfllfankjhaaLnF
namespace Go.Proofs.Ytlhnfllfankjhaa
open Go Go.RowKit Go.ChangeShapes Go.WideShapes
set_option linter.unusedVariables false
set_option maxRecDepth 100000
variable {H : Type} {enc : TypeId × Value → H}
theorem law_LinePlain (W : World) (base : Nat) {v0 : Value} {d0 : DataW H} {p0 : List MemPlace}
    (hv0 : Value.okWide Try.prog W .any base 92 v0) (h0 : DataW.Trod enc Try.prog W 0 (fun _ => true) true 92 v0 d0 p0)
    {ts : List TypeId} {ds : List (DataW H)} (hsz : (DataW.weightsEach Try.prog ts ds).all (· ≤ reachBytes) = true) (e0 : ts[0]? = some 92) (f0 : ds[0]? = some d0) :
    Calls Try.prog 23 #[v0] W fun e W' => e = .returned (.bool true) ∧ Below W.heap.size W W' := by
  obtain ⟨s, rfl, hs⟩ := open_scene hv0 h0
  exact linePlain_walk s W hs
end Go.Proofs.Ytlhnfllfankjhaa
