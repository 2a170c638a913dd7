/- The law VramNobody, over arguments that read as data. -/
import Derived.Test.YtlhnfllfankjhaaNobody
import Derived.Test.YtlhnfllfankjhaaOpen
namespace Go.Proofs.Ytlhnfllfankjhaa
open Go Go.RowKit Go.ChangeShapes Go.WideShapes
set_option linter.unusedVariables false
set_option maxRecDepth 100000
variable {H : Type} {enc : TypeId × Value → H}

theorem law_VramNobody (W : World) (base : Nat) {v0 : Value} {d0 : DataW H} {p0 : List MemPlace}
    (hv0 : Value.okWide Try.prog W .any base 3 v0) (h0 : DataW.Trod enc Try.prog W 0 (fun _ => true) true 3 v0 d0 p0)
    {ts : List TypeId} {ds : List (DataW H)} (hsz : (DataW.weightsEach Try.prog ts ds).all (· ≤ reachBytes) = true) (e0 : ts[0]? = some 3) (f0 : ds[0]? = some d0) :
    Calls Try.prog 15 #[v0] W fun e W' => e = .returned (.bool true) ∧ Below W.heap.size W W' := by
  obtain ⟨x, rfl, _, _, _⟩ := open_int Try.underlying3 hv0 h0
  exact vramNobody_walk x W

end Go.Proofs.Ytlhnfllfankjhaa
