/- The law LineOrder, over arguments that read as data. -/
import Derived.Test.YtbjjjgmcdabkhaaLineE
import Derived.Test.YtbjjjgmcdabkhaaOpen
namespace Go.Proofs.Ytbjjjgmcdabkhaa
open Go Go.RowKit Go.ChangeShapes Go.WideShapes
set_option linter.unusedVariables false
variable {H : Type} {enc : TypeId × Value → H}

theorem law_LineOrder (W : World) (base : Nat) {v0 v1 v2 : Value} {d0 d1 d2 : DataW H} {p0 p1 p2 : List MemPlace}
    (hv0 : Value.okWide Try.prog W .any base 25 v0) (h0 : DataW.Trod enc Try.prog W 0 (fun _ => true) true 25 v0 d0 p0)
    (hv1 : Value.okWide Try.prog W .any base 3 v1) (h1 : DataW.Trod enc Try.prog W 0 (fun _ => true) true 3 v1 d1 p1)
    (hv2 : Value.okWide Try.prog W .any base 4 v2) (h2 : DataW.Trod enc Try.prog W 0 (fun _ => true) true 4 v2 d2 p2)
    {ts : List TypeId} {ds : List (DataW H)} (hsz : (DataW.weightsEach Try.prog ts ds).all (· ≤ reachBytes) = true) (e0 : ts[0]? = some 25) (f0 : ds[0]? = some d0) (e1 : ts[1]? = some 3) (f1 : ds[1]? = some d1) (e2 : ts[2]? = some 4) (f2 : ds[2]? = some d2) :
    Calls Try.prog 5 #[v0, v1, v2] W fun e W' => e = .returned (.bool true) ∧ Below W.heap.size W W' := by
  obtain ⟨fuel0, g0⟩ := trod_of_slice Try.underlying25 hv0 h0
  obtain ⟨a, c0, back, rfl, l0, m0, S0, w0, z0⟩ := trod_ints Try.underlying25 Try.underlying3 (by kernel_rfl) g0
  obtain ⟨colour, rfl, _, _, _⟩ := open_int Try.underlying3 hv1 h1
  obtain ⟨front, rfl, _, _⟩ := open_bool Try.underlying4 hv2 h2
  exact order_walk a c0 back colour front W l0 m0 S0

end Go.Proofs.Ytbjjjgmcdabkhaa
