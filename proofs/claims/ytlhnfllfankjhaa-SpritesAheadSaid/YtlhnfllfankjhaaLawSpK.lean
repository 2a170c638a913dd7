/- Any words, any table, any line: what SpritesAhead tells, over arguments that read as data. -/
import Derived.Test.YtlhnfllfankjhaaLawTi
import Derived.Test.YtlhnfllfankjhaaSpK
namespace Go.Proofs.Ytlhnfllfankjhaa
open Go Go.RowKit Go.ChangeShapes Go.WideShapes
set_option linter.unusedVariables false
set_option maxRecDepth 100000
variable {H : Type} {enc : TypeId × Value → H}
theorem law_SpritesAhead (W : World) (base : Nat) {v0 v1 v2 : Value} {d0 d1 d2 : DataW H} {p0 p1 p2 : List MemPlace}
    (hv0 : Value.okWide Try.prog W .any base 40 v0) (h0 : DataW.Trod enc Try.prog W 0 (fun _ => true) true 40 v0 d0 p0)
    (hv1 : Value.okWide Try.prog W .any base 22 v1) (h1 : DataW.Trod enc Try.prog W 0 (fun _ => true) true 22 v1 d1 p1)
    (hv2 : Value.okWide Try.prog W .any base 3 v2) (h2 : DataW.Trod enc Try.prog W 0 (fun _ => true) true 3 v2 d2 p2)
    {ts : List TypeId} {ds : List (DataW H)} (hsz : (DataW.weightsEach Try.prog ts ds).all (· ≤ reachBytes) = true) (e0 : ts[0]? = some 40) (f0 : ds[0]? = some d0) (e1 : ts[1]? = some 22) (f1 : ds[1]? = some d1) (e2 : ts[2]? = some 3) (f2 : ds[2]? = some d2) :
    Calls Try.prog 18 #[v0, v1, v2] W fun e W' => e = .returned (.bool true) ∧ Below W.heap.size W W' := by
  obtain ⟨a, c, xs, rfl, l0, m0, S, hI⟩ := open_pokes hv0 h0
  obtain ⟨fuel1, g1⟩ := trod_of_slice Try.underlying22 hv1 h1
  obtain ⟨b, d, ys, rfl, l1, m1, S1, w1, z1⟩ := trod_ints Try.underlying22 Try.underlying3 (by kernel_rfl) g1
  obtain ⟨y, rfl, _, _, _⟩ := open_int Try.underlying3 hv2 h2
  exact spritesAhead_walk a c xs b d ys y W S hI (Nat.le_trans l0 m0) (Nat.le_trans l1 m1) S1
end Go.Proofs.Ytlhnfllfankjhaa
