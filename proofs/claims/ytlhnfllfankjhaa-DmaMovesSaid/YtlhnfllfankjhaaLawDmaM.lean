/- The law DmaMoves, over arguments that read as data. -/
import Derived.Test.YtlhnfllfankjhaaDmaM
import Derived.Test.YtlhnfllfankjhaaOpen
namespace Go.Proofs.Ytlhnfllfankjhaa
open Go Go.RowKit Go.ChangeShapes Go.WideShapes
set_option linter.unusedVariables false
variable {H : Type} {enc : TypeId × Value → H}

set_option maxRecDepth 100000 in
theorem law_DmaMoves (W : World) (base : Nat) {v0 v1 v2 : Value} {d0 d1 d2 : DataW H} {p0 p1 p2 : List MemPlace}
    (hv0 : Value.okWide Try.prog W .any base 22 v0) (h0 : DataW.Trod enc Try.prog W 0 (fun _ => true) true 22 v0 d0 p0)
    (hv1 : Value.okWide Try.prog W .any base 3 v1) (h1 : DataW.Trod enc Try.prog W 0 (fun _ => true) true 3 v1 d1 p1)
    (hv2 : Value.okWide Try.prog W .any base 23 v2) (h2 : DataW.Trod enc Try.prog W 0 (fun _ => true) true 23 v2 d2 p2)
    {ts : List TypeId} {ds : List (DataW H)} (hsz : (DataW.weightsEach Try.prog ts ds).all (· ≤ reachBytes) = true) (e0 : ts[0]? = some 22) (f0 : ds[0]? = some d0) (e1 : ts[1]? = some 3) (f1 : ds[1]? = some d1) (e2 : ts[2]? = some 23) (f2 : ds[2]? = some d2) :
    Calls Try.prog 3 #[v0, v1, v2] W fun e W' => e = .returned (.bool true) ∧ Below W.heap.size W W' := by
  obtain ⟨fuel0, g0⟩ := trod_of_slice Try.underlying22 hv0 h0
  obtain ⟨a, c0, xs, rfl, l0, m0, S0, w0, z0⟩ := trod_ints Try.underlying22 Try.underlying3 (by kernel_rfl) g0
  obtain ⟨k, rfl, _, _, _⟩ := open_int Try.underlying3 hv1 h1
  obtain ⟨zs, hz, rfl, hw⟩ := open_arr Try.underlying23 Try.underlying3 (by kernel_rfl) (by kernel_rfl) hv2 h2
  obtain ⟨n0, n1, n2, n3, rfl⟩ := four_of hz
  exact dmaMoves_walk a c0 xs k n0 n1 n2 n3 W (Nat.le_trans l0 m0) S0 (fun x hx => wf_i64 (w0 x hx)) (wf_i64 (hw n0 (by simp))) (wf_i64 (hw n1 (by simp))) (wf_i64 (hw n3 (by simp)))

end Go.Proofs.Ytlhnfllfankjhaa
