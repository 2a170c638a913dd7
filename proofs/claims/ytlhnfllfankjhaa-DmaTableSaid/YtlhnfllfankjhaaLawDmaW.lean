/- The laws DmaBack, DmaFills and DmaTable, over arguments that read as data. -/
import Derived.Test.YtlhnfllfankjhaaDmaW
import Derived.Test.YtlhnfllfankjhaaOpen
namespace Go.Proofs.Ytlhnfllfankjhaa
open Go Go.RowKit Go.ChangeShapes Go.WideShapes
set_option linter.unusedVariables false
set_option maxRecDepth 100000
variable {H : Type} {enc : TypeId × Value → H}

theorem law_DmaBack (W : World) (base : Nat) {v0 v1 : Value} {d0 d1 : DataW H} {p0 p1 : List MemPlace}
    (hv0 : Value.okWide Try.prog W .any base 22 v0) (h0 : DataW.Trod enc Try.prog W 0 (fun _ => true) true 22 v0 d0 p0)
    (hv1 : Value.okWide Try.prog W .any base 3 v1) (h1 : DataW.Trod enc Try.prog W 0 (fun _ => true) true 3 v1 d1 p1)
    {ts : List TypeId} {ds : List (DataW H)} (hsz : (DataW.weightsEach Try.prog ts ds).all (· ≤ reachBytes) = true) (e0 : ts[0]? = some 22) (f0 : ds[0]? = some d0) (e1 : ts[1]? = some 3) (f1 : ds[1]? = some d1) :
    Calls Try.prog 4 #[v0, v1] W fun e W' => e = .returned (.bool true) ∧ Below W.heap.size W W' := by
  obtain ⟨fuel0, g0⟩ := trod_of_slice Try.underlying22 hv0 h0
  obtain ⟨a0, c0, xs0, rfl, l0, m0, S0, w0, z0⟩ := trod_ints Try.underlying22 Try.underlying3 (by kernel_rfl) g0
  obtain ⟨k, rfl, _, _, _⟩ := open_int Try.underlying3 hv1 h1
  exact dmaBack_walk a0 c0 xs0 k W l0 m0 S0

theorem law_DmaFills (W : World) (base : Nat) {v0 v1 v2 : Value} {d0 d1 d2 : DataW H} {p0 p1 p2 : List MemPlace}
    (hv0 : Value.okWide Try.prog W .any base 3 v0) (h0 : DataW.Trod enc Try.prog W 0 (fun _ => true) true 3 v0 d0 p0)
    (hv1 : Value.okWide Try.prog W .any base 3 v1) (h1 : DataW.Trod enc Try.prog W 0 (fun _ => true) true 3 v1 d1 p1)
    (hv2 : Value.okWide Try.prog W .any base 3 v2) (h2 : DataW.Trod enc Try.prog W 0 (fun _ => true) true 3 v2 d2 p2)
    {ts : List TypeId} {ds : List (DataW H)} (hsz : (DataW.weightsEach Try.prog ts ds).all (· ≤ reachBytes) = true) (e0 : ts[0]? = some 3) (f0 : ds[0]? = some d0) (e1 : ts[1]? = some 3) (f1 : ds[1]? = some d1) (e2 : ts[2]? = some 3) (f2 : ds[2]? = some d2) :
    Calls Try.prog 5 #[v0, v1, v2] W fun e W' => e = .returned (.bool true) ∧ Below W.heap.size W W' := by
  obtain ⟨x, rfl, _, _, _⟩ := open_int Try.underlying3 hv0 h0
  obtain ⟨k, rfl, _, _, _⟩ := open_int Try.underlying3 hv1 h1
  obtain ⟨n, rfl, _, _, _⟩ := open_int Try.underlying3 hv2 h2
  exact dmaFills_walk x k n W

theorem law_DmaTable (W : World) (base : Nat) {v0 v1 v2 : Value} {d0 d1 d2 : DataW H} {p0 p1 p2 : List MemPlace}
    (hv0 : Value.okWide Try.prog W .any base 22 v0) (h0 : DataW.Trod enc Try.prog W 0 (fun _ => true) true 22 v0 d0 p0)
    (hv1 : Value.okWide Try.prog W .any base 3 v1) (h1 : DataW.Trod enc Try.prog W 0 (fun _ => true) true 3 v1 d1 p1)
    (hv2 : Value.okWide Try.prog W .any base 3 v2) (h2 : DataW.Trod enc Try.prog W 0 (fun _ => true) true 3 v2 d2 p2)
    {ts : List TypeId} {ds : List (DataW H)} (hsz : (DataW.weightsEach Try.prog ts ds).all (· ≤ reachBytes) = true) (e0 : ts[0]? = some 22) (f0 : ds[0]? = some d0) (e1 : ts[1]? = some 3) (f1 : ds[1]? = some d1) (e2 : ts[2]? = some 3) (f2 : ds[2]? = some d2) :
    Calls Try.prog 6 #[v0, v1, v2] W fun e W' => e = .returned (.bool true) ∧ Below W.heap.size W W' := by
  obtain ⟨fuel0, g0⟩ := trod_of_slice Try.underlying22 hv0 h0
  obtain ⟨a0, c0, xs0, rfl, l0, m0, S0, w0, z0⟩ := trod_ints Try.underlying22 Try.underlying3 (by kernel_rfl) g0
  obtain ⟨k, rfl, _, _, _⟩ := open_int Try.underlying3 hv1 h1
  obtain ⟨n, rfl, _, _, _⟩ := open_int Try.underlying3 hv2 h2
  exact dmaTable_walk a0 c0 xs0 k n W S0 (Nat.le_trans l0 m0)

end Go.Proofs.Ytlhnfllfankjhaa
