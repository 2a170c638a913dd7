/- The law SpritesOf, over arguments that read as data. -/
import Derived.Test.YtbjjjgmcdabkhaaSprD
import Derived.Test.YtbjjjgmcdabkhaaOpen
namespace Go.Proofs.Ytbjjjgmcdabkhaa
open Go Go.RowKit Go.ChangeShapes Go.WideShapes
set_option linter.unusedVariables false
variable {H : Type} {enc : TypeId × Value → H}

theorem wf_i64 {x : Int} (h : (Lit.int .i64 x).wf = true) : -9223372036854775808 ≤ x ∧ x ≤ 9223372036854775807 := by
  have h1 : (decide (IntKind.i64.min ≤ x) && decide (x ≤ IntKind.i64.max)) = true := h
  have e1 : IntKind.i64.min = -9223372036854775808 := by decide
  have e2 : IntKind.i64.max = 9223372036854775807 := by decide
  rw [e1, e2, Bool.and_eq_true, decide_eq_true_eq, decide_eq_true_eq] at h1
  exact h1

theorem law_SpritesOf (W : World) (base : Nat) {v0 v1 : Value} {d0 d1 : DataW H} {p0 p1 : List MemPlace}
    (hv0 : Value.okWide Try.prog W .any base 25 v0) (h0 : DataW.Trod enc Try.prog W 0 (fun _ => true) true 25 v0 d0 p0)
    (hv1 : Value.okWide Try.prog W .any base 3 v1) (h1 : DataW.Trod enc Try.prog W 0 (fun _ => true) true 3 v1 d1 p1)
    {ts : List TypeId} {ds : List (DataW H)} (hsz : (DataW.weightsEach Try.prog ts ds).all (· ≤ reachBytes) = true) (e0 : ts[0]? = some 25) (f0 : ds[0]? = some d0) (e1 : ts[1]? = some 3) (f1 : ds[1]? = some d1) :
    Calls Try.prog 8 #[v0, v1] W fun e W' => e = .returned (.bool true) ∧ Below W.heap.size W W' := by
  obtain ⟨fuel0, g0⟩ := trod_of_slice Try.underlying25 hv0 h0
  obtain ⟨a, c0, xs, rfl, l0, m0, S0, w0, z0⟩ := trod_ints Try.underlying25 Try.underlying3 (by kernel_rfl) g0
  obtain ⟨k, rfl, _, _, _⟩ := open_int Try.underlying3 hv1 h1
  exact spritesOf_walk a c0 xs k W (by omega) S0 (fun x hx => wf_i64 (w0 x hx))

end Go.Proofs.Ytbjjjgmcdabkhaa
