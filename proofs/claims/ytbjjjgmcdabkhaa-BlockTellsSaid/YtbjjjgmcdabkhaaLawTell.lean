/- The law BlockTells, over arguments that read as data. -/
import Derived.Test.YtbjjjgmcdabkhaaTellC
import Derived.Test.YtbjjjgmcdabkhaaLawSprA
import Derived.ChangeMaps5
namespace Go.Proofs.Ytbjjjgmcdabkhaa
open Go Go.RowKit Go.ChangeShapes Go.WideShapes
set_option linter.unusedVariables false
variable {H : Type} {enc : TypeId × Value → H}

theorem three_of {zs : List Int} (h : zs.length = 3) : ∃ a b c, zs = [a, b, c] := by
  match zs, h with
  | [a, b, c], _ => exact ⟨a, b, c, rfl⟩

theorem law_BlockTells (W : World) (base : Nat) {v0 v1 v2 : Value} {d0 d1 d2 : DataW H} {p0 p1 p2 : List MemPlace}
    (hv0 : Value.okWide Try.prog W .any base 3 v0) (h0 : DataW.Trod enc Try.prog W 0 (fun _ => true) true 3 v0 d0 p0)
    (hv1 : Value.okWide Try.prog W .any base 55 v1) (h1 : DataW.Trod enc Try.prog W 0 (fun _ => true) true 55 v1 d1 p1)
    (hv2 : Value.okWide Try.prog W .any base 9 v2) (h2 : DataW.Trod enc Try.prog W 0 (fun _ => true) true 9 v2 d2 p2)
    {ts : List TypeId} {ds : List (DataW H)} (hsz : (DataW.weightsEach Try.prog ts ds).all (· ≤ reachBytes) = true) (e0 : ts[0]? = some 3) (f0 : ds[0]? = some d0) (e1 : ts[1]? = some 55) (f1 : ds[1]? = some d1) (e2 : ts[2]? = some 9) (f2 : ds[2]? = some d2) :
    Calls Try.prog 10 #[v0, v1, v2] W fun e W' => e = .returned (.bool true) ∧ Below W.heap.size W W' := by
  obtain ⟨kind, rfl, _, _, _⟩ := open_int Try.underlying3 hv0 h0
  obtain ⟨zs, hz, rfl, hw⟩ := open_arr Try.underlying55 Try.underlying3 (by kernel_rfl) (by kernel_rfl) hv1 h1
  obtain ⟨a, b, c, rfl⟩ := three_of hz
  obtain ⟨s, rfl, _, _, _⟩ := Go.ChangeMaps.open_string Try.underlying9 hv2 h2
  exact tells_walk kind a b c s (wf_i64 (hw a (by simp))) (wf_i64 (hw b (by simp))) (wf_i64 (hw c (by simp))) W

end Go.Proofs.Ytbjjjgmcdabkhaa
