/- The laws of block, over arguments that read as data. -/
import Derived.Test.YtbjjjgmcdabkhaaBlockLaws
import Derived.Test.YtbjjjgmcdabkhaaOpen
namespace Go.Proofs.Ytbjjjgmcdabkhaa
open Go Go.RowKit Go.ChangeShapes Go.WideShapes
set_option linter.unusedVariables false
variable {H : Type} {enc : TypeId × Value → H}

theorem two_of {zs : List Int} (h : zs.length = 2) : ∃ a b, zs = [a, b] := by
  match zs, h with
  | [a, b], _ => exact ⟨a, b, rfl⟩

theorem law_BlockSides (W : World) (base : Nat) {v0 v1 : Value} {d0 d1 : DataW H} {p0 p1 : List MemPlace}
    (hv0 : Value.okWide Try.prog W .any base 3 v0) (h0 : DataW.Trod enc Try.prog W 0 (fun _ => true) true 3 v0 d0 p0)
    (hv1 : Value.okWide Try.prog W .any base 34 v1) (h1 : DataW.Trod enc Try.prog W 0 (fun _ => true) true 34 v1 d1 p1) {ts : List TypeId} {ds : List (DataW H)}
    (hsz : (DataW.weightsEach Try.prog ts ds).all (· ≤ reachBytes) = true) :
    Calls Try.prog 6 #[v0, v1] W fun e W' => e = .returned (.bool true) ∧ Below W.heap.size W W' := by
  obtain ⟨i, rfl, _, _, _⟩ := open_int Try.underlying3 hv0 h0
  obtain ⟨zs, hz, rfl, _⟩ := open_arr Try.underlying34 Try.underlying3 (by kernel_rfl) (by kernel_rfl) hv1 h1
  obtain ⟨a, b, rfl⟩ := two_of hz
  exact sides_walk i a b W

theorem law_BlockCovers (W : World) (base : Nat) {v0 v1 v2 : Value} {d0 d1 d2 : DataW H} {p0 p1 p2 : List MemPlace}
    (hv0 : Value.okWide Try.prog W .any base 34 v0) (h0 : DataW.Trod enc Try.prog W 0 (fun _ => true) true 34 v0 d0 p0)
    (hv1 : Value.okWide Try.prog W .any base 3 v1) (h1 : DataW.Trod enc Try.prog W 0 (fun _ => true) true 3 v1 d1 p1)
    (hv2 : Value.okWide Try.prog W .any base 3 v2) (h2 : DataW.Trod enc Try.prog W 0 (fun _ => true) true 3 v2 d2 p2) {ts : List TypeId} {ds : List (DataW H)}
    (hsz : (DataW.weightsEach Try.prog ts ds).all (· ≤ reachBytes) = true) :
    Calls Try.prog 7 #[v0, v1, v2] W fun e W' => e = .returned (.bool true) ∧ Below W.heap.size W W' := by
  obtain ⟨zs, hz, rfl, _⟩ := open_arr Try.underlying34 Try.underlying3 (by kernel_rfl) (by kernel_rfl) hv0 h0
  obtain ⟨a, b, rfl⟩ := two_of hz
  obtain ⟨i, rfl, _, _, _⟩ := open_int Try.underlying3 hv1 h1
  obtain ⟨k, rfl, _, _, _⟩ := open_int Try.underlying3 hv2 h2
  exact covers_walk a b i k W

end Go.Proofs.Ytbjjjgmcdabkhaa
