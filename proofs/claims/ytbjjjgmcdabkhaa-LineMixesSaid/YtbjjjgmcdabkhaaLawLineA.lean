/- The laws of line's Mix, over arguments that read as data. -/
import Derived.Test.YtbjjjgmcdabkhaaLineD
import Derived.Test.YtbjjjgmcdabkhaaOpen
namespace Go.Proofs.Ytbjjjgmcdabkhaa
open Go Go.RowKit Go.ChangeShapes Go.WideShapes
set_option linter.unusedVariables false
variable {H : Type} {enc : TypeId × Value → H}

theorem law_LineMixes (W : World) (base : Nat) {v0 v1 : Value} {d0 d1 : DataW H} {p0 p1 : List MemPlace}
    (hv0 : Value.okWide Try.prog W .any base 25 v0) (h0 : DataW.Trod enc Try.prog W 0 (fun _ => true) true 25 v0 d0 p0)
    (hv1 : Value.okWide Try.prog W .any base 28 v1) (h1 : DataW.Trod enc Try.prog W 0 (fun _ => true) true 28 v1 d1 p1)
    {ts : List TypeId} {ds : List (DataW H)} (hsz : (DataW.weightsEach Try.prog ts ds).all (· ≤ reachBytes) = true) (e0 : ts[0]? = some 25) (f0 : ds[0]? = some d0) (e1 : ts[1]? = some 28) (f1 : ds[1]? = some d1) :
    Calls Try.prog 4 #[v0, v1] W fun e W' => e = .returned (.bool true) ∧ Below W.heap.size W W' := by
  obtain ⟨fuel0, g0⟩ := trod_of_slice Try.underlying25 hv0 h0
  obtain ⟨a, c0, back, rfl, l0, m0, S0, w0, z0⟩ := trod_ints Try.underlying25 Try.underlying3 (by kernel_rfl) g0
  have z0' := z0 reachBytes (weights_arg hsz e0 f0)
  obtain ⟨x0, x1, y0, y1, n, rfl, rfl, rfl, t0, t1⟩ := Go.Joins.open_agg2 Try.underlying28 (by kernel_rfl) (by kernel_rfl) hv1 h1
  have zz := weights_arg hsz e1 f1
  obtain ⟨A1, c1, cols, rfl, l1, m1, S1, w1, z1⟩ := trod_ints Try.underlying25 Try.underlying3 (by kernel_rfl) t0
  obtain ⟨A2, c2, front, rfl, l2, m2, S2, z2⟩ := trod_bools Try.underlying26 Try.underlying4 (by kernel_rfl) t1
  have zz' : ∀ n ∈ DataW.weightsEach Try.prog [25, 26] [y0.1, y1.1], n ≤ reachBytes := by
    intro n hn; exact zz n (by simpa [DataW.weights, Try.underlying28] using hn)
  have z1' := z1 reachBytes (fun n hn => zz' n (DataW.weights_mem_each (j := 0) rfl rfl n hn))
  have z2' := z2 reachBytes (fun n hn => zz' n (DataW.weights_mem_each (j := 1) rfl rfl n hn))
  have b0 : Try.prog.bytesOf 3 = 8 := by kernel_rfl
  have b1 : Try.prog.bytesOf 4 = 1 := by kernel_rfl
  rw [b0] at z0' z1'; rw [b1] at z2'
  have hr : reachBytes = 140737488351232 := by decide
  rw [hr] at z0' z1' z2'
  exact mixes_walk a A1 A2 c0 c1 c2 back cols front W (by omega) (by omega) (by omega) S0 S1 S2

end Go.Proofs.Ytbjjjgmcdabkhaa
