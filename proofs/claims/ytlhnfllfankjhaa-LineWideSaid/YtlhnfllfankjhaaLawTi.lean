/- The laws of the backgrounds, over arguments that read as data. -/
import Derived.Test.YtlhnfllfankjhaaTiE
namespace Go.Proofs.Ytlhnfllfankjhaa
open Go Go.RowKit Go.ChangeShapes Go.WideShapes
set_option linter.unusedVariables false
set_option maxRecDepth 100000
section
variable {H : Type} {enc : TypeId × Value → H} {W : World} {base b0 : Nat} {v : Value} {d : DataW H} {p : List MemPlace}

theorem okWide_struct {P : Program} {r : Reach} {t : TypeId} {fs : Array Field} (ht : P.underlying t = some (.struct fs)) (h : Value.okWide P W r b0 t v) : ∃ cs, v = .agg cs ∧ cs.size = P.cellsOf t := by
  simp only [Value.okWide, ht] at h
  obtain ⟨cs, h1, h2, _⟩ := h
  exact ⟨cs, h1, h2⟩
/-- A view, by value. -/
theorem open_view (hv : Value.okWide Try.prog W .any b0 42 v) (h : DataW.Trod enc Try.prog W base (fun _ => true) true 42 v d p) :
    ∃ u : ViewV, v = u.val ∧ (-9223372036854775808 ≤ u.x ∧ u.x ≤ 9223372036854775807) ∧ (-9223372036854775808 ≤ u.y ∧ u.y ≤ 9223372036854775807) ∧ (-9223372036854775808 ≤ u.wide ∧ u.wide ≤ 9223372036854775807) ∧ (-9223372036854775808 ≤ u.high ∧ u.high ≤ 9223372036854775807) := by
  obtain ⟨cs, rfl, hs⟩ := okWide_struct Try.underlying42 hv
  obtain ⟨fuel, hf0⟩ := h
  obtain ⟨xs, n, _, _, hl, hlen, hf⟩ := DataW.trod_struct Try.underlying42 hf0
  have h4 : Try.prog.cellsOf 42 = 4 := by kernel_rfl
  have hc : Try.prog.cellsOf 3 = 1 := by kernel_rfl
  rw [h4] at hs
  have hlen4 : xs.length = 4 := hlen
  obtain ⟨l⟩ := cs
  match l, hs with
  | [u0, u1, u2, u3], _ =>
    have a0 : DataW.trod enc Try.prog W base (fun _ => true) true n 3 (List.take (Try.prog.cellsOf 3) (List.drop 0 [u0, u1, u2, u3])) = xs[0]? := hf 0 _ rfl
    have a1 : DataW.trod enc Try.prog W base (fun _ => true) true n 3 (List.take (Try.prog.cellsOf 3) (List.drop 1 [u0, u1, u2, u3])) = xs[1]? := hf 1 _ rfl
    have a2 : DataW.trod enc Try.prog W base (fun _ => true) true n 3 (List.take (Try.prog.cellsOf 3) (List.drop 2 [u0, u1, u2, u3])) = xs[2]? := hf 2 _ rfl
    have a3 : DataW.trod enc Try.prog W base (fun _ => true) true n 3 (List.take (Try.prog.cellsOf 3) (List.drop 3 [u0, u1, u2, u3])) = xs[3]? := hf 3 _ rfl
    rw [List.getElem?_eq_getElem (by omega)] at a0 a1 a2 a3
    rw [hc] at a0 a1 a2 a3
    obtain ⟨z0, e0, _, w0⟩ := DataW.trod_int Try.underlying3 a0
    obtain ⟨z1, e1, _, w1⟩ := DataW.trod_int Try.underlying3 a1
    obtain ⟨z2, e2, _, w2⟩ := DataW.trod_int Try.underlying3 a2
    obtain ⟨z3, e3, _, w3⟩ := DataW.trod_int Try.underlying3 a3
    simp at e0 e1 e2 e3
    exact ⟨⟨z0, z1, z2, z3⟩, by subst e0 e1 e2 e3; rfl, wf_i64 w2, wf_i64 w3, wf_i64 w0, wf_i64 w1⟩
theorem two_of {zs : List Int} (h : zs.length = 2) : ∃ a b, zs = [a, b] := by
  match zs, h with
  | [a, b], _ => exact ⟨a, b, rfl⟩
end
variable {H : Type} {enc : TypeId × Value → H}

theorem law_TilesPixel (W : World) (base : Nat) {v0 v1 v2 : Value} {d0 d1 d2 : DataW H} {p0 p1 p2 : List MemPlace}
    (hv0 : Value.okWide Try.prog W .any base 40 v0) (h0 : DataW.Trod enc Try.prog W 0 (fun _ => true) true 40 v0 d0 p0)
    (hv1 : Value.okWide Try.prog W .any base 42 v1) (h1 : DataW.Trod enc Try.prog W 0 (fun _ => true) true 42 v1 d1 p1)
    (hv2 : Value.okWide Try.prog W .any base 29 v2) (h2 : DataW.Trod enc Try.prog W 0 (fun _ => true) true 29 v2 d2 p2)
    {ts : List TypeId} {ds : List (DataW H)} (hsz : (DataW.weightsEach Try.prog ts ds).all (· ≤ reachBytes) = true) (e0 : ts[0]? = some 40) (f0 : ds[0]? = some d0) (e1 : ts[1]? = some 42) (f1 : ds[1]? = some d1) (e2 : ts[2]? = some 29) (f2 : ds[2]? = some d2) :
    Calls Try.prog 7 #[v0, v1, v2] W fun e W' => e = .returned (.bool true) ∧ Below W.heap.size W W' := by
  obtain ⟨a, c, xs, rfl, l0, m0, S, hI⟩ := open_pokes hv0 h0
  obtain ⟨u, rfl, ux, uy, _, _⟩ := open_view hv1 h1
  obtain ⟨zs, hz, rfl, hw⟩ := open_arr Try.underlying29 Try.underlying3 (by kernel_rfl) (by kernel_rfl) hv2 h2
  obtain ⟨x, y, rfl⟩ := two_of hz
  exact tilesPixel_walk a c xs u x y W S hI (Nat.le_trans l0 m0) (wf_i64 (hw x (by simp))) (wf_i64 (hw y (by simp))) ux uy
end Go.Proofs.Ytlhnfllfankjhaa
