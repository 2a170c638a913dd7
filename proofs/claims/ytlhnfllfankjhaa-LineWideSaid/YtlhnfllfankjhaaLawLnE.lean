/- The law LineDraws, over arguments that read as data. -/
import Derived.Test.YtlhnfllfankjhaaLawTi
import Derived.Test.YtlhnfllfankjhaaLnE
namespace Go.Proofs.Ytlhnfllfankjhaa
open Go Go.RowKit Go.ChangeShapes Go.WideShapes
set_option linter.unusedVariables false
set_option maxRecDepth 100000
section
variable {H : Type} {enc : TypeId × Value → H} {W : World} {base b0 : Nat} {v : Value} {d : DataW H} {p : List MemPlace}
theorem pokes_trod {base : Nat} {held : Bool} {fuel : Nat} {y : DataW H × List MemPlace} (g0 : DataW.trod enc Try.prog W base (fun _ => true) held fuel 40 [v] = some y) :
    ∃ (a : Option Addr) (cap : Nat) (xs : List PokeV), v = .slice a xs.length cap ∧ xs.length ≤ cap ∧ cap ≤ maxLen ∧ PokesAt W a xs ∧ (∀ x ∈ xs, x.In) := by
  obtain ⟨a, c, xs, rfl, l0, m0, S, _⟩ := trod_sl (α := PokeV) PokeV.none (fun cs x => cs = x.cells.toList ∧ x.In) Try.underlying40 (fun m cs y hy => trod_poke hy) g0
  have h2 : Try.prog.cellsOf 46 = 2 := by kernel_rfl
  rw [h2] at S
  refine ⟨a, c, xs, rfl, l0, m0, ?_, ?_⟩
  · intro i hi
    obtain ⟨ad, cs, ea, hcs, rfl, _⟩ := S i hi
    have e0 : ((ad.add (i * 2)).add 0) = ad.add (i * 2) := by rw [Addr.add]; simp
    have k0 := (World.cells?_some hcs).2.2 0 (by decide)
    have k1 := (World.cells?_some hcs).2.2 1 (by decide)
    rw [e0] at k0
    rw [add_pos _ 1 (by decide)] at k1
    exact ⟨ad, ea, by simpa [PokeV.cells] using k0, by simpa [PokeV.cells] using k1⟩
  · intro x hx
    obtain ⟨i, hi, rfl⟩ := List.getElem_of_mem hx
    obtain ⟨ad, cs, ea, hcs, _, ho⟩ := S i hi
    rwa [nth_lt hi] at ho
/-- A scene, by value. -/
theorem open_scene (hv : Value.okWide Try.prog W .any b0 92 v) (h : DataW.Trod enc Try.prog W base (fun _ => true) true 92 v d p) :
    ∃ s : SceneV, v = .agg s.cells ∧ s.At W := by
  obtain ⟨cs, rfl, hs⟩ := okWide_struct Try.underlying92 hv
  obtain ⟨fuel, hf0⟩ := h
  obtain ⟨xs, n, _, _, hl, hlen, hf⟩ := DataW.trod_struct Try.underlying92 hf0
  have h4 : Try.prog.cellsOf 92 = 9 := by kernel_rfl
  have hc : Try.prog.cellsOf 3 = 1 := by kernel_rfl
  have hc1 : Try.prog.cellsOf 22 = 1 := by kernel_rfl
  have hc2 : Try.prog.cellsOf 40 = 1 := by kernel_rfl
  rw [h4] at hs
  have hlen9 : xs.length = 9 := hlen
  obtain ⟨l⟩ := cs
  match l, hs with
  | [u0, u1, u2, u3, u4, u5, u6, u7, u8], _ =>
    have a0 : DataW.trod enc Try.prog W base (fun _ => true) true n 40 (List.take (Try.prog.cellsOf 40) (List.drop 0 [u0, u1, u2, u3, u4, u5, u6, u7, u8])) = xs[0]? := hf 0 _ rfl
    have a1 : DataW.trod enc Try.prog W base (fun _ => true) true n 22 (List.take (Try.prog.cellsOf 22) (List.drop 1 [u0, u1, u2, u3, u4, u5, u6, u7, u8])) = xs[1]? := hf 1 _ rfl
    have a2 : DataW.trod enc Try.prog W base (fun _ => true) true n 22 (List.take (Try.prog.cellsOf 22) (List.drop 2 [u0, u1, u2, u3, u4, u5, u6, u7, u8])) = xs[2]? := hf 2 _ rfl
    have a3 : DataW.trod enc Try.prog W base (fun _ => true) true n 3 (List.take (Try.prog.cellsOf 3) (List.drop 3 [u0, u1, u2, u3, u4, u5, u6, u7, u8])) = xs[3]? := hf 3 _ rfl
    have a4 : DataW.trod enc Try.prog W base (fun _ => true) true n 3 (List.take (Try.prog.cellsOf 3) (List.drop 4 [u0, u1, u2, u3, u4, u5, u6, u7, u8])) = xs[4]? := hf 4 _ rfl
    have a5 : DataW.trod enc Try.prog W base (fun _ => true) true n 3 (List.take (Try.prog.cellsOf 3) (List.drop 5 [u0, u1, u2, u3, u4, u5, u6, u7, u8])) = xs[5]? := hf 5 _ rfl
    have a6 : DataW.trod enc Try.prog W base (fun _ => true) true n 3 (List.take (Try.prog.cellsOf 3) (List.drop 6 [u0, u1, u2, u3, u4, u5, u6, u7, u8])) = xs[6]? := hf 6 _ rfl
    have a7 : DataW.trod enc Try.prog W base (fun _ => true) true n 3 (List.take (Try.prog.cellsOf 3) (List.drop 7 [u0, u1, u2, u3, u4, u5, u6, u7, u8])) = xs[7]? := hf 7 _ rfl
    have a8 : DataW.trod enc Try.prog W base (fun _ => true) true n 3 (List.take (Try.prog.cellsOf 3) (List.drop 8 [u0, u1, u2, u3, u4, u5, u6, u7, u8])) = xs[8]? := hf 8 _ rfl
    rw [List.getElem?_eq_getElem (by omega)] at a0 a1 a2 a3 a4 a5 a6 a7 a8
    rw [hc2] at a0
    rw [hc1] at a1 a2
    rw [hc] at a3 a4 a5 a6 a7 a8
    obtain ⟨a, c, ps, rfl, l0, m0, S, hI⟩ := pokes_trod a0
    obtain ⟨b, e, ts, rfl, l1, m1, S1, w1, _⟩ := trod_ints Try.underlying22 Try.underlying3 (by kernel_rfl) a1
    obtain ⟨b', e', cs, rfl, l2, m2, S2, w2, _⟩ := trod_ints Try.underlying22 Try.underlying3 (by kernel_rfl) a2
    obtain ⟨z3, e3, _, w3⟩ := DataW.trod_int Try.underlying3 a3
    obtain ⟨z4, e4, _, w4⟩ := DataW.trod_int Try.underlying3 a4
    obtain ⟨z5, e5, _, w5⟩ := DataW.trod_int Try.underlying3 a5
    obtain ⟨z6, e6, _, w6⟩ := DataW.trod_int Try.underlying3 a6
    obtain ⟨z7, e7, _, w7⟩ := DataW.trod_int Try.underlying3 a7
    obtain ⟨z8, e8, _, w8⟩ := DataW.trod_int Try.underlying3 a8
    simp at e3 e4 e5 e6 e7 e8
    subst e3 e4 e5 e6 e7 e8
    exact ⟨⟨a, c, ps, b, e, ts, b', e', cs, z3, z4, z5, z6, z7, z8⟩, rfl, ⟨S, hI, Nat.le_trans l0 m0, S1, Nat.le_trans l1 m1, fun z hz => wf_i64 (w1 z hz), S2, Nat.le_trans l2 m2, fun z hz => wf_i64 (w2 z hz), wf_i64 w3, wf_i64 w4, wf_i64 w5, wf_i64 w6, wf_i64 w7, wf_i64 w8⟩⟩
end
variable {H : Type} {enc : TypeId × Value → H}
theorem law_LineDraws (W : World) (base : Nat) {v0 : Value} {d0 : DataW H} {p0 : List MemPlace}
    (hv0 : Value.okWide Try.prog W .any base 92 v0) (h0 : DataW.Trod enc Try.prog W 0 (fun _ => true) true 92 v0 d0 p0)
    {ts : List TypeId} {ds : List (DataW H)} (hsz : (DataW.weightsEach Try.prog ts ds).all (· ≤ reachBytes) = true) (e0 : ts[0]? = some 92) (f0 : ds[0]? = some d0) :
    Calls Try.prog 22 #[v0] W fun e W' => e = .returned (.bool true) ∧ Below W.heap.size W W' := by
  obtain ⟨s, rfl, hs⟩ := open_scene hv0 h0
  exact lineDraws_walk s W hs
end Go.Proofs.Ytlhnfllfankjhaa
