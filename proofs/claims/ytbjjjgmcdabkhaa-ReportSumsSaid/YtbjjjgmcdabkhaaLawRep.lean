/- The law ReportSums, over arguments that read as data. -/
import Derived.Test.YtbjjjgmcdabkhaaRepD
import Derived.Test.YtbjjjgmcdabkhaaOpenB
namespace Go.Proofs.Ytbjjjgmcdabkhaa
open Go Go.RowKit Go.ChangeShapes Go.WideShapes
set_option linter.unusedVariables false
variable {H : Type} {enc : TypeId × Value → H}

/-- Two cells of a pair of numbers. -/
theorem trod_pair {W : World} {base : Nat} {spare : Nat → Bool} {held : Bool} {fuel : Nat} {cs : List Value} {y : DataW H × List MemPlace} (h : DataW.trod enc Try.prog W base spare held fuel 34 cs = some y) :
    ∃ x : Int × Int, cs = [.int .i64 x.1, .int .i64 x.2] := by
  obtain ⟨xs, m, _, _, hl, hxl, hx⟩ := DataW.trod_array Try.underlying34 h
  have hc : Try.prog.cellsOf 3 = 1 := by kernel_rfl
  have h2 : Try.prog.cellsOf 34 = 2 := by kernel_rfl
  rw [h2] at hl
  rw [hc] at hx
  match cs, hl with
  | [u, v], _ =>
    have a0 := hx 0 (by decide)
    have a1 := hx 1 (by decide)
    rw [List.getElem?_eq_getElem (by omega)] at a0 a1
    obtain ⟨z0, e0, _⟩ := DataW.trod_int Try.underlying3 a0
    obtain ⟨z1, e1, _⟩ := DataW.trod_int Try.underlying3 a1
    simp at e0 e1
    exact ⟨(z0, z1), by rw [e0, e1]⟩

theorem law_ReportSums (W : World) (base : Nat) {v0 v1 : Value} {d0 d1 : DataW H} {p0 p1 : List MemPlace}
    (hv0 : Value.okWide Try.prog W .any base 48 v0) (h0 : DataW.Trod enc Try.prog W 0 (fun _ => true) true 48 v0 d0 p0)
    (hv1 : Value.okWide Try.prog W .any base 49 v1) (h1 : DataW.Trod enc Try.prog W 0 (fun _ => true) true 49 v1 d1 p1)
    {ts : List TypeId} {ds : List (DataW H)} (hsz : (DataW.weightsEach Try.prog ts ds).all (· ≤ reachBytes) = true) (e0 : ts[0]? = some 48) (f0 : ds[0]? = some d0) (e1 : ts[1]? = some 49) (f1 : ds[1]? = some d1) :
    Calls Try.prog 9 #[v0, v1] W fun e W' => e = .returned (.bool true) ∧ Below W.heap.size W W' := by
  obtain ⟨fuel0, g0⟩ := trod_of_slice Try.underlying48 hv0 h0
  obtain ⟨fuel1, g1⟩ := trod_of_slice Try.underlying49 hv1 h1
  have bI : Try.prog.bytesOf 3 = 8 := by kernel_rfl
  have bL : Try.prog.bytesOf 25 = 24 := by kernel_rfl
  have bP : Try.prog.bytesOf 34 = 16 := by kernel_rfl
  have cI : Try.prog.cellsOf 3 = 1 := by kernel_rfl
  have cL : Try.prog.cellsOf 25 = 1 := by kernel_rfl
  have cP : Try.prog.cellsOf 34 = 2 := by kernel_rfl
  have hr : reachBytes = 140737488351232 := by decide
  obtain ⟨a, c0, ls, rfl, l0, _, z0, S0⟩ := trod_slW (α := LineV) (none, 0, []) (fun cs x => cs = [encL x] ∧ SlAt (Value.int .i64) 0 W x.1 x.2.2 ∧ x.2.2.length ≤ 140737488355328) reachBytes Try.underlying48 (by
    intro m cs y hy hw
    have h1 : ∃ v, cs = [v] := by
      rcases Go.Deep.open_slice Try.underlying25 hy with ⟨hcs, _⟩ | ⟨_, _, _, _, _, _, _, hcs, _⟩
      · exact ⟨_, hcs⟩
      · exact ⟨_, hcs⟩
    obtain ⟨v, rfl⟩ := h1
    obtain ⟨a, c, xs, rfl, e1, _, S, _, z⟩ := trod_ints Try.underlying25 Try.underlying3 (by kernel_rfl) hy
    have z' := z reachBytes hw
    rw [bI, hr] at z'
    exact ⟨(a, c, xs), rfl, S, by simp only; omega⟩) g0 (weights_arg hsz e0 f0)
  obtain ⟨a2, c2, ss, rfl, l2, _, z2, S2⟩ := trod_slW (α := Int × Int) (0, 0) (fun cs x => cs = [.int .i64 x.1, .int .i64 x.2]) reachBytes Try.underlying49 (fun m cs y hy _ => trod_pair hy) g1 (weights_arg hsz e1 f1)
  rw [bL, hr] at z0
  rw [bP, hr] at z2
  rw [cL] at S0
  rw [cP] at S2
  refine reportSums_walk a a2 c0 c2 ls ss W ⟨?_, ?_, ?_, ?_⟩ (by omega) (by omega)
  · intro i hi
    obtain ⟨ad, cs, ea, hcs, rfl, _⟩ := S0 i hi
    rw [Nat.mul_one] at hcs
    exact ⟨ad, ea, cell_of_cells?_one hcs⟩
  · intro l hl
    obtain ⟨i, hi, rfl⟩ := List.getElem_of_mem hl
    obtain ⟨ad, cs, ea, hcs, _, hS, _⟩ := S0 i hi
    rwa [nth_lt hi] at hS
  · intro l hl
    obtain ⟨i, hi, rfl⟩ := List.getElem_of_mem hl
    obtain ⟨ad, cs, ea, hcs, _, _, hS⟩ := S0 i hi
    rwa [nth_lt hi] at hS
  · intro i hi
    obtain ⟨ad, cs, ea, hcs, rfl⟩ := S2 i hi
    refine ⟨ad, ea, ?_, ?_⟩
    · have := (World.cells?_some hcs).2.2 0 (by decide)
      have ea : ((ad.add (i * 2)).add 0) = ad.add (i * 2) := by rw [Addr.add]; simp
      rw [ea] at this
      simpa using this
    · have := (World.cells?_some hcs).2.2 1 (by decide)
      simpa using this

end Go.Proofs.Ytbjjjgmcdabkhaa
