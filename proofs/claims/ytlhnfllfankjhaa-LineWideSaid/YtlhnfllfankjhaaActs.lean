/- Calls of video memory, as elements of a slice. -/
import Derived.Test.YtlhnfllfankjhaaVramK
import Derived.Test.YtlhnfllfankjhaaR2
import Derived.Test.YtlhnfllfankjhaaOpen
namespace Go.Proofs.Ytlhnfllfankjhaa
open Go Go.RowKit Go.ChangeShapes Go.WideShapes
set_option linter.unusedSimpArgs false
set_option linter.unusedVariables false
set_option maxRecDepth 100000

theorem add_pos (x : Addr) (j : Nat) (hj : j ≠ 0) : x.add j = ⟨x.block, x.off + j, none⟩ := by unfold Addr.add; simp [hj]

structure ActV where
  k : Int
  n : Int
  w : Int
  hi : Bool
def ActV.none : ActV := ⟨0, 0, 0, false⟩
def ActV.cells (a : ActV) : Array Value := #[.int .i64 a.k, .int .i64 a.n, .int .i64 a.w, .bool a.hi]
def ActV.In (a : ActV) : Prop := (-9223372036854775808 ≤ a.n ∧ a.n ≤ 9223372036854775807) ∧ (-9223372036854775808 ≤ a.w ∧ a.w ≤ 9223372036854775807)
def ActsAt (w : World) (a : Option Addr) (xs : List ActV) : Prop :=
  ∀ i, i < xs.length → ∃ ad, a = some ad ∧ w.cell? (ad.add (i * 4)) = some (.int .i64 (nth ActV.none xs i).k) ∧ w.cell? ⟨(ad.add (i * 4)).block, (ad.add (i * 4)).off + 1, none⟩ = some (.int .i64 (nth ActV.none xs i).n) ∧
    w.cell? ⟨(ad.add (i * 4)).block, (ad.add (i * 4)).off + 2, none⟩ = some (.int .i64 (nth ActV.none xs i).w) ∧ w.cell? ⟨(ad.add (i * 4)).block, (ad.add (i * 4)).off + 3, none⟩ = some (.bool (nth ActV.none xs i).hi)
theorem ActsAt.below {w w' : World} {a : Option Addr} {xs : List ActV} (h : ActsAt w a xs) (hb : Below w.heap.size w w') : ActsAt w' a xs := by
  intro i hi
  obtain ⟨ad, e, h0, h1, h2, h3⟩ := h i hi
  exact ⟨ad, e, by rw [hb.cell (World.block_lt_of_cell? w _ h0)]; exact h0, by rw [hb.cell (World.block_lt_of_cell? w _ h1)]; exact h1, by rw [hb.cell (World.block_lt_of_cell? w _ h2)]; exact h2, by rw [hb.cell (World.block_lt_of_cell? w _ h3)]; exact h3⟩

/-- What a call comes to. -/
def VS.act (V : VS) (a : ActV) : VS :=
  if a.k = 0 then V.setWr a.n else if a.k = 1 then V.setRd a.n else if a.k = 2 then V.setSt a.n else if a.k = 3 then V.put a.hi a.n else if a.k = 4 then V.got a.hi else if a.k = 5 then V.poke a.n a.w else V

theorem vram_Put {w : World} {p g : Nat} {V : VS} (h : VAt 69 w p g V) (hi : Bool) (b : Int) : Calls Try.prog 41 #[.pointer (some ⟨p, 0, none⟩), .bool hi, .int .i64 b] w fun e w' =>
    e = .returned (.tuple #[]) ∧ VAt 69 w' p g (V.put hi b) ∧ Tr [p, g] w w' := by
  cases hi
  · exact vram_Put_low h b
  · exact vram_Put_high h b
theorem ref13_Put {w : World} {p g : Nat} {V : VS} (h : VAt 66 w p g V) (hi : Bool) (b : Int) (hb : -9223372036854775808 ≤ b ∧ b ≤ 9223372036854775807) : Calls Try.prog 46 #[.pointer (some ⟨p, 0, none⟩), .bool hi, .int .i64 b] w fun e w' =>
    e = .returned (.tuple #[]) ∧ VAt 66 w' p g (V.put hi b) ∧ Tr [p, g] w w' := by
  cases hi
  · exact ref13_Put_low h b hb
  · exact ref13_Put_high h b hb
theorem vram_Get {w : World} {p g : Nat} {V : VS} (h : VAt 69 w p g V) (hi : Bool) : Calls Try.prog 42 #[.pointer (some ⟨p, 0, none⟩), .bool hi] w fun e w' =>
    e = .returned (.int .i64 (V.get hi)) ∧ VAt 69 w' p g (V.got hi) ∧ Tr [p, g] w w' := by
  cases hi
  · exact (vram_Get_low h).mono fun _ _ ⟨he, hw⟩ => ⟨he, hw ▸ h, hw ▸ Tr.refl _ _⟩
  · exact vram_Get_high h
theorem ref13_Get {w : World} {p g : Nat} {V : VS} (h : VAt 66 w p g V) (hi : Bool) : Calls Try.prog 47 #[.pointer (some ⟨p, 0, none⟩), .bool hi] w fun e w' =>
    e = .returned (.int .i64 (V.get hi)) ∧ VAt 66 w' p g (V.got hi) ∧ Tr [p, g] w w' := by
  cases hi
  · exact (ref13_Get_low h).mono fun _ _ ⟨he, hw⟩ => ⟨he, hw ▸ h, hw ▸ Tr.refl _ _⟩
  · exact ref13_Get_high h

section
variable {H : Type} {enc : TypeId × Value → H} {W : World} {base b0 : Nat} {v : Value} {d : DataW H} {p : List MemPlace}
/-- The four cells of a call. -/
theorem trod_act {base : Nat} {spare : Nat → Bool} {held : Bool} {fuel : Nat} {cs : List Value} {y : DataW H × List MemPlace} (h : DataW.trod enc Try.prog W base spare held fuel 64 cs = some y) :
    ∃ x : ActV, cs = x.cells.toList ∧ x.In := by
  obtain ⟨xs, n, _, rfl, hl, hlen, hf⟩ := DataW.trod_struct Try.underlying64 h
  have h4 : Try.prog.cellsOf 64 = 4 := by kernel_rfl
  have hc : Try.prog.cellsOf 3 = 1 := by kernel_rfl
  have hb : Try.prog.cellsOf 4 = 1 := by kernel_rfl
  rw [h4] at hl
  have hlen4 : xs.length = 4 := hlen
  match cs, hl with
  | [u0, u1, u2, u3], _ =>
    have a0 : DataW.trod enc Try.prog W base spare held n 3 (List.take (Try.prog.cellsOf 3) (List.drop 0 [u0, u1, u2, u3])) = xs[0]? := hf 0 _ rfl
    have a1 : DataW.trod enc Try.prog W base spare held n 3 (List.take (Try.prog.cellsOf 3) (List.drop 1 [u0, u1, u2, u3])) = xs[1]? := hf 1 _ rfl
    have a2 : DataW.trod enc Try.prog W base spare held n 3 (List.take (Try.prog.cellsOf 3) (List.drop 2 [u0, u1, u2, u3])) = xs[2]? := hf 2 _ rfl
    have a3 : DataW.trod enc Try.prog W base spare held n 4 (List.take (Try.prog.cellsOf 4) (List.drop 3 [u0, u1, u2, u3])) = xs[3]? := hf 3 _ rfl
    rw [List.getElem?_eq_getElem (by omega)] at a0 a1 a2 a3
    rw [hc] at a0 a1 a2
    rw [hb] at a3
    obtain ⟨z0, e0, _, w0⟩ := DataW.trod_int Try.underlying3 a0
    obtain ⟨z1, e1, _, w1⟩ := DataW.trod_int Try.underlying3 a1
    obtain ⟨z2, e2, _, w2⟩ := DataW.trod_int Try.underlying3 a2
    obtain ⟨z3, e3, _⟩ := DataW.trod_bool Try.underlying4 a3
    simp at e0 e1 e2 e3
    exact ⟨⟨z0, z1, z2, z3⟩, by subst e0 e1 e2 e3; rfl, wf_i64 w1, wf_i64 w2⟩

/-- A slice of calls that came in. -/
theorem open_acts (hv : Value.okWide Try.prog W .any b0 62 v) (h : DataW.Trod enc Try.prog W base (fun _ => true) true 62 v d p) :
    ∃ (a : Option Addr) (cap : Nat) (xs : List ActV), v = .slice a xs.length cap ∧ xs.length ≤ cap ∧ cap ≤ maxLen ∧ ActsAt W a xs ∧ (∀ x ∈ xs, x.In) := by
  obtain ⟨fuel0, g0⟩ := trod_of_slice Try.underlying62 hv h
  obtain ⟨a, c, xs, rfl, l0, m0, S, _⟩ := trod_sl (α := ActV) ActV.none (fun cs x => cs = x.cells.toList ∧ x.In) Try.underlying62 (fun m cs y hy => trod_act hy) g0
  have h4 : Try.prog.cellsOf 64 = 4 := by kernel_rfl
  rw [h4] at S
  refine ⟨a, c, xs, rfl, l0, m0, ?_, ?_⟩
  · intro i hi
    obtain ⟨ad, cs, ea, hcs, rfl, _⟩ := S i hi
    have e0 : ((ad.add (i * 4)).add 0) = ad.add (i * 4) := by rw [Addr.add]; simp
    have k0 := (World.cells?_some hcs).2.2 0 (by decide)
    have k1 := (World.cells?_some hcs).2.2 1 (by decide)
    have k2 := (World.cells?_some hcs).2.2 2 (by decide)
    have k3 := (World.cells?_some hcs).2.2 3 (by decide)
    rw [e0] at k0
    rw [add_pos _ 1 (by decide)] at k1
    rw [add_pos _ 2 (by decide)] at k2
    rw [add_pos _ 3 (by decide)] at k3
    exact ⟨ad, ea, by simpa [ActV.cells] using k0, by simpa [ActV.cells] using k1, by simpa [ActV.cells] using k2, by simpa [ActV.cells] using k3⟩
  · intro x hx
    obtain ⟨i, hi, rfl⟩ := List.getElem_of_mem hx
    obtain ⟨ad, cs, ea, hcs, _, ho⟩ := S i hi
    rwa [nth_lt hi] at ho
end
end Go.Proofs.Ytlhnfllfankjhaa
