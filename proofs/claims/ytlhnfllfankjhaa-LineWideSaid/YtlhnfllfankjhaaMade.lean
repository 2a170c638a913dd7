/- Words, as elements of a slice; video memory made of them, for both sides. -/
import Derived.Test.YtlhnfllfankjhaaTiD
import Derived.Test.YtlhnfllfankjhaaDuo
namespace Go.Proofs.Ytlhnfllfankjhaa
open Go Go.RowKit Go.ChangeShapes Go.WideShapes
set_option linter.unusedSimpArgs false
set_option linter.unusedVariables false
set_option maxRecDepth 100000

structure PokeV where
  p : Int
  x : Int
def PokeV.none : PokeV := ⟨0, 0⟩
def PokeV.cells (a : PokeV) : Array Value := #[.int .i64 a.p, .int .i64 a.x]
def PokeV.In (a : PokeV) : Prop := (-9223372036854775808 ≤ a.p ∧ a.p ≤ 9223372036854775807) ∧ (-9223372036854775808 ≤ a.x ∧ a.x ≤ 9223372036854775807)
def PokesAt (w : World) (a : Option Addr) (xs : List PokeV) : Prop :=
  ∀ i, i < xs.length → ∃ ad, a = some ad ∧ w.cell? (ad.add (i * 2)) = some (.int .i64 (nth PokeV.none xs i).p) ∧ w.cell? ⟨(ad.add (i * 2)).block, (ad.add (i * 2)).off + 1, none⟩ = some (.int .i64 (nth PokeV.none xs i).x)
theorem PokesAt.below {w w' : World} {a : Option Addr} {xs : List PokeV} (h : PokesAt w a xs) (hb : Below w.heap.size w w') : PokesAt w' a xs := by
  intro i hi
  obtain ⟨ad, e, h0, h1⟩ := h i hi
  exact ⟨ad, e, by rw [hb.cell (World.block_lt_of_cell? w _ h0)]; exact h0, by rw [hb.cell (World.block_lt_of_cell? w _ h1)]; exact h1⟩

/-- The first k words laid. -/
def VS.pokes (V : VS) (xs : List PokeV) : Nat → VS
  | 0 => V
  | k + 1 => (VS.pokes V xs k).poke (nth PokeV.none xs k).p (nth PokeV.none xs k).x

/-- Two empty ones. -/
def madeOf (xs : List PokeV) : VS := VS.new.pokes xs (min xs.length 80)

section
variable {H : Type} {enc : TypeId × Value → H} {W : World} {base b0 : Nat} {v : Value} {d : DataW H} {p : List MemPlace}
theorem trod_poke {base : Nat} {spare : Nat → Bool} {held : Bool} {fuel : Nat} {cs : List Value} {y : DataW H × List MemPlace} (h : DataW.trod enc Try.prog W base spare held fuel 46 cs = some y) :
    ∃ x : PokeV, cs = x.cells.toList ∧ x.In := by
  obtain ⟨xs, n, _, rfl, hl, hlen, hf⟩ := DataW.trod_struct Try.underlying46 h
  have h2 : Try.prog.cellsOf 46 = 2 := by kernel_rfl
  have hc : Try.prog.cellsOf 3 = 1 := by kernel_rfl
  rw [h2] at hl
  have hlen2 : xs.length = 2 := hlen
  match cs, hl with
  | [u0, u1], _ =>
    have a0 : DataW.trod enc Try.prog W base spare held n 3 (List.take (Try.prog.cellsOf 3) (List.drop 0 [u0, u1])) = xs[0]? := hf 0 _ rfl
    have a1 : DataW.trod enc Try.prog W base spare held n 3 (List.take (Try.prog.cellsOf 3) (List.drop 1 [u0, u1])) = xs[1]? := hf 1 _ rfl
    rw [List.getElem?_eq_getElem (by omega)] at a0 a1
    rw [hc] at a0 a1
    obtain ⟨z0, e0, _, w0⟩ := DataW.trod_int Try.underlying3 a0
    obtain ⟨z1, e1, _, w1⟩ := DataW.trod_int Try.underlying3 a1
    simp at e0 e1
    exact ⟨⟨z0, z1⟩, by subst e0 e1; rfl, wf_i64 w0, wf_i64 w1⟩

/-- A slice of words that came in. -/
theorem open_pokes (hv : Value.okWide Try.prog W .any b0 40 v) (h : DataW.Trod enc Try.prog W base (fun _ => true) true 40 v d p) :
    ∃ (a : Option Addr) (cap : Nat) (xs : List PokeV), v = .slice a xs.length cap ∧ xs.length ≤ cap ∧ cap ≤ maxLen ∧ PokesAt W a xs ∧ (∀ x ∈ xs, x.In) := by
  obtain ⟨fuel0, g0⟩ := trod_of_slice Try.underlying40 hv h
  obtain ⟨a, c, xs, rfl, l0, m0, S, _⟩ := trod_sl (α := PokeV) PokeV.none (fun cs x => cs = x.cells.toList ∧ x.In) Try.underlying40 (fun m cs y hy => trod_poke hy) g0
  have h2 : Try.prog.cellsOf 46 = 2 := by kernel_rfl
  rw [h2] at S
  refine ⟨a, c, xs, rfl, l0, m0, ?_, ?_⟩
  · intro i hi
    obtain ⟨ad, cs, ea, hcs, rfl, _⟩ := S i hi
    have e0 : ((ad.add (i * 2)).add 0) = ad.add (i * 2) := by rw [Addr.add]; simp
    have k0 := (World.cells?_some hcs).2.2 0 (by decide)
    have k1 := (World.cells?_some hcs).2.2 1 (by decide)
    rw [e0] at k0
    rw [add_pos _ 1 (by decide)] at k1
    exact ⟨ad, ea, by simpa [PokeV.cells] using k0, by simpa [PokeV.cells] using k1⟩
  · intro x hx
    obtain ⟨i, hi, rfl⟩ := List.getElem_of_mem hx
    obtain ⟨ad, cs, ea, hcs, _, ho⟩ := S i hi
    rwa [nth_lt hi] at ho
end

set_option maxHeartbeats 4000000 in
theorem law17_Made {w : World} (a : Option Addr) (c : Nat) (xs : List PokeV) (S : PokesAt w a xs) (hI : ∀ x ∈ xs, x.In) (hm : xs.length ≤ maxLen) : Calls Try.prog 34 #[.slice a xs.length c] w fun e w' =>
    ∃ p g q h, e = .returned (.tuple #[.pointer (some ⟨p, 0, none⟩), .pointer (some ⟨q, 0, none⟩)]) ∧ Duo w w' p g q h (madeOf xs) := by
  go_enter Try.func34, Try.ntmps34
  go_wp2_with fail
  refine (vram_New _).mono ?_; rintro e w1 ⟨p, g, rfl, hx, hb1, hp, hg⟩
  go_wp2_with fail
  refine (ref13_New _).mono ?_; rintro e w2 ⟨q, h, rfl, hy, hb2, hq, hh⟩
  have D := Duo.of_new (Below.refl w.heap.size w) hx hb1 hp hg hy hb2 hq hh
  clear hx hy hb1 hb2
  go_wp2_with fail
  clear hp hg hq hh
  go_loopw [6] (fun i wr => ∃ k : Nat, k ≤ 80 ∧ k ≤ xs.length ∧ i = .int .i64 k ∧ Duo w wr p g q h (VS.new.pokes xs k)) (fun i _ => 80 - (intOf i).toNat)
  case atStart => exact ⟨0, by omega, by omega, rfl, D⟩
  case round =>
    clear D
    obtain ⟨k, hk, hkl, rfl, T⟩ := hrel
    by_cases hlt : k < xs.length ∧ k < 80
    · have d1 : decide ((k : Int) < (xs.length : Int)) = true := by simpa using hlt.1
      have d2 : decide ((k : Int) < 80) = true := by simp; omega
      have i1 : (k : Int) < (xs.length : Int) := by omega
      have hin := hI _ (nth_mem (d := PokeV.none) hlt.1)
      obtain ⟨ad, rfl, _, _⟩ := S k hlt.1
      have cc : ∀ wr, Below w.heap.size w wr → ∀ wq, Below wr.heap.size wr wq → wq.cell? (ad.add (k * 2)) = some (.int .i64 (nth PokeV.none xs k).p) ∧ wq.cell? ⟨(ad.add (k * 2)).block, (ad.add (k * 2)).off + 1, none⟩ = some (.int .i64 (nth PokeV.none xs k).x) := by
        intro wr hr wq hq
        obtain ⟨ad', e', h0, h1⟩ := (S.below (hr.trans (hq.mono hr.size))) k hlt.1
        obtain rfl := Option.some.inj e'
        exact ⟨h0, h1⟩
      have hsucc : ∀ V : VS, V.pokes xs (k + 1) = (V.pokes xs k).poke (nth PokeV.none xs k).p (nth PokeV.none xs k).x := fun _ => rfl
      have HS := Lib.hid hsucc
      clear hsucc
      have DD := Lib.hid cc
      clear cc
      have CC := Lib.hid (DD.out _ T.below)
      generalize nth PokeV.none xs k = z at *
      go_wp2_with fail
      refine wp_region_last 11 (fun w' => VAt 69 w' p g ((VS.new.pokes xs k).poke z.p z.x) ∧ Tr [p, g] wr w') (by kernel_rfl) (by kernel_rfl) (by kernel_rfl) (by decide) ?_
      iterate 11
        (refine wpP_head rfl (by decide) (fun K hK => ?_)
         apply Exists.intro
         refine ⟨fun wq hq => ?_, hK _ ?_⟩
         · have c0 := CC.out wq hq
           obtain ⟨c0, c1⟩ := c0
           go_simp
           first | exact rfl | exact ⟨hq, rfl⟩
         clear hK K
         simp only [Act.put, List.setIfInBounds_toArray, List.set_cons_zero, List.set_cons_succ])
      refine wpP_last rfl (by decide) (by kernel_rfl) (by kernel_rfl) ⟨.tuple #[], fun wq hq => ?_, ?_⟩
      · go_simp
        exact (vram_Poke (T.x.below hq) _ _).mono (fun _ _ ⟨he, hv, ht⟩ => ⟨he, hv, (Tr.of_below0 hq).trans (ht.mono (by simp))⟩)
      simp only [Act.put, List.setIfInBounds_toArray, List.set_cons_zero, List.set_cons_succ]
      rintro w3 ⟨hx3, t3⟩
      have y3 := T.yKept t3 (by simp)
      have B3 := Tr.below T.below t3 (Nat.le_refl _) (by simp; exact ⟨T.bp, T.bg⟩)
      clear CC
      have CC := Lib.hid (DD.out _ B3)
      go_wp2_with fail
      refine wp_region_last 11 (fun w' => VAt 66 w' q h ((VS.new.pokes xs k).poke z.p z.x) ∧ Tr [q, h] w3 w') (by kernel_rfl) (by kernel_rfl) (by kernel_rfl) (by decide) ?_
      iterate 11
        (refine wpP_head rfl (by decide) (fun K hK => ?_)
         apply Exists.intro
         refine ⟨fun wq hq => ?_, hK _ ?_⟩
         · have c0 := CC.out wq hq
           obtain ⟨c0, c1⟩ := c0
           go_simp
           first | exact rfl | exact ⟨hq, rfl⟩
         clear hK K
         simp only [Act.put, List.setIfInBounds_toArray, List.set_cons_zero, List.set_cons_succ])
      refine wpP_last rfl (by decide) (by kernel_rfl) (by kernel_rfl) ⟨.tuple #[], fun wq hq => ?_, ?_⟩
      · go_simp
        exact (ref13_Poke (y3.below hq) _ _ hin.1 hin.2).mono (fun _ _ ⟨he, hv, ht⟩ => ⟨he, hv, (Tr.of_below0 hq).trans (ht.mono (by simp))⟩)
      simp only [Act.put, List.setIfInBounds_toArray, List.set_cons_zero, List.set_cons_succ]
      rintro w4 ⟨hy4, t4⟩
      have T4 := T.next t3 (by simp) t4 (by simp) hx3 hy4
      rw [← HS.out] at T4
      clear T hx3 y3 B3 hy4 t3 t4 CC DD HS
      go_wp2
      go_roundw
      case rel => exact ⟨k + 1, by omega, by omega, rfl, T4⟩
      case measure => simp [intOf]; omega
    · have hk2 : k = min xs.length 80 := by omega
      have hd : (¬ k < xs.length) ∨ (k < xs.length ∧ ¬ (k : Int) < 80) := by omega
      have HK := Lib.hid hk2
      clear hk2 hlt
      rcases hd with d1 | ⟨d1, d2⟩
      all_goals
        go_wp2
        go_ret2
        have hfin : Duo w wr p g q h (madeOf xs) := by unfold madeOf; rw [← HK.out]; exact T
        first | exact ⟨p, g, q, rfl, h, hfin⟩ | exact ⟨p, g, q, h, rfl, hfin⟩
end Go.Proofs.Ytlhnfllfankjhaa
