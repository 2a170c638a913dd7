/- Contracts: a sprite of a table. -/
import Derived.Test.YtlhnfllfankjhaaSprA
import Derived.Test.YtlhnfllfankjhaaBits
import Derived.Test.YtlhnfllfankjhaaReg
namespace Go.Proofs.Ytlhnfllfankjhaa
open Go Go.RowKit
set_option linter.unusedSimpArgs false
set_option linter.unusedVariables false
attribute [local go_sem ↓] Go.wp_at_zero Go.wp_at_succ

def sHigh (w3 : Int) : Int := if w3 / 4096 % 4 = 0 then 16 else if w3 / 4096 % 4 = 1 then 32 else 64
def sWide (w3 : Int) : Int := if w3 / 256 % 2 = 1 then 32 else 16
def sCell (w2 w3 : Int) : Int :=
  let c := if w3 / 256 % 2 = 1 then w2 / 2 % 1024 / 2 * 2 else w2 / 2 % 1024
  if w3 / 4096 % 4 = 0 then c else if w3 / 4096 % 4 = 1 then c - c / 2 % 2 * 2 else c - c / 2 % 4 * 2
/-- A sprite, by its four words. -/
def oneV (w0 w1 w2 w3 : Int) : Array Value := #[.int .i64 (w1 % 1024 - 32), .int .i64 (w0 % 1024 - 64), .int .i64 (sCell w2 w3), .int .i64 (sWide w3), .int .i64 (sHigh w3), .int .i64 (w3 % 16),
  .bool (w3 / 128 % 2 == 1), .bool (w3 / 2048 % 2 == 1), .bool (w3 / 32768 % 2 == 1)]
theorem oneV_of (w0 w1 w2 w3 : Int) {c : Int} (hc : sCell w2 w3 = c) : oneV w0 w1 w2 w3 = #[.int .i64 (w1 % 1024 - 32), .int .i64 (w0 % 1024 - 64), .int .i64 c, .int .i64 (sWide w3), .int .i64 (sHigh w3), .int .i64 (w3 % 16),
  .bool (w3 / 128 % 2 == 1), .bool (w3 / 2048 % 2 == 1), .bool (w3 / 32768 % 2 == 1)] := by unfold oneV; rw [hc]
theorem oneV_one (w0 w1 w2 w3 : Int) : (oneV w0 w1 w2 w3).all (·.oneCell') = true := by simp [oneV, Value.oneCell']
def one0 : Array Value := #[.int .i64 0, .int .i64 0, .int .i64 0, .int .i64 0, .int .i64 0, .int .i64 0, .bool false, .bool false, .bool false]
def oneAt (t : List Int) (k : Int) : Array Value := if 0 ≤ k ∧ k < 64 then oneV (nth 0 t (4 * k.toNat)) (nth 0 t (4 * k.toNat + 1)) (nth 0 t (4 * k.toNat + 2)) (nth 0 t (4 * k.toNat + 3)) else one0

theorem andNot_1 (x : Int) (h0 : 0 ≤ x) (h1 : x < 1024) : bits .andNot .i64 x 1 = x / 2 * 2 := by
  have h : ∀ y : Fin 1024, bits .andNot .i64 (y.val : Int) 1 = (y.val : Int) / 2 * 2 := by decide +kernel
  have := h ⟨x.toNat, by omega⟩
  simpa [Int.toNat_of_nonneg h0] using this
theorem andNot_2 (x : Int) (h0 : 0 ≤ x) (h1 : x < 1024) : bits .andNot .i64 x 2 = x - x / 2 % 2 * 2 := by
  have h : ∀ y : Fin 1024, bits .andNot .i64 (y.val : Int) 2 = (y.val : Int) - (y.val : Int) / 2 % 2 * 2 := by decide +kernel
  have := h ⟨x.toNat, by omega⟩
  simpa [Int.toNat_of_nonneg h0] using this
theorem andNot_6 (x : Int) (h0 : 0 ≤ x) (h1 : x < 1024) : bits .andNot .i64 x 6 = x - x / 2 % 4 * 2 := by
  have h : ∀ y : Fin 1024, bits .andNot .i64 (y.val : Int) 6 = (y.val : Int) - (y.val : Int) / 2 % 4 * 2 := by decide +kernel
  have := h ⟨x.toNat, by omega⟩
  simpa [Int.toNat_of_nonneg h0] using this
theorem andNot_0 (x : Int) (h0 : 0 ≤ x) (h1 : x < 1024) : bits .andNot .i64 x 0 = x := by
  have h : ∀ y : Fin 1024, bits .andNot .i64 (y.val : Int) 0 = (y.val : Int) := by decide +kernel
  have := h ⟨x.toNat, by omega⟩
  simpa [Int.toNat_of_nonneg h0] using this

theorem of_flag (bit : Nat) (p : Int) (hb : bit ≤ 15) (hp : p = 2 ^ bit) (pb b o c : Nat) (w3 : Int) (w : World) (h0 : w.cell? ⟨pb, 0, none⟩ = some (.slice (some ⟨b, o, none⟩) 4 c)) (h3 : w.cell? ⟨b, o + 3, none⟩ = some (.int .i64 w3)) :
    Calls Try.prog 80 #[.int .i64 bit, .pointer (some ⟨pb, 0, none⟩)] w fun e w' => e = .returned (.bool (w3 / p % 2 == 1)) ∧ w = w' := by
  go_enter Try.func80, Try.ntmps80
  go_wp2_with fail
  refine (bits_Bit _ _ _).mono ?_; rintro e w1 ⟨rfl, rfl⟩
  go_wp2
  go_ret
  refine ⟨ret_bool ?_, rfl⟩
  subst hp; unfold bitI; rw [if_pos (by omega)]; simp

theorem slice256 (g l h : Nat) (h1 : l < h) (h2 : h ≤ 256) (a b : Int) (ea : a = l) (eb : b = h) (w : World) :
    (Instr.sliceAt 37 (.pointer (some ⟨g, 0, none⟩)) (some (.int .i64 a)) (some (.int .i64 b)) none).run Try.prog w = .ok (.slice (some ⟨g, l, none⟩) (h - l) (256 - l)) w := by
  subst ea eb
  have hu : Try.prog.underlying 37 = some (.array (Try.prog.arrayLen 37) (Try.prog.elem 37)) := by kernel_rfl
  have hl : Try.prog.arrayLen 37 = 256 := by kernel_rfl
  have he : Try.prog.elem 37 = 3 := by kernel_rfl
  have hs : (Try.prog.info? 3).map (·.size) = some 1 := by kernel_rfl
  obtain ⟨i, hi, hz⟩ := Option.map_eq_some_iff.1 hs
  rw [run_sliceAt_array_lh w 37 _ hu .i64 .i64 (l : Int) (h : Int) (by omega) (by omega) (by rw [hl]; omega), hl, he]
  have hso : (sizeOf 3).run Try.prog w = .ok 1 w := by simp [sizeOf, typeInfo, hi, hz]
  rw [hso]
  simp only [Result.andThen_ok, slicedAt, Int.toNat_natCast, Nat.mul_one]
  rw [if_neg (by omega)]
  have e1 : (Addr.add ⟨g, 0, none⟩ l) = ⟨g, l, none⟩ := by unfold Addr.add; split <;> simp_all
  rw [e1]

theorem sprites_Of_out (t : List Int) (ht : t.length = 256) (k : Int) (hk : k < 0 ∨ 64 ≤ k) (w : World) :
    Calls Try.prog 53 #[aggI t, .int .i64 k] w fun e w' => e = .returned (.agg one0) ∧ Below w.heap.size w w' := by
  rw [aggI_eq]
  rcases hk with hk | hk
  all_goals
    go_enter Try.func53, Try.ntmps53
    go_wp2
    exact ret_row rfl rfl (Blk.new' _ one0 _ (by simp)) Try.underlying88 rfl (by kernel_rfl) rfl ⟨rfl, ((Below.refl _ _).alloc (Nat.le_refl _) _).alloc (by simp) _⟩

set_option maxRecDepth 100000 in
set_option maxHeartbeats 4000000 in
theorem sprites_Of_in (t : List Int) (ht : t.length = 256) (k : Nat) (hk : k < 64) (w : World) :
    Calls Try.prog 53 #[aggI t, .int .i64 k] w fun e w' => e = .returned (.agg (oneV (nth 0 t (4 * k)) (nth 0 t (4 * k + 1)) (nth 0 t (4 * k + 2)) (nth 0 t (4 * k + 3)))) ∧ Below w.heap.size w w' := by
  rw [aggI_eq]
  have kb := Blk.new w (cellsI t) 37
  have g0 := (Blk.toL kb).at (i := 4 * k) (by omega)
  have g1 := (Blk.toL kb).at (i := 4 * k + 1) (by omega)
  have g2 := (Blk.toL kb).at (i := 4 * k + 2) (by omega)
  have g3 := (Blk.toL kb).at (i := 4 * k + 3) (by omega)
  generalize nth 0 t (4 * k) = w0 at *
  generalize nth 0 t (4 * k + 1) = w1 at *
  generalize nth 0 t (4 * k + 2) = w2 at *
  generalize nth 0 t (4 * k + 3) = w3 at *
  have hsz : (cellsI t).size = 256 := by rw [cellsI_size, ht]
  have hkI : (k : Int) < 64 := by omega
  have hsl := slice256 w.heap.size (4 * k) (4 * k + 4) (by omega) (by omega) (4 * (k : Int)) (4 * ((k : Int) + 1)) (by omega) (by omega)
  rw [show 4 * k + 4 - 4 * k = 4 from by omega] at hsl
  go_enter Try.func53, Try.ntmps53
  go_wp2
  have q0 : Blk (((w.alloc (Obj.cells (cellsI t) 37)).alloc (Obj.cells one0 88)).alloc (Obj.cells #[Value.slice (some { block := w.heap.size, off := 4 * k }) 4 (256 - 4 * k)] 22)) (w.heap.size + 1) one0 88 := Blk.alloc (Blk.new' _ _ _ (by simp)) _
  have q1 : Blk (((w.alloc (Obj.cells (cellsI t) 37)).alloc (Obj.cells one0 88)).alloc (Obj.cells #[Value.slice (some { block := w.heap.size, off := 4 * k }) 4 (256 - 4 * k)] 22)) (w.heap.size + 2) #[Value.slice (some { block := w.heap.size, off := 4 * k }) 4 (256 - 4 * k)] 22 := Blk.new' _ _ _ (by simp)
  have q2 : Below w.heap.size w (((w.alloc (Obj.cells (cellsI t) 37)).alloc (Obj.cells one0 88)).alloc (Obj.cells #[Value.slice (some { block := w.heap.size, off := 4 * k }) 4 (256 - 4 * k)] 22)) := (((Below.refl _ _).alloc (Nat.le_refl _) _).alloc (by simp) _).alloc (by simp; omega) _
  have q3 := Blk.alloc (Blk.alloc kb (Obj.cells one0 88)) (Obj.cells #[Value.slice (some { block := w.heap.size, off := 4 * k }) 4 (256 - 4 * k)] 22)
  unfold one0 at q0 q1 q2 q3
  have u0 := (q3.cell (4 * k)).trans ((kb.cell (4 * k)).symm.trans g0)
  have u1 := (q3.cell (4 * k + 1)).trans ((kb.cell (4 * k + 1)).symm.trans g1)
  have u2 := (q3.cell (4 * k + 2)).trans ((kb.cell (4 * k + 2)).symm.trans g2)
  have u3 := (q3.cell (4 * k + 3)).trans ((kb.cell (4 * k + 3)).symm.trans g3)
  have v0 : _ = some (Value.slice (some { block := w.heap.size, off := 4 * k }) 4 (256 - 4 * k)) := q1.cell 0
  clear g0 g1 g2 g3 kb q3 hsl
  generalize ((w.alloc _).alloc _).alloc _ = W at *
  go_cut [7] (fun s7 wx => ∃ g, s7 = .pointer (some ⟨g, 0, none⟩) ∧ Blk wx g #[.int .i64 (w1 % 1024 - 32), .int .i64 (w0 % 1024 - 64), .int .i64 (w2 / 2 % 1024), .int .i64 16, .int .i64 (sHigh w3), .int .i64 (w3 % 16), .bool (w3 / 128 % 2 == 1), .bool (w3 / 2048 % 2 == 1), .bool (w3 / 32768 % 2 == 1)] 88 ∧
      w.heap.size + 2 < g ∧ Below W.heap.size W wx)
  case first =>
    have hv : w3 / 4096 % 4 = 0 ∨ w3 / 4096 % 4 = 1 ∨ w3 / 4096 % 4 = 2 ∨ w3 / 4096 % 4 = 3 := by omega
    have hW := q1.lt
    let D0 : World → Prop := fun w' => ∃ n, w' = W.drewN n
    let D1 : World → Prop := fun w' => ∃ n, w' = (W.alloc (Obj.cells one0 88)).drewN n
    let V : Array Value := #[.int .i64 (w1 % 1024 - 32), .int .i64 (w0 % 1024 - 64), .int .i64 (w2 / 2 % 1024), .int .i64 16, .int .i64 (sHigh w3), .int .i64 (w3 % 16), .bool (w3 / 128 % 2 == 1), .bool (w3 / 2048 % 2 == 1), .bool (w3 / 32768 % 2 == 1)]
    let D2 : World → Prop := fun w' => Blk w' W.heap.size V 88 ∧ Below W.heap.size W w'
    have facts : ∀ w', (D0 w' ∨ D1 w') → w'.cell? ⟨w.heap.size + 2, 0, none⟩ = some (Value.slice (some { block := w.heap.size, off := 4 * k }) 4 (256 - 4 * k)) ∧ w'.cell? ⟨w.heap.size, 4 * k, none⟩ = some (.int .i64 w0) ∧ w'.cell? ⟨w.heap.size, 4 * k + 1, none⟩ = some (.int .i64 w1) ∧ w'.cell? ⟨w.heap.size, 4 * k + 2, none⟩ = some (.int .i64 w2) ∧ w'.cell? ⟨w.heap.size, 4 * k + 3, none⟩ = some (.int .i64 w3) := by
      rintro w' (⟨n, rfl⟩ | ⟨n, rfl⟩)
      · exact ⟨v0, u0, u1, u2, u3⟩
      · refine ⟨?_, ?_, ?_, ?_, ?_⟩ <;> (show (W.alloc _).cell? _ = _; rw [World.cell?_alloc_past _ _ _ (by omega)]; assumption)
    have FA := Lib.hid facts; clear facts
    have x1 : IntKind.i64.wrap (w1 % 1024 - 32) = w1 % 1024 - 32 := IntWalk.i64_in _ (by omega)
    have x2 : IntKind.i64.wrap (w0 % 1024 - 64) = w0 % 1024 - 64 := IntWalk.i64_in _ (by omega)
    refine wp_region_alloc_store 33 34 D0 D1 D2 (by kernel_rfl) (by kernel_rfl) (by kernel_rfl) (by decide) ⟨1, rfl⟩ ?_
    iterate 24
      (refine wpL_head rfl (by decide) (by decide) (fun w n ⟨m, h⟩ => ⟨m + n, by rw [h, World.drewN_drewN]⟩) (fun w n ⟨m, h⟩ => ⟨m + n, by rw [h, World.drewN_drewN]⟩) (fun K hK => ?_)
       apply Exists.intro
       refine ⟨fun wq hq => ?_, hK _ ?_⟩
       · obtain ⟨z0, z1, z2, z3, z4⟩ := FA.out wq hq
         go_simp
         first | exact rfl | exact ⟨rfl, rfl⟩
       clear hK K
       simp only [Act.put, List.setIfInBounds_toArray, List.set_cons_zero, List.set_cons_succ])
    iterate 1
      (refine wpL_head rfl (by decide) (by decide) (fun w n ⟨m, h⟩ => ⟨m + n, by rw [h, World.drewN_drewN]⟩) (fun w n ⟨m, h⟩ => ⟨m + n, by rw [h, World.drewN_drewN]⟩) (fun K hK => ?_)
       refine ⟨.int .i64 (min (w3 / 4096 % 4) 2), fun wq hq => ?_, hK _ ?_⟩
       · obtain ⟨z0, z1, z2, z3, z4⟩ := FA.out wq hq
         clear z0 z1 z2 z3 z4; rcases hv with hv | hv | hv | hv <;> (try go_simp) <;> first | omega | (unfold sHigh; simp only [hv]; decide)
       clear hK K
       simp only [Act.put, List.setIfInBounds_toArray, List.set_cons_zero, List.set_cons_succ])
    iterate 1
      (refine wpL_head rfl (by decide) (by decide) (fun w n ⟨m, h⟩ => ⟨m + n, by rw [h, World.drewN_drewN]⟩) (fun w n ⟨m, h⟩ => ⟨m + n, by rw [h, World.drewN_drewN]⟩) (fun K hK => ?_)
       refine ⟨.int .i64 (sHigh w3), fun wq hq => ?_, hK _ ?_⟩
       · obtain ⟨z0, z1, z2, z3, z4⟩ := FA.out wq hq
         clear z0 z1 z2 z3 z4; rcases hv with hv | hv | hv | hv <;> (try go_simp) <;> first | omega | (unfold sHigh; simp only [hv]; decide)
       clear hK K
       simp only [Act.put, List.setIfInBounds_toArray, List.set_cons_zero, List.set_cons_succ])
    iterate 1
      (refine wpL_head rfl (by decide) (by decide) (fun w n ⟨m, h⟩ => ⟨m + n, by rw [h, World.drewN_drewN]⟩) (fun w n ⟨m, h⟩ => ⟨m + n, by rw [h, World.drewN_drewN]⟩) (fun K hK => ?_)
       apply Exists.intro
       refine ⟨fun wq hq => ?_, hK _ ?_⟩
       · obtain ⟨z0, z1, z2, z3, z4⟩ := FA.out wq hq
         go_simp
         first | exact rfl | exact ⟨rfl, rfl⟩
       clear hK K
       simp only [Act.put, List.setIfInBounds_toArray, List.set_cons_zero, List.set_cons_succ])
    iterate 1
      (refine wpL_head rfl (by decide) (by decide) (fun w n ⟨m, h⟩ => ⟨m + n, by rw [h, World.drewN_drewN]⟩) (fun w n ⟨m, h⟩ => ⟨m + n, by rw [h, World.drewN_drewN]⟩) (fun K hK => ?_)
       apply Exists.intro
       refine ⟨fun wq hq => ?_, hK _ ?_⟩
       · obtain ⟨z0, z1, z2, z3, z4⟩ := FA.out wq hq
         go_simp
         exact call0 (of_flag 7 128 (by decide) (by decide) _ _ _ _ w3 _ z0 z4)
       clear hK K
       simp only [Act.put, List.setIfInBounds_toArray, List.set_cons_zero, List.set_cons_succ])
    iterate 1
      (refine wpL_head rfl (by decide) (by decide) (fun w n ⟨m, h⟩ => ⟨m + n, by rw [h, World.drewN_drewN]⟩) (fun w n ⟨m, h⟩ => ⟨m + n, by rw [h, World.drewN_drewN]⟩) (fun K hK => ?_)
       apply Exists.intro
       refine ⟨fun wq hq => ?_, hK _ ?_⟩
       · obtain ⟨z0, z1, z2, z3, z4⟩ := FA.out wq hq
         go_simp
         first | exact rfl | exact ⟨rfl, rfl⟩
       clear hK K
       simp only [Act.put, List.setIfInBounds_toArray, List.set_cons_zero, List.set_cons_succ])
    iterate 1
      (refine wpL_head rfl (by decide) (by decide) (fun w n ⟨m, h⟩ => ⟨m + n, by rw [h, World.drewN_drewN]⟩) (fun w n ⟨m, h⟩ => ⟨m + n, by rw [h, World.drewN_drewN]⟩) (fun K hK => ?_)
       apply Exists.intro
       refine ⟨fun wq hq => ?_, hK _ ?_⟩
       · obtain ⟨z0, z1, z2, z3, z4⟩ := FA.out wq hq
         go_simp
         exact call0 (of_flag 11 2048 (by decide) (by decide) _ _ _ _ w3 _ z0 z4)
       clear hK K
       simp only [Act.put, List.setIfInBounds_toArray, List.set_cons_zero, List.set_cons_succ])
    iterate 1
      (refine wpL_head rfl (by decide) (by decide) (fun w n ⟨m, h⟩ => ⟨m + n, by rw [h, World.drewN_drewN]⟩) (fun w n ⟨m, h⟩ => ⟨m + n, by rw [h, World.drewN_drewN]⟩) (fun K hK => ?_)
       apply Exists.intro
       refine ⟨fun wq hq => ?_, hK _ ?_⟩
       · obtain ⟨z0, z1, z2, z3, z4⟩ := FA.out wq hq
         go_simp
         first | exact rfl | exact ⟨rfl, rfl⟩
       clear hK K
       simp only [Act.put, List.setIfInBounds_toArray, List.set_cons_zero, List.set_cons_succ])
    iterate 1
      (refine wpL_head rfl (by decide) (by decide) (fun w n ⟨m, h⟩ => ⟨m + n, by rw [h, World.drewN_drewN]⟩) (fun w n ⟨m, h⟩ => ⟨m + n, by rw [h, World.drewN_drewN]⟩) (fun K hK => ?_)
       apply Exists.intro
       refine ⟨fun wq hq => ?_, hK _ ?_⟩
       · obtain ⟨z0, z1, z2, z3, z4⟩ := FA.out wq hq
         go_simp
         exact call0 (of_flag 15 32768 (by decide) (by decide) _ _ _ _ w3 _ z0 z4)
       clear hK K
       simp only [Act.put, List.setIfInBounds_toArray, List.set_cons_zero, List.set_cons_succ])
    iterate 1
      (refine wpL_head rfl (by decide) (by decide) (fun w n ⟨m, h⟩ => ⟨m + n, by rw [h, World.drewN_drewN]⟩) (fun w n ⟨m, h⟩ => ⟨m + n, by rw [h, World.drewN_drewN]⟩) (fun K hK => ?_)
       apply Exists.intro
       refine ⟨fun wq hq => ?_, hK _ ?_⟩
       · obtain ⟨z0, z1, z2, z3, z4⟩ := FA.out wq hq
         go_simp
         first | exact rfl | exact ⟨rfl, rfl⟩
       clear hK K
       simp only [Act.put, List.setIfInBounds_toArray, List.set_cons_zero, List.set_cons_succ])
    refine wpL_alloc rfl (by decide) (fun K hK => ?_)
    refine ⟨.pointer (some ⟨W.heap.size, 0, none⟩), fun wq hq => ?_, hK _ ?_⟩
    · obtain ⟨n, rfl⟩ := hq
      go_simp
      exact ⟨n, rfl⟩
    clear hK K
    simp only [Act.put, List.setIfInBounds_toArray, List.set_cons_zero, List.set_cons_succ]
    refine wpL_last rfl (by decide) rfl (by kernel_rfl) (by kernel_rfl) ⟨undef, fun wq hq => ?_, ?_⟩
    · obtain ⟨n, rfl⟩ := hq
      have b := Blk.drewN (Blk.new' W one0 88 rfl) n
      unfold one0 at b ⊢
      go_simp
      replace b := ((((((((b.set (i := 0) (.int .i64 (w1 % 1024 - 32))).set (i := 1) (.int .i64 (w0 % 1024 - 64))).set (i := 2) (.int .i64 (w2 / 2 % 1024))).set (i := 3) (.int .i64 16)).set (i := 4) (.int .i64 (sHigh w3))).set (i := 5) (.int .i64 (w3 % 16))).set (i := 6) (.bool (w3 / 128 % 2 == 1))).set (i := 7) (.bool (w3 / 2048 % 2 == 1))).set (i := 8) (.bool (w3 / 32768 % 2 == 1))
      simp only [List.setIfInBounds_toArray, List.set_cons_zero, List.set_cons_succ] at b
      refine ⟨b, ?_⟩
      exact (((((((((below_drewN ((Below.refl _ _).alloc (Nat.le_refl _) _) n).setCell (Nat.le_refl _) _).setCell (Nat.le_refl _) _).setCell (Nat.le_refl _) _).setCell (Nat.le_refl _) _).setCell (Nat.le_refl _) _).setCell (Nat.le_refl _) _).setCell (Nat.le_refl _) _).setCell (Nat.le_refl _) _).setCell (Nat.le_refl _) _
    intro w' hw'
    go_wp2_with fail
    go_meet
    exact ⟨_, rfl, hw'.1, hW, hw'.2⟩
  case rest =>
    obtain ⟨g, rfl, hg, hgt, hb⟩ := hcut
    replace q0 := q0.below hb
    replace q1 := q1.below hb
    have hbb : Below w.heap.size w wc := q2.trans (hb.mono q2.size)
    have y3 : wc.cell? ⟨w.heap.size, 4 * k + 3, none⟩ = some (.int .i64 w3) := by rw [hb.cell (World.block_lt_of_cell? W _ u3)]; exact u3
    have v0' : wc.cell? ⟨w.heap.size + 2, 0, none⟩ = some (Value.slice (some { block := w.heap.size, off := 4 * k }) 4 (256 - 4 * k)) := q1.cell 0
    clear u0 u1 u2 u3 v0 q1 q2 hb
    have c2 : 0 ≤ w2 / 2 % 1024 ∧ w2 / 2 % 1024 < 1024 := by omega
    have lt1 := q0.lt
    have hne : g ≠ w.heap.size + 1 := by omega
    have hne' : w.heap.size + 1 ≠ g := by omega
    have HV := Lib.hid (show w3 / 4096 % 4 = 0 ∨ w3 / 4096 % 4 = 1 ∨ w3 / 4096 % 4 = 2 ∨ w3 / 4096 % 4 = 3 by omega)
    generalize hA : (if w3 / 256 % 2 = 1 then w2 / 2 % 1024 / 2 * 2 else w2 / 2 % 1024) = cA
    have hcA : 0 ≤ cA ∧ cA < 1024 := by rw [← hA]; split <;> omega
    have HA := Lib.hid hA; clear hA
    go_upto_if 56 with (go_at_call 80; refine (of_flag 8 256 (by decide) (by decide) _ _ _ _ w3 _ v0' y3).mono ?_; rintro e wd ⟨rfl, rfl⟩)
    go_cut [] (fun wx => Blk wx g #[.int .i64 (w1 % 1024 - 32), .int .i64 (w0 % 1024 - 64), .int .i64 cA, .int .i64 (sWide w3), .int .i64 (sHigh w3), .int .i64 (w3 % 16), .bool (w3 / 128 % 2 == 1), .bool (w3 / 2048 % 2 == 1), .bool (w3 / 32768 % 2 == 1)] 88 ∧
      Blk wx (w.heap.size + 1) one0 88 ∧ Below w.heap.size w wx)
    case first =>
      have f2 := hg.free 2; have f3 := hg.free 3
      have g2 := hg.cell 2; have g3 := hg.cell 3
      simp only [List.getElem?_toArray, List.getElem?_cons_zero, List.getElem?_cons_succ] at g2 g3
      by_cases hf : w3 / 256 % 2 = 1
      · have hf' : (w3 / 256 % 2 == 1) = true := by simpa using hf
        have e1 := andNot_1 _ c2.1 c2.2
        have B1 := (hg.set (i := 3) (.int .i64 32)).set (i := 2) (.int .i64 (w2 / 2 % 1024 / 2 * 2))
        simp only [List.setIfInBounds_toArray, List.set_cons_zero, List.set_cons_succ] at B1
        have hw : sWide w3 = 32 := by unfold sWide; rw [if_pos hf]
        have ha := HA.out; rw [if_pos hf] at ha
        rw [ha] at B1
        have HW := Lib.hid hw
        have Z1 := (q0.other (i := 3) (.int .i64 32) hne').other (i := 2) (.int .i64 (w2 / 2 % 1024 / 2 * 2)) hne'
        have X1 := (hbb.setCell (p := ⟨g, 3, none⟩) (by simp; omega) (.int .i64 32)).setCell (p := ⟨g, 2, none⟩) (by simp; omega) (.int .i64 (w2 / 2 % 1024 / 2 * 2))
        rw [ha] at Z1 X1
        rw [ha] at e1
        clear ha hw hf
        go_wp2
        go_meet
        exact ⟨by rw [HW.out]; exact B1, Z1, X1⟩
      · have hf' : (w3 / 256 % 2 == 1) = false := by simpa using hf
        have hw : sWide w3 = 16 := by unfold sWide; rw [if_neg hf]
        have ha := HA.out; rw [if_neg hf] at ha
        have B1 := hg
        rw [ha] at B1
        have HW := Lib.hid hw
        clear ha hw hf
        go_wp2
        go_meet
        exact ⟨by rw [HW.out]; exact B1, q0, hbb⟩
    case rest =>
      obtain ⟨hg, q0, hbb⟩ := hcut
      clear y3 v0'
      go_upto_region 9 with (fail)
      go_cut [] (fun wx => Blk wx g (oneV w0 w1 w2 w3) 88 ∧ Blk wx (w.heap.size + 1) one0 88 ∧ Below w.heap.size w wx)
      case first =>
        have f2 := hg.free 2
        have g2 := hg.cell 2; have g4 := hg.cell 4
        simp only [List.getElem?_toArray, List.getElem?_cons_zero, List.getElem?_cons_succ] at g2 g4
        have ha := HA.out
        rcases HV.out with hv | hv | hv | hv
        · have hh : sHigh w3 = 16 := by unfold sHigh; simp [hv]
          have hc : sCell w2 w3 = cA := by unfold sCell; simp only [ha]; simp [hv]
          have e1 := andNot_0 cA hcA.1 hcA.2
          have B1 := hg.set (i := 2) (.int .i64 (cA))
          simp only [List.setIfInBounds_toArray, List.set_cons_zero, List.set_cons_succ] at B1
          have hO := oneV_of w0 w1 w2 w3 hc
          rw [← hO] at B1
          have Z1 := q0.other (i := 2) (.int .i64 (cA)) hne'
          have X1 := hbb.setCell (p := ⟨g, 2, none⟩) (by simp; omega) (.int .i64 (cA))
          rw [hh] at g4
          clear hh hc hv ha hO
          go_wp2
          go_meet
          exact ⟨B1, Z1, X1⟩
        · have hh : sHigh w3 = 32 := by unfold sHigh; simp [hv]
          have hc : sCell w2 w3 = cA - cA / 2 % 2 * 2 := by unfold sCell; simp only [ha]; simp [hv]
          have e1 := andNot_2 cA hcA.1 hcA.2
          have B1 := hg.set (i := 2) (.int .i64 (cA - cA / 2 % 2 * 2))
          simp only [List.setIfInBounds_toArray, List.set_cons_zero, List.set_cons_succ] at B1
          have hO := oneV_of w0 w1 w2 w3 hc
          rw [← hO] at B1
          have Z1 := q0.other (i := 2) (.int .i64 (cA - cA / 2 % 2 * 2)) hne'
          have X1 := hbb.setCell (p := ⟨g, 2, none⟩) (by simp; omega) (.int .i64 (cA - cA / 2 % 2 * 2))
          rw [hh] at g4
          clear hh hc hv ha hO
          go_wp2
          go_meet
          exact ⟨B1, Z1, X1⟩
        · have hh : sHigh w3 = 64 := by unfold sHigh; simp [hv]
          have hc : sCell w2 w3 = cA - cA / 2 % 4 * 2 := by unfold sCell; simp only [ha]; simp [hv]
          have e1 := andNot_6 cA hcA.1 hcA.2
          have B1 := hg.set (i := 2) (.int .i64 (cA - cA / 2 % 4 * 2))
          simp only [List.setIfInBounds_toArray, List.set_cons_zero, List.set_cons_succ] at B1
          have hO := oneV_of w0 w1 w2 w3 hc
          rw [← hO] at B1
          have Z1 := q0.other (i := 2) (.int .i64 (cA - cA / 2 % 4 * 2)) hne'
          have X1 := hbb.setCell (p := ⟨g, 2, none⟩) (by simp; omega) (.int .i64 (cA - cA / 2 % 4 * 2))
          rw [hh] at g4
          clear hh hc hv ha hO
          go_wp2
          go_meet
          exact ⟨B1, Z1, X1⟩
        · have hh : sHigh w3 = 64 := by unfold sHigh; simp [hv]
          have hc : sCell w2 w3 = cA - cA / 2 % 4 * 2 := by unfold sCell; simp only [ha]; simp [hv]
          have e1 := andNot_6 cA hcA.1 hcA.2
          have B1 := hg.set (i := 2) (.int .i64 (cA - cA / 2 % 4 * 2))
          simp only [List.setIfInBounds_toArray, List.set_cons_zero, List.set_cons_succ] at B1
          have hO := oneV_of w0 w1 w2 w3 hc
          rw [← hO] at B1
          have Z1 := q0.other (i := 2) (.int .i64 (cA - cA / 2 % 4 * 2)) hne'
          have X1 := hbb.setCell (p := ⟨g, 2, none⟩) (by simp; omega) (.int .i64 (cA - cA / 2 % 4 * 2))
          rw [hh] at g4
          clear hh hc hv ha hO
          go_wp2
          go_meet
          exact ⟨B1, Z1, X1⟩
      case rest =>
        obtain ⟨hg, q0, hbb⟩ := hcut
        have k1 : (oneV w0 w1 w2 w3).size = 9 := rfl
        go_wp2_with (first
          | (refine wpList_load_row rfl 88 _ rfl g rfl 88 (oneV w0 w1 w2 w3) (0, 0) _ hg Try.underlying88 rfl (by kernel_rfl) ?_)
          | (refine wpList_store_row rfl 88 _ _ rfl (w.heap.size + 1) (oneV w0 w1 w2 w3) rfl rfl 88 one0 q0 (by kernel_rfl) rfl (oneV_one _ _ _ _) ?_))
        refine ret_row (g := w.heap.size + 1) (cs := oneV w0 w1 w2 w3) rfl rfl (Blk.setRow q0 _) Try.underlying88 rfl (by kernel_rfl) rfl ?_
        exact ⟨rfl, below_setRow hbb (by omega) _⟩

end Go.Proofs.Ytlhnfllfankjhaa
