/- The law SpritesOf, walked. -/
import Derived.Test.YtbjjjgmcdabkhaaSprC
import Derived.Test.YtbjjjgmcdabkhaaQb
namespace Go.Proofs.Ytbjjjgmcdabkhaa
open Go Go.RowKit
set_option linter.unusedSimpArgs false
set_option linter.unusedVariables false

/-- The sprite k of a table. -/
def oneK (t : List Int) (k : Int) : Array Value :=
  if k < 0 ∨ 63 < k then one0 else oneV (nth 0 t (4 * k.toNat)) (nth 0 t (4 * k.toNat + 1)) (nth 0 t (4 * k.toNat + 2)) (nth 0 t (4 * k.toNat + 3))

theorem sprites_Of (t : List Int) (ht : t.length = 256) (k : Int) (w : World) :
    Calls Try.prog 20 #[aggI t, .int .i64 k] w fun e w' => e = .returned (.agg (oneK t k)) ∧ Below w.heap.size w w' := by
  unfold oneK
  by_cases hk : k < 0 ∨ 63 < k
  · rw [if_pos hk]; exact sprites_Of_out t ht k (by omega) w
  · rw [if_neg hk]
    obtain ⟨n, rfl⟩ : ∃ n : Nat, k = n := ⟨k.toNat, by omega⟩
    exact sprites_Of_in t ht n (by omega) w

theorem ref18_Of (t : List Int) (ht : t.length = 256) (hr : ∀ i, -9223372036854775808 ≤ nth 0 t i ∧ nth 0 t i ≤ 9223372036854775807) (k : Int) (w : World) :
    Calls Try.prog 21 #[aggI t, .int .i64 k] w fun e w' => e = .returned (.agg (oneK t k)) ∧ Below w.heap.size w w' := by
  unfold oneK
  by_cases hk : k < 0 ∨ 63 < k
  · rw [if_pos hk]; exact ref18_Of_out t ht k hk w
  · rw [if_neg hk]
    obtain ⟨n, rfl⟩ : ∃ n : Nat, k = n := ⟨k.toNat, by omega⟩
    exact ref18_Of_in t ht hr n (by omega) w

theorem oneK_shape (t : List Int) (k : Int) : ∃ a b c d e f : Int, ∃ x y z : Bool, oneK t k = #[.int .i64 a, .int .i64 b, .int .i64 c, .int .i64 d, .int .i64 e, .int .i64 f, .bool x, .bool y, .bool z] := by
  unfold oneK
  split
  · exact ⟨_, _, _, _, _, _, _, _, _, rfl⟩
  · exact ⟨_, _, _, _, _, _, _, _, _, rfl⟩

theorem nth_table_range (xs : List Int) (k : Nat) (hx : ∀ x ∈ xs, -9223372036854775808 ≤ x ∧ x ≤ 9223372036854775807) (i : Nat) : -9223372036854775808 ≤ nth 0 (table xs k) i ∧ nth 0 (table xs k) i ≤ 9223372036854775807 := by
  by_cases hi : i < 256
  · rw [nth_table xs k i hi]
    split
    · by_cases hl : i < xs.length
      · exact hx _ (nth_mem hl)
      · rw [nth_ge (by omega)]; omega
    · omega
  · rw [nth_ge (by rw [table_length]; omega)]; omega

theorem one_first : oneK (table [64, 32] 2) 0 = #[.int .i64 0, .int .i64 0, .int .i64 0, .int .i64 16, .int .i64 16, .int .i64 0, .bool false, .bool false, .bool false] := by kernel_rfl

set_option maxRecDepth 100000 in
set_option maxHeartbeats 4000000 in
theorem spritesOf_walk (a : Option Addr) (c : Nat) (xs : List Int) (k : Int) (w : World) (hm : xs.length ≤ maxLen) (S : SlAt (Value.int .i64) 0 w a xs) (hx : ∀ x ∈ xs, -9223372036854775808 ≤ x ∧ x ≤ 9223372036854775807) :
    Calls Try.prog 8 #[.slice a xs.length c, .int .i64 k] w fun e w' => e = .returned (.bool true) ∧ Below w.heap.size w w' := by
  go_enter Try.func8, Try.ntmps8
  go_wp2_with fail
  refine (law18_Table a c xs _ hm S).mono ?_
  rintro e w1 ⟨rfl, hb1⟩
  have ht := table_length xs (min xs.length 256)
  have hr := nth_table_range xs (min xs.length 256) hx
  generalize table xs (min xs.length 256) = t at *
  have hz := zero256
  have z0 := Blk.new' w1 (cellsI (zeros 256)) 40 rfl
  have B1 := Blk.setRow z0 (cellsI t)
  go_wp2_with (first
    | (refine wpList_store_row rfl 40 _ _ rfl w1.heap.size (cellsI t) rfl rfl 40 (cellsI (zeros 256)) z0 (by rw [cellsI_size, ht]; exact size256) (by rw [cellsI_size, cellsI_size, ht, zeros_length]) (cellsI_one _) ?_))
  have L2 : BlkL (Value.int .i64) (((w1.alloc (Obj.cells (cellsI (zeros 256)) 40)).setRow w1.heap.size (cellsI t)).alloc (Obj.cells (#[Value.int IntKind.i64 64, Value.int IntKind.i64 32]) 3)) (w1.heap.size + 1) [64, 32] 3 := Blk.new' ((w1.alloc (Obj.cells (cellsI (zeros 256)) 40)).setRow w1.heap.size (cellsI t)) _ 3 (by rw [size_setRow]; simp)
  have B2 := Blk.alloc B1 (Obj.cells (#[Value.int IntKind.i64 64, Value.int IntKind.i64 32]) 3)
  have hbA := below_setRow (hb1.alloc hb1.size (Obj.cells (cellsI (zeros 256)) 40)) hb1.size (cellsI t)
  have hbB := hbA.alloc hbA.size (Obj.cells (#[Value.int IntKind.i64 64, Value.int IntKind.i64 32]) 3)
  have L3 : SlAt (Value.int .i64) 0 _ _ [64, 32] := SlAt.of_blkL L2
  clear L2 hbA z0 B1
  have hg1 : w.heap.size ≤ w1.heap.size := hb1.size
  generalize w1.heap.size = g at *
  generalize (World.setRow _ _ _).alloc _ = W2 at *
  refine (law18_Table _ 2 [64, 32] _ (by unfold maxLen; decide) L3).mono ?_
  rintro e w2 ⟨rfl, hb2⟩
  replace B2 := B2.below hb2
  replace hbB := hbB.trans (hb2.mono hbB.size)
  clear L3 hb2
  go_wp2_with fail
  refine (sprites_Of (table [64, 32] 2) (table_length _ _) 0 w2).mono ?_
  rintro e w3 ⟨rfl, hb3⟩
  replace B2 := B2.below hb3
  replace hbB := hbB.trans (hb3.mono hbB.size)
  clear hb3
  rw [one_first]
  have hz3 := Blk.new w3 (#[.int .i64 0, .int .i64 0, .int .i64 0, .int .i64 0, .int .i64 0, .int .i64 0, .bool false, .bool false, .bool false]) 43
  have B3 := (Blk.alloc B2 (Obj.cells (#[.int .i64 0, .int .i64 0, .int .i64 0, .int .i64 0, .int .i64 0, .int .i64 0, .bool false, .bool false, .bool false]) 43))
  go_upto_region 3 with (first
    | (refine wpList_store_row rfl 43 _ _ rfl w3.heap.size (#[.int .i64 0, .int .i64 0, .int .i64 0, .int .i64 16, .int .i64 16, .int .i64 0, .bool false, .bool false, .bool false]) rfl rfl 43 _ hz3 (by kernel_rfl) rfl (by simp [Value.oneCell']) ?_))
  have hne : g ≠ w3.heap.size := by have := B2.lt; omega
  have B5 := Blk.setRow_other B3 (#[.int .i64 0, .int .i64 0, .int .i64 0, .int .i64 16, .int .i64 16, .int .i64 0, .bool false, .bool false, .bool false]) hne
  have Z5 := Blk.setRow hz3 (#[.int .i64 0, .int .i64 0, .int .i64 0, .int .i64 16, .int .i64 16, .int .i64 0, .bool false, .bool false, .bool false])
  have hb5 := below_setRow (hbB.alloc hbB.size (Obj.cells (#[.int .i64 0, .int .i64 0, .int .i64 0, .int .i64 0, .int .i64 0, .int .i64 0, .bool false, .bool false, .bool false]) 43)) hbB.size (#[.int .i64 0, .int .i64 0, .int .i64 0, .int .i64 16, .int .i64 16, .int .i64 0, .bool false, .bool false, .bool false])
  clear hz3 B3 B2 hz S
  generalize w3.heap.size = g3 at *
  generalize World.setRow (World.alloc _ _) _ _ = W at *
  refine wp_region_under (by kernel_rfl) (by kernel_rfl) ?_
  refine wpQuiet_step (fun K hK => ?_)
  refine ⟨.agg (cellsI t), fun wq hq => quiet_load_row 40 _ rfl g rfl 40 (cellsI t) _ (B5.below hq) Try.underlying40 rfl (by rw [cellsI_size, ht]; exact size256), hK _ ?_⟩
  clear hK K
  simp only [Act.put, List.setIfInBounds_toArray, List.set_cons_zero, List.set_cons_succ]
  refine wpQuiet_step (fun K hK => ?_)
  first
    | (refine hK _ ?_; clear hK K)
    | (apply Exists.intro
       refine ⟨fun wq hq => ?_, hK _ ?_⟩
       · (skip)
         go_simp
         first | exact ⟨rfl, rfl⟩ | exact rfl | (fail)
       clear hK K)
  simp only [Act.put, List.setIfInBounds_toArray, List.set_cons_zero, List.set_cons_succ]
  refine wpQuiet_step (fun K hK => ?_)
  first
    | (refine hK _ ?_; clear hK K)
    | (apply Exists.intro
       refine ⟨fun wq hq => ?_, hK _ ?_⟩
       · (skip)
         go_simp
         first | exact ⟨rfl, rfl⟩ | exact rfl | (exact calls_under hq (sprites_Of t ht k wq))
       clear hK K)
  simp only [Act.put, List.setIfInBounds_toArray, List.set_cons_zero, List.set_cons_succ]
  refine wpQuiet_step (fun K hK => ?_)
  refine ⟨.agg (cellsI t), fun wq hq => quiet_load_row 40 _ rfl g rfl 40 (cellsI t) _ (B5.below hq) Try.underlying40 rfl (by rw [cellsI_size, ht]; exact size256), hK _ ?_⟩
  clear hK K
  simp only [Act.put, List.setIfInBounds_toArray, List.set_cons_zero, List.set_cons_succ]
  refine wpQuiet_step (fun K hK => ?_)
  first
    | (refine hK _ ?_; clear hK K)
    | (apply Exists.intro
       refine ⟨fun wq hq => ?_, hK _ ?_⟩
       · (skip)
         go_simp
         first | exact ⟨rfl, rfl⟩ | exact rfl | (fail)
       clear hK K)
  simp only [Act.put, List.setIfInBounds_toArray, List.set_cons_zero, List.set_cons_succ]
  refine wpQuiet_step (fun K hK => ?_)
  first
    | (refine hK _ ?_; clear hK K)
    | (apply Exists.intro
       refine ⟨fun wq hq => ?_, hK _ ?_⟩
       · (skip)
         go_simp
         first | exact ⟨rfl, rfl⟩ | exact rfl | (exact calls_under hq (ref18_Of t ht hr k wq))
       clear hK K)
  simp only [Act.put, List.setIfInBounds_toArray, List.set_cons_zero, List.set_cons_succ]
  obtain ⟨e1, e2, e3, e4, e5, e6, y1, y2, y3, hone⟩ := oneK_shape t k
  rw [hone]
  refine wpQuiet_step (fun K hK => ?_)
  first
    | (refine hK _ ?_; clear hK K)
    | (apply Exists.intro
       refine ⟨fun wq hq => ?_, hK _ ?_⟩
       · (skip)
         go_simp
         first | exact ⟨rfl, rfl⟩ | exact rfl | (fail)
       clear hK K)
  simp only [Act.put, List.setIfInBounds_toArray, List.set_cons_zero, List.set_cons_succ]
  have Y : ∀ wq, Below W.heap.size W wq → wq.cell? ⟨g3, 0, none⟩ = some (.int .i64 0) ∧ wq.cell? ⟨g3, 1, none⟩ = some (.int .i64 0) ∧ wq.cell? ⟨g3, 3, none⟩ = some (.int .i64 16) ∧ wq.cell? ⟨g3, 4, none⟩ = some (.int .i64 16) :=
    fun wq hq => ⟨(Z5.below hq).cell 0, (Z5.below hq).cell 1, (Z5.below hq).cell 3, (Z5.below hq).cell 4⟩
  have HY := Lib.hid Y; clear Y
  iterate 21
    (refine wpQuiet_step (fun K hK => ?_)
     first
       | (refine hK _ ?_; clear hK K)
       | (apply Exists.intro
          refine ⟨fun wq hq => ?_, hK _ ?_⟩
          · (obtain ⟨q0, q1, q3, q4⟩ := HY.out wq hq)
            go_simp
            first | exact ⟨rfl, rfl⟩ | exact rfl | (fail)
          clear hK K)
     simp only [Act.put, List.setIfInBounds_toArray, List.set_cons_zero, List.set_cons_succ])
  refine wpQuiet_nil ?_
  intro w' hw'
  go_wp2_with fail
  refine ⟨rfl, .bool true, ?_, rfl, hb5.trans (hw'.mono hb5.size)⟩
  first | exact rfl | (go_simp; done) | (unfold results; simp; done) | kernel_rfl

end Go.Proofs.Ytbjjjgmcdabkhaa
