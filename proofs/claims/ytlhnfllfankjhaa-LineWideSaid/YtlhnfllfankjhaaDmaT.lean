/- Contracts: the sprites' table. -/
import Derived.Test.YtlhnfllfankjhaaDmaB
namespace Go.Proofs.Ytlhnfllfankjhaa
open Go Go.RowKit
set_option linter.unusedSimpArgs false
set_option linter.unusedVariables false
set_option maxRecDepth 100000

/-- 'copy' as the last operation of a region that draws. -/
theorem last_copy {P : Program} {w : World} {o : Oper} {a : Act} {D : World → Prop} (d s : Operand) (dT sT : TypeId)
    (ho : o.op = .call { callee := .builtin .copy, args := #[d, s], argTypes := #[dT, sT] }) (elem : TypeId) (hu : P.underlying dT = some (.slice elem)) (hsz : (P.info? elem).map (·.size) = some 1)
    (g off dLen dCap : Nat) (ad : Addr) (sLen sCap : Nat) (hd : a.eval d = .slice (some ⟨g, off, none⟩) dLen dCap) (hs : a.eval s = .slice (some ad) sLen sCap)
    (cur : Array Value) (t : TypeId) (hg : w.heap[g]? = some (.cells cur t (0, 0))) (cs : List Value) (hn : cs.length = Nat.min sLen dLen)
    (hsrc : ∀ j v, cs[j]? = some v → w.cell? (ad.add j) = some v) (hfit : off + cs.length ≤ cur.size) (h1 : ∀ v ∈ cs, v.oneCell' = true)
    (h : D (w.setRow g (cur.toList.take off ++ (cs ++ cur.toList.drop (off + cs.length))).toArray)) : lUpon P D (goInt cs.length) ((execOp a.eval o).run P w) := by
  have hrun := run_copy_row (P := P) w dT sT o.type elem g off dLen dCap ad sLen sCap cur t cs hu hsz hg hn hsrc hfit h1
  simp [execOp, ho, resolve, invoke, builtin, hd, hs, hrun, Result.andThen, lUpon]
  exact h

theorem t256 : (Try.prog.info? 37).map (·.size) = some 256 := by kernel_rfl

set_option maxHeartbeats 1600000 in
theorem dma_Table {w : World} {p g : Nat} {V : VS} (h : VAt 69 w p g V) (f : Int) : Calls Try.prog 33 #[.pointer (some ⟨p, 0, none⟩), .int .i64 f] w fun e w' =>
    e = .returned (aggI (wordsK V f 256)) ∧ Below w.heap.size w w' := by
  have hwl := wordsK_length V f 256
  have hW : ∀ (w : World), VAt 69 w p g V → Calls Try.prog 44 #[.pointer (some ⟨p, 0, none⟩), .int .i64 f, .int .i64 256] w fun e w' =>
    e = .returned (.slice (some ⟨w.heap.size, 0, none⟩) 256 256) ∧ BlkL (Value.int .i64) w' w.heap.size (wordsK V f 256) 3 ∧ Below w.heap.size w w' := fun w h => vram_Words h f 256 (by omega)
  generalize wordsK V f 256 = ws at *
  go_enter Try.func33, Try.ntmps33
  go_wp2_with fail
  have hv3 : VAt 69 ((w.alloc (Obj.cells Try.zeroCells37 37)).alloc (Obj.cells Try.zeroCells37 37)) p g V := h.below (((Below.refl _ _).alloc (Nat.le_refl _) _).alloc (by simp) _)
  have A4 : Blk ((w.alloc (Obj.cells Try.zeroCells37 37)).alloc (Obj.cells Try.zeroCells37 37)) w.heap.size Try.zeroCells37 37 := Blk.alloc (Blk.new w _ _) _
  have A5 : Blk ((w.alloc (Obj.cells Try.zeroCells37 37)).alloc (Obj.cells Try.zeroCells37 37)) (w.heap.size + 1) Try.zeroCells37 37 := Blk.new' (w.alloc (Obj.cells Try.zeroCells37 37)) _ _ (by simp)
  have B3 : Below w.heap.size w ((w.alloc (Obj.cells Try.zeroCells37 37)).alloc (Obj.cells Try.zeroCells37 37)) := ((Below.refl _ _).alloc (Nat.le_refl _) _).alloc (by simp) _
  generalize ((w.alloc (Obj.cells Try.zeroCells37 37)).alloc (Obj.cells Try.zeroCells37 37)) = w3 at *
  have hz : Try.zeroCells37.size = 256 := by kernel_rfl
  generalize Try.zeroCells37 = zc at *
  have l1 := h.lt
  have l4 := A4.lt
  have l5 := A5.lt
  have hcs : ∀ w', BlkL (Value.int .i64) w' w3.heap.size ws 3 → ∀ j v, (ws.map (Value.int .i64))[j]? = some v → w'.cell? ((⟨w3.heap.size, 0, none⟩ : Addr).add j) = some v := by
    intro w' hb j v hv
    rw [show (⟨w3.heap.size, 0, none⟩ : Addr).add j = ⟨w3.heap.size, j, none⟩ from by unfold Addr.add; split <;> simp_all, Blk.cell hb]
    simpa using hv
  have hlen : (ws.map (Value.int .i64)).length = 256 := by rw [List.length_map, hwl]
  generalize hks : ws.map (Value.int .i64) = ks at *
  refine wp_region_alloc_store 3 4 (fun w' => ∃ n, w' = w3.drewN n) (fun w' => BlkL (Value.int .i64) w' w3.heap.size ws 3 ∧ Below w3.heap.size w3 w')
    (fun w' => ∃ w1, Below w3.heap.size w3 w1 ∧ w' = w1.setRow (w.heap.size + 1) (cellsI ws)) (by kernel_rfl) (by kernel_rfl) (by kernel_rfl) (by decide) ⟨1, rfl⟩ ?_
  iterate 3
    (refine wpL_head rfl (by decide) (by decide) (fun w n ⟨m, h⟩ => ⟨m + n, by rw [h, World.drewN_drewN]⟩) (fun w n ⟨h1, h2⟩ => ⟨h1, below_drewN h2 n⟩) (fun K hK => ?_)
     apply Exists.intro
     refine ⟨fun wq hq => ?_, hK _ ?_⟩
     · have hc : ∃ cs, Blk wq (w.heap.size + 1) cs 37 ∧ cs.size = 256 := by
         rcases hq with ⟨n, rfl⟩ | ⟨_, hb⟩
         · exact ⟨_, Blk.drewN A5 n, hz⟩
         · exact ⟨_, Blk.below A5 hb, hz⟩
       clear hq
       go_simp
       first | exact rfl | exact ⟨rfl, rfl⟩
     clear hK K
     simp only [Act.put, List.setIfInBounds_toArray, List.set_cons_zero, List.set_cons_succ])
  refine wpL_alloc rfl (by decide) (fun K hK => ?_)
  refine ⟨.slice (some ⟨w3.heap.size, 0, none⟩) 256 256, fun wq hq => ?_, hK _ ?_⟩
  · obtain ⟨n, rfl⟩ := hq
    have hw := hW _ (hv3.drewN n)
    go_simp
    exact hw.mono fun _ _ ⟨he, hb, hB⟩ => ⟨he, hb, (below_drewN (Below.refl _ w3) n).trans hB⟩
  clear hK K
  simp only [Act.put, List.setIfInBounds_toArray, List.set_cons_zero, List.set_cons_succ]
  refine wpL_last rfl (by decide) (by decide) (by kernel_rfl) (by kernel_rfl) ⟨goInt ks.length, fun wq hq => ?_, ?_⟩
  · obtain ⟨hb, hB⟩ := hq
    refine last_copy (.tmp 6) (.tmp 9) 22 22 rfl 3 Try.underlying22 (by kernel_rfl) (w.heap.size + 1) 0 256 256 ⟨w3.heap.size, 0, none⟩ 256 256 rfl rfl zc 37 (Blk.below A5 hB) ks (by rw [hlen]; rfl) (hcs wq hb) (by omega) (by subst hks; simp [Value.oneCell']) ?_
    refine ⟨wq, hB, ?_⟩
    congr 1
    rw [← hks]
    unfold cellsI
    congr 1
    rw [List.drop_eq_nil_of_le (by simp [hwl]; omega)]
    simp
  simp only [Act.put, List.setIfInBounds_toArray, List.set_cons_zero, List.set_cons_succ]
  rintro w' ⟨w1, hB, rfl⟩
  have hc0 := Blk.setRow (Blk.below A5 hB) (cellsI ws)
  have hc4 := Blk.setRow_other (g := w.heap.size + 1) (Blk.below A4 hB) (cellsI ws) (by omega)
  have hBB : Below w.heap.size w (w1.setRow (w.heap.size + 1) (cellsI ws)) := below_setRow (B3.trans (hB.mono (by omega))) (by omega) _
  have hsz : (cellsI ws).size = 256 := by rw [cellsI_size, hwl]
  have hone := cellsI_one ws
  have hinf : (Try.prog.info? 37).map (·.size) = some (cellsI ws).size := by rw [hsz]; exact t256
  have hzc : zc.size = (cellsI ws).size := by rw [hsz, hz]
  generalize w1.setRow (w.heap.size + 1) (cellsI ws) = w2 at *
  have H1 := Lib.hid hinf
  have H2 := Lib.hid hzc
  have H3 := Lib.hid hone
  clear hcs hks hsz hinf hzc hone hz
  go_wp2_with (first
    | (refine wpList_load_row rfl 37 _ rfl (w.heap.size + 1) rfl 37 (cellsI ws) (0, 0) _ hc0 Try.underlying37 rfl H1.out ?_)
    | (refine wpList_store_row rfl 37 _ _ rfl w.heap.size (cellsI ws) rfl rfl 37 _ hc4 H1.out H2.out H3.out ?_))
  refine ret_row rfl rfl (Blk.setRow hc4 _) Try.underlying37 rfl H1.out rfl ?_
  exact ⟨rfl, below_setRow hBB (Nat.le_refl _) _⟩

/-- Where there is no video memory: zeros. -/
theorem dma_Table_nil (w : World) (f : Int) : Calls Try.prog 33 #[.pointer none, .int .i64 f] w fun e w' =>
    e = .returned (aggI (zeros 256)) ∧ Below w.heap.size w w' := by
  go_enter Try.func33, Try.ntmps33
  go_wp2_with fail
  have hz : Try.zeroCells37 = cellsI (zeros 256) := by kernel_rfl
  have hsz : (cellsI (zeros 256)).size = 256 := by rw [cellsI_size, zeros_length]
  have hinf : (Try.prog.info? 37).map (·.size) = some (cellsI (zeros 256)).size := by rw [hsz]; exact t256
  have hone := cellsI_one (zeros 256)
  rw [hz]
  clear hz
  have A4 : Blk ((w.alloc (Obj.cells (cellsI (zeros 256)) 37)).alloc (Obj.cells (cellsI (zeros 256)) 37)) w.heap.size (cellsI (zeros 256)) 37 := Blk.alloc (Blk.new w _ _) _
  have A5 : Blk ((w.alloc (Obj.cells (cellsI (zeros 256)) 37)).alloc (Obj.cells (cellsI (zeros 256)) 37)) (w.heap.size + 1) (cellsI (zeros 256)) 37 := Blk.new' (w.alloc (Obj.cells (cellsI (zeros 256)) 37)) _ _ (by simp)
  have B3 : Below w.heap.size w ((w.alloc (Obj.cells (cellsI (zeros 256)) 37)).alloc (Obj.cells (cellsI (zeros 256)) 37)) := ((Below.refl _ _).alloc (Nat.le_refl _) _).alloc (by simp) _
  generalize ((w.alloc (Obj.cells (cellsI (zeros 256)) 37)).alloc (Obj.cells (cellsI (zeros 256)) 37)) = w3 at *
  have H1 := Lib.hid hinf
  have H3 := Lib.hid hone
  clear hinf hone hsz
  have l4 := A4.lt
  have l5 := A5.lt
  go_still_tail 4, (by kernel_rfl)
  still_call (still0 (vram_Words_nil _ _ _))
  repeat still_step
  refine wpStill_nil ?_
  change wpList _ _ _ _ _ w3.drew
  replace A4 := Blk.drew A4
  replace A5 := Blk.drew A5
  replace B3 := Below.drew B3
  generalize w3.drew = w4 at *
  go_wp2_with (first
    | (refine wpList_copy_nothing rfl (.tmp 6) (.tmp 9) 22 22 rfl 3 Try.underlying22 (by kernel_rfl) _ _ _ _ _ _ rfl rfl rfl ?_)
    | (refine wpList_load_row rfl 37 _ rfl (w.heap.size + 1) rfl 37 (cellsI (zeros 256)) (0, 0) _ A5 Try.underlying37 rfl H1.out ?_)
    | (refine wpList_store_row rfl 37 _ _ rfl w.heap.size (cellsI (zeros 256)) rfl rfl 37 _ A4 H1.out rfl H3.out ?_))
  refine ret_row rfl rfl (Blk.setRow A4 _) Try.underlying37 rfl H1.out rfl ?_
  exact ⟨rfl, below_setRow B3 (Nat.le_refl _) _⟩
end Go.Proofs.Ytlhnfllfankjhaa
