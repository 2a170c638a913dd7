/- Contracts: the closure that lays a number's bytes. -/
import Derived.Test.YtbjjjgmcdabkhaaSl
import Derived.Test.YtbjjjgmcdabkhaaReg
import Derived.Deep.AppendLies
import Derived.Deep.RegionLaw
import Derived.Below
namespace Go.Proofs.Ytbjjjgmcdabkhaa
open Go Go.RowKit
set_option linter.unusedSimpArgs false
set_option linter.unusedVariables false

theorem Own.setCell {α : Type} {f : α → Value} {w : World} {base : Nat} {e : TypeId} {v : Value} {xs : List α} (h : Own f w base e v xs) {p : Addr} (hp : p.block < base) (u : Value) : Own f (w.setCell p u) base e v xs := ownsRow_setCell_below h hp u

/-- 'append(out, x)' in a region that draws its order. -/
theorem step_app1 {P : Program} {α : Type} {f : α → Value} {w : World} {ops : Array Oper} {o : Oper} {a : Act} {K : Act → World → Prop} {Q : Exit → Act → World → Prop} {E : Prop} (hgd : o.guard = none) (s x : Operand) (t : TypeId)
    (ho : o.op = .call { callee := .builtin .append, args := #[s, x], argTypes := #[t, t] })
    (base : Nat) (e : TypeId) (i : TypeInfo) (z : Value) (bytes : Nat) (ht : P.underlying t = some (.slice e)) (hi : P.info? e = some i) (hz : i.zero = some z)
    (hsize : i.size = 1) (hby : i.bytes = bytes) (hzs : z.cells.size = 1) (v : Value) (xs : List α) (hs : a.eval s = v) (hown : Own f w base e v xs)
    (g c : Nat) (y : α) (hx : a.eval x = .slice (some ⟨g, 0, none⟩) 1 c) (hy : w.cell? ⟨g, 0, none⟩ = some (f y)) (h1 : (f y).oneCell' = true)
    (hb0 : 0 < bytes) (hbytes : (xs.length + 1) * bytes ≤ 140737488355328) (hbase : base ≤ w.heap.size)
    (h : ∀ g cap w', Own f w' base e (.slice (some ⟨g, 0, none⟩) (xs ++ [y]).length cap) (xs ++ [y]) → w.grownBy w' v.ownBlock → (v.ownBlock = some g ∨ g = w.heap.size) → K (a.put o.dst (.slice (some ⟨g, 0, none⟩) (xs ++ [y]).length cap)) w') :
    if Region.wanted o (yielded ops a.tmps) = true then Oper.wp P o a w K Q else E := by
  have h63 : xs.length + 1 ≤ maxLen := by
    unfold maxLen
    have := Nat.le_trans (Nat.le_mul_of_pos_right (xs.length + 1) hb0) hbytes
    omega
  refine step_append_lies w hgd s x t ho base e i z 1 bytes ht hi hz hsize hby hzs (by decide) v xs.length (xs.map f) hs hown ⟨g, 0, none⟩ 1 c [f y] hx rfl ?_ (by simpa using h1) (by decide) h63 hbytes hbase _ rfl ?_
  · intro j u hu
    rcases j with _ | j
    · simp at hu; subst hu; exact hy
    · simp at hu
  · intro g' cap w' ho' hg' hat _
    have e1 : (xs ++ [y]).length = xs.length + 1 := by simp
    have := h g' cap w' (by unfold Own; rw [e1]; simpa using ho') hg' hat
    rwa [e1] at this

theorem Below.grownBy {B : Nat} {a w w' : World} {v : Value} (h : Below B a w) (hB : B ≤ a.heap.size) (hg : w.grownBy w' v.ownBlock) (hv : ∀ b, v.ownBlock = some b → B ≤ b) : Below B a w' :=
  ⟨hg.os.trans h.os, hg.tape.trans h.tape, hg.output.trans h.output, Nat.le_trans h.size hg.size, fun k hk => (hg.block k (Nat.lt_of_lt_of_le hk (Nat.le_trans hB h.size)) (fun he => by have := hv k he.symm; omega)).trans (h.block k hk)⟩

/-- The bytes of a number, the low ones first. -/
def bytesN (n : Int) (many : Nat) : List Int := (List.range many).map fun i => n / 2 ^ (8 * i) % 256
theorem bytesN_succ (n : Int) (k : Nat) : bytesN n (k + 1) = bytesN n k ++ [n / 2 ^ (8 * k) % 256] := by simp [bytesN, List.range_succ]
theorem bytesN_length (n : Int) (k : Nat) : (bytesN n k).length = k := by simp [bytesN]

theorem infoU8 : ∃ i, Try.prog.info? 5 = some i ∧ i.zero = some (.int .u8 0) ∧ i.size = 1 ∧ i.bytes = 1 := by
  have h : (Try.prog.info? 5).map (fun i => (i.zero, i.size, i.bytes)) = some (some (.int .u8 0), 1, 1) := by kernel_rfl
  cases hq : Try.prog.info? 5 with
  | none => rw [hq] at h; cases h
  | some i =>
    rw [hq] at h
    simp only [Option.map_some, Option.some.injEq, Prod.mk.injEq] at h
    exact ⟨i, rfl, h⟩

set_option maxRecDepth 100000 in
set_option maxHeartbeats 4000000 in
theorem report_lay (n : Int) (many : Nat) (hm : many ≤ 4) (p : Nat) (v : Value) (xs : List Int) (hl : xs.length ≤ 100000000) (w : World) (hp : Blk w p #[v] 22) (ho : Own (Value.int .u8) w (p + 1) 5 v xs) :
    Calls Try.prog 33 #[.int .i64 n, .int .i64 many, .pointer (some ⟨p, 0, none⟩)] w fun e w' => e = .returned (.tuple #[]) ∧ ∃ v', Blk w' p #[v'] 22 ∧ Own (Value.int .u8) w' (p + 1) 5 v' (xs ++ bytesN n many) ∧ Below p w w' ∧ (∀ b, b < w.heap.size → b ≠ p → some b ≠ v.ownBlock → w'.heap[b]? = w.heap[b]?) ∧ (v'.ownBlock = v.ownBlock ∨ ∃ g, v'.ownBlock = some g ∧ w.heap.size ≤ g) ∧ w.heap.size ≤ w'.heap.size := by
  obtain ⟨inf, hi0, hz0, hz1, hz2⟩ := infoU8
  go_enter Try.func33, Try.ntmps33
  go_wp2
  go_loopw [7] (fun i wr => ∃ k : Nat, k ≤ many ∧ i = .int .i64 k ∧ ∃ v', Blk wr p #[v'] 22 ∧ Own (Value.int .u8) wr (p + 1) 5 v' (xs ++ bytesN n k) ∧ Below p w wr ∧ (∀ b, b < w.heap.size → b ≠ p → some b ≠ v.ownBlock → wr.heap[b]? = w.heap[b]?) ∧ (v'.ownBlock = v.ownBlock ∨ ∃ g, v'.ownBlock = some g ∧ w.heap.size ≤ g) ∧ w.heap.size ≤ wr.heap.size) (fun i _ => 4 - (intOf i).toNat)
  case atStart => exact ⟨0, by omega, rfl, v, hp, by simpa [bytesN] using ho, Below.refl _ _, fun _ _ _ _ => rfl, .inl rfl, Nat.le_refl _⟩
  case round =>
    obtain ⟨k, hk, rfl, v', hp', ho', hb, hkeep, hown, hsz⟩ := hrel
    by_cases hlt : k < many
    · have d1 : decide (k < many) = true := by simpa using hlt
      have c0 : wr.cell? ⟨p, 0, none⟩ = some v' := hp'.cell 0
      have f0 := hp'.free 0
      have x0 : IntKind.i64.wrap (8 * (k : Int)) = 8 * (k : Int) := IntWalk.i64_in _ (by omega)
      go_upto_region 3 with (fail)
      have hy : IntKind.u8.wrap (n / 2 ^ (8 * (k : Int)).toNat) = n / 2 ^ (8 * k) % 256 := by
        rw [show (8 * (k : Int)).toNat = 8 * k by omega]; rfl
      have Hy := Lib.hid hy; clear hy
      have HL := Lib.hid (show ((xs ++ bytesN n k).length + 1) * 1 ≤ 140737488355328 by rw [List.length_append, bytesN_length]; omega)
      have hps := hp'.lt
      have hpos : 0 < (xs ++ bytesN n k ++ [n / 2 ^ (8 * k) % 256]).length := by simp; omega
      have hnb : some p ≠ v'.ownBlock := fun he => by have := ho'.ge p he.symm; omega
      go_region_law (first
        | (refine step_app1 (f := Value.int .u8) rfl _ _ 22 rfl (p + 1) 5 inf (.int .u8 0) 1 Try.underlying22 hi0 hz0 hz1 hz2 rfl v' _ rfl (ho'.alloc _) wr.heap.size 1 (n / 2 ^ (8 * k) % 256) rfl (by rw [← Hy.out]; exact (Blk.new wr.drew _ _).cell 0) rfl (by decide) HL.out (by simp; omega) ?_; intro g1 cap1 w1 hown1 hg1 hat; have hp1 := Blk.grown (Blk.alloc (Blk.drew hp') (Obj.cells #[Value.int IntKind.u8 (IntKind.u8.wrap (n / 2 ^ (8 * (k : Int)).toNat))] 5)) hg1 hnb; have c1 := hp1.cell 0; have f1 := hp1.free 0))
      all_goals
        have hb2 := hb.alloc (Nat.le_trans (Nat.le_of_lt hp.lt) hb.size) (Obj.cells #[Value.int IntKind.u8 (IntKind.u8.wrap (n / 2 ^ (8 * (k : Int)).toNat))] 5)
        have hb1 : Below p w w1 := Below.grownBy (below_drewN hb2 1) (Nat.le_of_lt hp.lt) hg1 (fun b he => by have := ho'.ge b he; omega)
        have hlen : xs.length + ((bytesN n k).length + 1) = (xs ++ bytesN n k ++ [n / 2 ^ (8 * k) % 256]).length := by simp [Nat.add_assoc]
        rw [hlen]
        rw [List.append_assoc, ← bytesN_succ] at hown1 ⊢
        clear hlen hpos hp1 c1 f1 HL Hy
        have hat1 : v'.ownBlock = some g1 ∨ g1 = wr.heap.size + 1 := by simpa using hat
        have hv2 : (Value.slice (some ⟨g1, 0, none⟩) (xs ++ bytesN n (k + 1)).length cap1).ownBlock = some g1 := rfl
        generalize Value.slice (some ⟨g1, 0, none⟩) (xs ++ bytesN n (k + 1)).length cap1 = v2 at hown1 hv2 ⊢
        have hsz1 : w.heap.size ≤ (w1.setCell ⟨p, 0, none⟩ v2).heap.size := by have := hg1.size; simp at this ⊢; omega
        have hown2 : v2.ownBlock = v.ownBlock ∨ ∃ g, v2.ownBlock = some g ∧ w.heap.size ≤ g := by
          rw [hv2]
          rcases hat1 with h | h
          · rcases hown with h2 | ⟨g, h2, h3⟩
            · exact .inl (h ▸ h2)
            · exact .inr ⟨g1, rfl, by rw [h2] at h; cases h; exact h3⟩
          · exact .inr ⟨g1, rfl, by omega⟩
        have hkeep1 : ∀ b, b < w.heap.size → b ≠ p → some b ≠ v.ownBlock → (w1.setCell ⟨p, 0, none⟩ v2).heap[b]? = w.heap[b]? := by
          intro b hb1 hb2 hb3
          have hne : some b ≠ v'.ownBlock := by
            rcases hown with h2 | ⟨g, h2, h3⟩
            · rw [h2]; exact hb3
            · rw [h2]; intro he; cases he; omega
          rw [Below.heap_setCell _ _ _ _ hb2, hg1.block b (by simp; omega) hne]
          refine Eq.trans ?_ (hkeep b hb1 hb2 hb3)
          exact Below.heap_alloc _ _ _ (by omega)
        have hp1 := Blk.set (i := 0) (Blk.grown (Blk.alloc (Blk.drew hp') (Obj.cells #[Value.int IntKind.u8 (IntKind.u8.wrap (n / 2 ^ (8 * (k : Int)).toNat))] 5)) hg1 hnb) v2
        have ho1 := Own.setCell hown1 (p := ⟨p, 0, none⟩) (Nat.lt_succ_self p) v2
        have hb3 := hb1.setCell (p := ⟨p, 0, none⟩) (Nat.le_refl p) v2
        go_wp2
        go_roundw
        case rel => exact ⟨k + 1, by omega, by go_num, _, hp1, ho1, hb3, hkeep1, hown2, hsz1⟩
        case measure => simp [intOf]; omega
    · obtain rfl : k = many := by omega
      have d1 : decide (k < k) = false := by simp
      go_wp2
      exact ⟨rfl, .tuple #[], by first | exact rfl | (unfold results; rfl) | kernel_rfl, rfl, v', hp', ho', hb, hkeep, hown, hsz⟩

end Go.Proofs.Ytbjjjgmcdabkhaa
