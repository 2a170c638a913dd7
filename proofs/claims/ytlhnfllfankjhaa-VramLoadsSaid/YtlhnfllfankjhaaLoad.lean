/- Contracts: video memory made of words and ports. -/
import Derived.Test.YtlhnfllfankjhaaVramE
import Derived.Test.YtlhnfllfankjhaaRn
import Derived.Maps.AppendAt
import Derived.Deep.LoopGhost
namespace Go.Proofs.Ytlhnfllfankjhaa
open Go Go.RowKit
set_option linter.unusedSimpArgs false
set_option linter.unusedVariables false
set_option maxRecDepth 100000

/-- Is it a word? -/
def isW (x : Int) : Bool := x == x % 65536
/-- What 'Load' asks. -/
def mayLoad (xs ps : List Int) : Bool := (decide ((xs.length : Int) = 32768) && nth 0 ps 3 == nth 0 ps 3 % 256) && xs.all isW && ps.all isW
theorem all_take_succ (xs : List Int) (k : Nat) (hk : k < xs.length) : (xs.take (k + 1)).all isW = ((xs.take k).all isW && isW (nth 0 xs k)) := by
  rw [take_succ_nth 0 hk, List.all_append]; simp

theorem infoIntE : ∃ i, Try.prog.info? 3 = some i ∧ i.zero = some (.int .i64 0) ∧ i.size = 1 ∧ i.bytes = 8 := by
  have h : (Try.prog.info? 3).map (fun i => (i.zero, i.size, i.bytes)) = some (some (.int .i64 0), 1, 8) := by kernel_rfl
  cases hq : Try.prog.info? 3 with
  | none => rw [hq] at h; cases h
  | some i =>
    rw [hq] at h
    simp only [Option.map_some, Option.some.injEq, Prod.mk.injEq] at h
    exact ⟨i, rfl, h⟩
theorem isW_range {x : Int} (h : isW x = true) : 0 ≤ x ∧ x < 65536 := by
  have : x = x % 65536 := by simpa [isW] using h
  omega
theorem mayLoad_ok {xs : List Int} {q0 q1 q2 q3 q4 : Int} (h : mayLoad xs [q0, q1, q2, q3, q4] = true) : xs.length = 32768 ∧ (VS.mk xs q0 q1 q2 q3 q4).Ok := by
  unfold mayLoad at h
  simp only [Bool.and_eq_true, decide_eq_true_eq, beq_iff_eq, List.all_cons, List.all_nil, and_true] at h
  obtain ⟨⟨⟨h1, h2⟩, h3⟩, h4, h5, h6, h7, h8⟩ := h
  have e2 : q3 = q3 % 256 := h2
  have hl : xs.length = 32768 := by omega
  refine ⟨hl, hl, fun i => ?_, isW_range h4, isW_range h5, isW_range h6, by show 0 ≤ q3 ∧ q3 < 256; omega, isW_range h8⟩
  show 0 ≤ nth 0 xs i ∧ nth 0 xs i < 65536
  by_cases hi : i < xs.length
  · exact isW_range (List.all_eq_true.1 h3 _ (nth_mem hi))
  · rw [nth_ge (by omega)]; decide

/-- 'append', by its run. -/
theorem lUpon_append {P : Program} {o : Oper} {a : Act} {w w2 : World} {D : World → Prop} {v : Value} (s x : Operand) (t : TypeId) (ho : o.op = .call { callee := .builtin .append, args := #[s, x], argTypes := #[t, t] })
    (v0 v1 : Value) (hs : a.eval s = v0) (hx : a.eval x = v1) (hrun : (Builtin.append_ #[t, t] o.type #[v0, v1]).run P w = .ok v w2) (h : D w2) : lUpon P D v ((execOp a.eval o).run P w) := by
  simp [execOp, ho, resolve, invoke, builtin, hs, hx, hrun, Result.andThen, lUpon]
  exact h

set_option maxHeartbeats 8000000 in
theorem vram_Load (a : Option Addr) (c : Nat) (xs : List Int) (q0 q1 q2 q3 q4 : Int) (w : World) (S : SlAt (Value.int .i64) 0 w a xs) (hl : xs.length ≤ 1000000) :
    Calls Try.prog 49 #[.slice a xs.length c, .agg #[.int .i64 q0, .int .i64 q1, .int .i64 q2, .int .i64 q3, .int .i64 q4]] w fun e w' => Below w.heap.size w w' ∧
      (mayLoad xs [q0, q1, q2, q3, q4] = false → e = .returned (.tuple #[.pointer none, .bool false])) ∧
      (mayLoad xs [q0, q1, q2, q3, q4] = true → ∃ p g, e = .returned (.tuple #[.pointer (some ⟨p, 0, none⟩), .bool true]) ∧ VAt 69 w' p g ⟨xs, q0, q1, q2, q3, q4⟩ ∧ w.heap.size ≤ p ∧ w.heap.size ≤ g) := by
  go_enter Try.func49, Try.ntmps49
  go_upto_region 1 with (fail)
  have A0 := Blk.new w #[Value.int .i64 q0, Value.int .i64 q1, Value.int .i64 q2, Value.int .i64 q3, Value.int .i64 q4] 75
  have B0 := (Below.refl w.heap.size w).alloc (Nat.le_refl _) (Obj.cells #[Value.int .i64 q0, Value.int .i64 q1, Value.int .i64 q2, Value.int .i64 q3, Value.int .i64 q4] 75)
  have z3 := A0.cell 3
  simp only [List.getElem?_toArray, List.getElem?_cons_zero, List.getElem?_cons_succ] at z3
  have l0 := A0.lt
  generalize (w.alloc (Obj.cells #[Value.int .i64 q0, Value.int .i64 q1, Value.int .i64 q2, Value.int .i64 q3, Value.int .i64 q4] 75)) = w0 at *
  go_cut [6] (fun s6 wx => s6 = .bool (decide ((xs.length : Int) = 32768) && q3 == q3 % 256) ∧ Blk wx w.heap.size #[Value.int .i64 q0, Value.int .i64 q1, Value.int .i64 q2, Value.int .i64 q3, Value.int .i64 q4] 75 ∧ Below w.heap.size w wx)
  case first =>
    by_cases hlen : (xs.length : Int) = 32768
    · go_quiet ((go_at_call 71; exact quiet_same (bits_Byte _ _)))
      go_wp2_with fail
      go_meet
      exact ⟨by rw [decide_eq_true hlen, Bool.true_and], A0.drewN _, below_drewN B0 _⟩
    · have hl2 : decide ((xs.length : Int) = 32768) = false := decide_eq_false hlen
      have hl3 : ((xs.length : Int) == 32768) = false := by simp; omega
      go_quiet ((go_at_call 71; exact quiet_same (bits_Byte _ _)))
      go_wp2_with fail
      go_meet
      exact ⟨by rw [hl2, Bool.false_and], A0.drewN _, below_drewN B0 _⟩
  case rest =>
    clear A0 B0 z3 l0
    obtain ⟨rfl, A, B⟩ := hcut
    have hR : mayLoad xs [q0, q1, q2, q3, q4] = ((decide ((xs.length : Int) = 32768) && q3 == q3 % 256) && xs.all isW && [q0, q1, q2, q3, q4].all isW) := rfl
    have HR := Lib.hid hR
    clear hR
    generalize (decide ((xs.length : Int) = 32768) && q3 == q3 % 256) = R0 at *
    have l0 := A.lt
    have B1 := B.alloc B.size (Obj.cells #[Value.slice a xs.length c, Value.slice (some ⟨w.heap.size, 0, none⟩) 5 5] 22)
    have Z := Blk.new wc #[Value.slice a xs.length c, Value.slice (some ⟨w.heap.size, 0, none⟩) 5 5] 22
    have z0 := Z.cell 0
    have z1 := Z.cell 1
    simp only [List.getElem?_toArray, List.getElem?_cons_zero, List.getElem?_cons_succ] at z0 z1
    have A1 := A.alloc (Obj.cells #[Value.slice a xs.length c, Value.slice (some ⟨w.heap.size, 0, none⟩) 5 5] 22)
    have S1 := S.below B1
    go_wp2_with fail
    clear A B Z
    generalize wc.alloc (Obj.cells #[Value.slice a xs.length c, Value.slice (some ⟨w.heap.size, 0, none⟩) 5 5] 22) = w4 at *
    go_loopw [6, 26] (fun b i wr => ∃ k : Nat, k ≤ 2 ∧ i = .int .i64 k ∧ (k = 0 → b = .bool R0) ∧ (k = 1 → b = .bool (R0 && xs.all isW)) ∧ (k = 2 → b = .bool (mayLoad xs [q0, q1, q2, q3, q4])) ∧ w4 = wr) (fun _ i _ => 2 - (intOf i).toNat)
    case atStart => exact ⟨0, by omega, rfl, fun _ => rfl, fun h => by omega, fun h => by omega, rfl⟩
    case round =>
      obtain ⟨k, hk, rfl, h0, h1, h2, rfl⟩ := hrel
      rcases (show k = 0 ∨ k = 1 ∨ k = 2 by omega) with rfl | rfl | rfl
      · obtain rfl := h0 rfl
        clear h0 h1 h2
        go_wp2_with fail
        go_loopw [6, 32] (fun b i wr => ∃ j : Nat, j ≤ xs.length ∧ i = .int .i64 j ∧ b = .bool (R0 && (xs.take j).all isW) ∧ w4 = wr) (fun _ i _ => xs.length - (intOf i).toNat)
        case atStart => exact ⟨0, by omega, rfl, by simp, rfl⟩
        case round =>
          obtain ⟨j, hj, rfl, rfl, rfl⟩ := hrel
          by_cases hlt : j < xs.length
          · have i1 : (j : Int) < (xs.length : Int) := by omega
            obtain ⟨ad, rfl, g0⟩ := S1.atN j hlt
            have hs := all_take_succ xs j (by first | exact hlt | (simp; omega))
            have HS := Lib.hid hs
            clear hs
            cases hb : (R0 && (xs.take j).all isW)
            · have HB := Lib.hid hb
              clear hb
              go_wp2
              go_roundw
              case rel => exact ⟨j + 1, by omega, rfl, by rw [HS.out, ← Bool.and_assoc, HB.out, Bool.false_and], trivial⟩
              case measure => simp [intOf]; omega
            · have HB := Lib.hid hb
              clear hb
              go_wp2_with fail
              refine (bits_Word _ _).mono ?_; rintro e w' ⟨rfl, rfl⟩
              go_wp2
              go_roundw
              case rel =>
                refine ⟨_, _, _, _, _, _, _, _, _, _, _, _, _, _, ?_, rfl⟩
                exact ⟨j + 1, by omega, rfl, by rw [HS.out, ← Bool.and_assoc, HB.out, Bool.true_and]; rfl, trivial⟩
              case measure => simp [intOf]; omega
          · obtain rfl : j = xs.length := by omega
            rw [List.take_length]
            go_wp2
            go_roundw
            case rel => exact ⟨1, by omega, rfl, fun h => by omega, fun _ => rfl, fun h => by omega, trivial⟩
            case measure => simp [intOf]
      · obtain rfl := h1 rfl
        clear h0 h1 h2
        go_wp2_with fail
        go_loopw [6, 32] (fun b i wr => ∃ j : Nat, j ≤ 5 ∧ i = .int .i64 j ∧ b = .bool ((R0 && xs.all isW) && ([q0, q1, q2, q3, q4].take j).all isW) ∧ w4 = wr) (fun _ i _ => 5 - (intOf i).toNat)
        case atStart => exact ⟨0, by omega, rfl, by simp, rfl⟩
        case round =>
          obtain ⟨j, hj, rfl, rfl, rfl⟩ := hrel
          by_cases hlt : j < 5
          · have i1 : (j : Int) < (5 : Int) := by omega
            have g0 := BlkL.at (xs := [q0, q1, q2, q3, q4]) (t := 75) A1 (i := j) hlt
            have hs := all_take_succ [q0, q1, q2, q3, q4] j (by first | exact hlt | (simp; omega))
            have HS := Lib.hid hs
            clear hs
            cases hb : ((R0 && xs.all isW) && ([q0, q1, q2, q3, q4].take j).all isW)
            · have HB := Lib.hid hb
              clear hb
              go_wp2
              go_roundw
              case rel => exact ⟨j + 1, by omega, rfl, by rw [HS.out, ← Bool.and_assoc, HB.out, Bool.false_and], trivial⟩
              case measure => simp [intOf]; omega
            · have HB := Lib.hid hb
              clear hb
              go_wp2_with fail
              refine (bits_Word _ _).mono ?_; rintro e w' ⟨rfl, rfl⟩
              go_wp2
              go_roundw
              case rel =>
                refine ⟨_, _, _, _, _, _, _, _, _, _, _, _, _, _, ?_, rfl⟩
                exact ⟨j + 1, by omega, rfl, by rw [HS.out, ← Bool.and_assoc, HB.out, Bool.true_and]; rfl, trivial⟩
              case measure => simp [intOf]; omega
          · obtain rfl : j = 5 := by omega
            rw [show [q0, q1, q2, q3, q4].take 5 = [q0, q1, q2, q3, q4] from rfl, ← HR.out]
            go_wp2
            go_roundw
            case rel => exact ⟨2, by omega, rfl, fun h => by omega, fun h => by omega, fun _ => rfl, trivial⟩
            case measure => simp [intOf]
      · obtain rfl := h2 rfl
        clear h0 h1 h2
        cases hM : mayLoad xs [q0, q1, q2, q3, q4]
        · go_wp2
          exact ⟨rfl, _, by first | exact rfl | (unfold results; rfl) | kernel_rfl, B1, fun _ => rfl, fun h => by rw [hM] at h; cases h⟩
        · obtain ⟨hlen, hok⟩ := mayLoad_ok hM
          obtain ⟨ad, rfl, _⟩ := S1.atN 0 (by omega)
          go_wp2_with fail
          obtain ⟨inf, hi0, hz0, hz1, hz2⟩ := infoIntE
          obtain ⟨v', w2, hrun, hown, hgrow, _, hat⟩ := run_append_own_at (P := Try.prog) (w4.drew.alloc (Obj.cells #[] 3)) w4.heap.size 22 22 3 inf (.int .i64 0) 1 8 Try.underlying22 hi0 hz0 hz1 hz2 rfl (by decide)
            (.slice (some ⟨w4.heap.size, 0, none⟩) 0 0) 0 [] ⟨rfl, .inr ⟨w4.heap.size, 0, #[], rfl, Nat.le_refl _, Blk.new w4.drew #[] 3, Nat.le_refl _, Nat.zero_le _, rfl, rfl⟩⟩
            ad xs.length c (xs.map (Value.int .i64)) (by simp) (by
              intro j u hu
              rw [List.getElem?_map] at hu
              have hj : j < xs.length := by
                rcases Nat.lt_or_ge j xs.length with h | h
                · exact h
                · rw [List.getElem?_eq_none h] at hu; cases hu
              obtain ⟨ad', e', g0⟩ := (S1.below ((Below.refl _ _).drew.alloc (Nat.le_refl _) (Obj.cells #[] 3))).atN j hj
              obtain rfl := Option.some.inj e'
              rw [List.getElem?_eq_getElem hj] at hu
              rw [nth_lt hj] at g0
              exact g0.trans hu) (by intro u hu; obtain ⟨x, _, rfl⟩ := List.mem_map.1 hu; rfl) (by unfold maxLen; omega) (by omega) (by simp)
          rw [Nat.zero_add, List.nil_append] at hown
          obtain ⟨_, hv⟩ := hown
          rcases hv with ⟨_, h0⟩ | ⟨g, cap, cur, rfl, hg, hcur, hcl, hcm, hcs, htake⟩
          · omega
          have hg1 : g = w4.heap.size ∨ g = w4.heap.size + 1 := by
            rcases hat with h | h
            · left; simpa [Value.ownBlock] using h
            · right; simpa [Value.ownBlock] using h
          have hs1 : w4.heap.size + 1 ≤ w2.heap.size := by have := hgrow.size; simpa using this
          have hb2 : Below w4.heap.size w4 w2 := by
            have h1 : Below w4.heap.size w4 (w4.drew.alloc (Obj.cells #[] 3)) := (Below.refl _ _).drew.alloc (Nat.le_refl _) _
            exact ⟨hgrow.os.trans h1.os, hgrow.tape.trans h1.tape, hgrow.output.trans h1.output, by omega, fun k hk => (hgrow.block k (by simp; omega) (by simp [Value.ownBlock]; omega)).trans (h1.block k hk)⟩
          have hX : VAt 69 (w2.alloc (Obj.cells ((VS.mk xs q0 q1 q2 q3 q4).cells g (32768 + (cur.toList.drop 32768).length)) 69)) w2.heap.size g (VS.mk xs q0 q1 q2 q3 q4) := by
            have hgl : g < w2.heap.size := Blk.lt (cs := cur) (t := 3) hcur
            refine ⟨⟨cur.toList.drop 32768, Blk.new _ _ _, Blk.alloc ?_ _⟩, hok, by omega⟩
            show w2.heap[g]? = _
            rw [hcur, ← hlen]
            congr 2
            apply Array.ext'
            rw [Nat.mul_one] at htake
            rw [← htake, List.take_append_drop]
          have hcap : 32768 + (cur.toList.drop 32768).length = cap := by
            rw [List.length_drop, Array.length_toList, hcs]; omega
          rw [hcap] at hX
          have hb3 := hb2.alloc hb2.size (Obj.cells ((VS.mk xs q0 q1 q2 q3 q4).cells g cap) 69)
          have lA := A1.lt
          obtain ⟨D, e0, e1, e2, e2', e3⟩ : ∃ D : Nat → World → Prop, (∀ w', D 0 w' ↔ w' = w4.drew) ∧ (∀ w', D 1 w' ↔ w' = w4.drew.alloc (Obj.cells #[] 3)) ∧ (∀ w', D 2 w' ↔ w' = w2) ∧ (∀ w', D 3 w' ↔ w' = w2) ∧
              (∀ w', D 4 w' ↔ w' = w2.alloc (Obj.cells ((VS.mk xs q0 q1 q2 q3 q4).cells g cap) 69)) :=
            ⟨fun m w' => match m with
              | 0 => w' = w4.drew
              | 1 => w' = w4.drew.alloc (Obj.cells #[] 3)
              | 2 => w' = w2
              | 3 => w' = w2
              | _ => w' = w2.alloc (Obj.cells ((VS.mk xs q0 q1 q2 q3 q4).cells g cap) 69), fun _ => Iff.rfl, fun _ => Iff.rfl, fun _ => Iff.rfl, fun _ => Iff.rfl, fun _ => Iff.rfl⟩
          have hP : ∀ m w', m ≤ 4 → D m w' → w'.cell? ⟨w.heap.size, 0, none⟩ = some (.int .i64 q0) ∧ w'.cell? ⟨w.heap.size, 1, none⟩ = some (.int .i64 q1) ∧ w'.cell? ⟨w.heap.size, 2, none⟩ = some (.int .i64 q2) ∧ w'.cell? ⟨w.heap.size, 3, none⟩ = some (.int .i64 q3) ∧ w'.cell? ⟨w.heap.size, 4, none⟩ = some (.int .i64 q4) := by
            intro m w' hm hd
            have hbl : Below w4.heap.size w4 w' := by
              rcases (show m = 0 ∨ m = 1 ∨ m = 2 ∨ m = 3 ∨ m = 4 by omega) with rfl | rfl | rfl | rfl | rfl
              · rw [(e0 w').1 hd]; exact (Below.refl _ _).drew
              · rw [(e1 w').1 hd]; exact (Below.refl _ _).drew.alloc (Nat.le_refl _) _
              · rw [(e2 w').1 hd]; exact hb2
              · rw [(e2' w').1 hd]; exact hb2
              · rw [(e3 w').1 hd]; exact hb3
            have A2 := Blk.below A1 hbl
            exact ⟨A2.cell 0, A2.cell 1, A2.cell 2, A2.cell 3, A2.cell 4⟩
          have HP := Lib.hid hP
          clear hP
          refine wp_region_n [0, 2, 13, 14] D (by kernel_rfl) (by kernel_rfl) (by kernel_rfl) (by kernel_rfl) ((e0 _).2 rfl) ?_
          refine wpN_turn 0 rfl (by decide) rfl (by kernel_rfl) ⟨.slice (some ⟨w4.heap.size, 0, none⟩) 0 0, fun wq hq => ?_, ?_⟩
          · obtain rfl := (e0 wq).1 hq
            first | (go_simp; done) | (go_simp; exact ⟨(e1 _).2 rfl, rfl⟩) | (go_simp; exact (e1 _).2 rfl)
          simp only [Act.put, List.setIfInBounds_toArray, List.set_cons_zero, List.set_cons_succ]
          iterate 1
            (refine wpN_other rfl (by decide) (fun K hK => ?_)
             apply Exists.intro
             refine ⟨fun m wq hm hq => ?_, hK _ ?_⟩
             · obtain ⟨t0, t1, t2, t3, t4⟩ := HP.out m wq hm hq
               go_simp
               first | exact rfl | exact ⟨rfl, rfl⟩ | exact ⟨hq, rfl⟩
             clear hK K
             simp only [Act.put, List.setIfInBounds_toArray, List.set_cons_zero, List.set_cons_succ])
          refine wpN_turn 1 rfl (by decide) rfl (by kernel_rfl) ⟨.slice (some ⟨g, 0, none⟩) xs.length cap, fun wq hq => ?_, ?_⟩
          · obtain rfl := (e1 wq).1 hq
            exact lUpon_append (.tmp 47) (.tmp 48) 22 rfl (.slice (some ⟨w4.heap.size, 0, none⟩) 0 0) (.slice (some ad) xs.length c) rfl (by go_simp) hrun ((e2 _).2 rfl)
          simp only [Act.put, List.setIfInBounds_toArray, List.set_cons_zero, List.set_cons_succ]
          iterate 10
            (refine wpN_other rfl (by decide) (fun K hK => ?_)
             apply Exists.intro
             refine ⟨fun m wq hm hq => ?_, hK _ ?_⟩
             · obtain ⟨t0, t1, t2, t3, t4⟩ := HP.out m wq hm hq
               go_simp
               first | exact rfl | exact ⟨rfl, rfl⟩ | exact ⟨hq, rfl⟩
             clear hK K
             simp only [Act.put, List.setIfInBounds_toArray, List.set_cons_zero, List.set_cons_succ])
          refine wpN_turn 2 rfl (by decide) rfl (by kernel_rfl) ⟨.agg ((VS.mk xs q0 q1 q2 q3 q4).cells g cap), fun wq hq => ?_, ?_⟩
          · obtain rfl := (e2 wq).1 hq
            unfold VS.cells
            rw [← hlen]
            first | (go_simp; done) | (go_simp; exact ⟨(e2' _).2 rfl, rfl⟩) | (go_simp; exact (e2' _).2 rfl)
          simp only [Act.put, List.setIfInBounds_toArray, List.set_cons_zero, List.set_cons_succ]
          refine wpN_turn 3 rfl (by decide) rfl (by kernel_rfl) ⟨.pointer (some ⟨w2.heap.size, 0, none⟩), fun wq hq => ?_, ?_⟩
          · obtain rfl := (e2' wq).1 hq
            go_simp
          simp only [Act.put, List.setIfInBounds_toArray, List.set_cons_zero, List.set_cons_succ]
          iterate 2
            (refine wpN_other rfl (by decide) (fun K hK => ?_)
             apply Exists.intro
             refine ⟨fun m wq hm hq => ?_, hK _ ?_⟩
             · obtain ⟨t0, t1, t2, t3, t4⟩ := HP.out m wq hm hq
               go_simp
               first | exact rfl | exact ⟨rfl, rfl⟩ | exact ⟨hq, rfl⟩
             clear hK K
             simp only [Act.put, List.setIfInBounds_toArray, List.set_cons_zero, List.set_cons_succ])
          intro w' hw'
          obtain rfl := (e3 w').1 hw'
          go_wp2
          exact ⟨rfl, .tuple #[.pointer (some ⟨w2.heap.size, 0, none⟩), .bool true], by first | exact rfl | (unfold results; rfl) | kernel_rfl, B1.trans (hb3.mono B1.size), fun h => (by rw [hM] at h; cases h), fun _ => ⟨_, _, rfl, hX, by have := B1.size; omega, by have := B1.size; omega⟩⟩
end Go.Proofs.Ytlhnfllfankjhaa
