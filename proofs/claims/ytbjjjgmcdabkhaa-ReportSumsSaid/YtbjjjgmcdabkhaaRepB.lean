/- Contracts: the program's check sum of a picture. -/
import Derived.Test.YtbjjjgmcdabkhaaRepA
import Derived.Test.YtbjjjgmcdabkhaaPStateSumsx1
namespace Go.Proofs.Ytbjjjgmcdabkhaa
open Go Go.RowKit
set_option linter.unusedSimpArgs false
set_option linter.unusedVariables false

/-- A line as it lies: where, its room, its numbers. -/
abbrev LineV := Option Addr × Nat × List Int
def encL (l : LineV) : Value := .slice l.1 l.2.2.length l.2.1
def lineBytes (xs : List Int) : List Int := xs.flatMap fun c => bytesN c 2
def linesBytes (ls : List LineV) : List Int := ls.flatMap fun l => lineBytes l.2.2
def sampBytes (ss : List (Int × Int)) : List Int := ss.flatMap fun s => bytesN s.1 4 ++ bytesN s.2 4
def frameBytes (ls : List LineV) (ss : List (Int × Int)) : List Int := linesBytes ls ++ sampBytes ss

theorem lineBytes_append (a b : List Int) : lineBytes (a ++ b) = lineBytes a ++ lineBytes b := by simp [lineBytes]
theorem linesBytes_append (a b : List LineV) : linesBytes (a ++ b) = linesBytes a ++ linesBytes b := by simp [linesBytes]
theorem sampBytes_append (a b : List (Int × Int)) : sampBytes (a ++ b) = sampBytes a ++ sampBytes b := by simp [sampBytes]
theorem lineBytes_succ (xs : List Int) (k : Nat) (h : k < xs.length) : lineBytes (xs.take (k + 1)) = lineBytes (xs.take k) ++ bytesN (nth 0 xs k) 2 := by
  rw [take_succ_nth (d := 0) h, lineBytes_append]; simp [lineBytes]
theorem linesBytes_succ (d : LineV) (ls : List LineV) (k : Nat) (h : k < ls.length) : linesBytes (ls.take (k + 1)) = linesBytes (ls.take k) ++ lineBytes (nth d ls k).2.2 := by
  rw [take_succ_nth (d := d) h, linesBytes_append]; simp [linesBytes]
theorem sampBytes_succ (d : Int × Int) (ss : List (Int × Int)) (k : Nat) (h : k < ss.length) : sampBytes (ss.take (k + 1)) = sampBytes (ss.take k) ++ (bytesN (nth d ss k).1 4 ++ bytesN (nth d ss k).2 4) := by
  rw [take_succ_nth (d := d) h, sampBytes_append]; simp [sampBytes]
theorem lineBytes_length (xs : List Int) : (lineBytes xs).length = 2 * xs.length := by
  induction xs with
  | nil => rfl
  | cons x xs ih => simp only [lineBytes, List.flatMap_cons, List.length_append, bytesN_length, List.length_cons] at *; omega
theorem sampBytes_length (ss : List (Int × Int)) : (sampBytes ss).length = 8 * ss.length := by
  induction ss with
  | nil => rfl
  | cons x xs ih => simp only [sampBytes, List.flatMap_cons, List.length_append, bytesN_length, List.length_cons] at *; omega
theorem linesBytes_take_le (ls : List LineV) (k : Nat) : (linesBytes (ls.take k)).length ≤ (linesBytes ls).length := by
  have h := linesBytes_append (ls.take k) (ls.drop k)
  rw [List.take_append_drop] at h
  rw [h, List.length_append]; omega

/-- Pairs of numbers that lie one behind the other. -/
def Sl2At (w : World) (a : Option Addr) (ss : List (Int × Int)) : Prop :=
  ∀ i, i < ss.length → ∃ ad, a = some ad ∧ w.cell? (ad.add (i * 2)) = some (.int .i64 (nth (0, 0) ss i).1) ∧ w.cell? ((ad.add (i * 2)).add 1) = some (.int .i64 (nth (0, 0) ss i).2)
theorem Sl2At.below {w w' : World} {a : Option Addr} {ss : List (Int × Int)} (h : Sl2At w a ss) (hb : Below w.heap.size w w') : Sl2At w' a ss := by
  intro i hi
  obtain ⟨ad, e, h1, h2⟩ := h i hi
  exact ⟨ad, e, by rw [hb.cell (World.block_lt_of_cell? w _ h1)]; exact h1, by rw [hb.cell (World.block_lt_of_cell? w _ h2)]; exact h2⟩

/-- The lines, all of them. -/
structure FrameAt (w : World) (a : Option Addr) (ls : List LineV) (a2 : Option Addr) (ss : List (Int × Int)) : Prop where
  lines : SlAt encL (none, 0, []) w a ls
  each : ∀ l ∈ ls, SlAt (Value.int .i64) 0 w l.1 l.2.2
  long : ∀ l ∈ ls, l.2.2.length ≤ 140737488355328
  samples : Sl2At w a2 ss
theorem FrameAt.below {w w' : World} {a : Option Addr} {ls : List LineV} {a2 : Option Addr} {ss : List (Int × Int)} (h : FrameAt w a ls a2 ss) (hb : Below w.heap.size w w') : FrameAt w' a ls a2 ss :=
  ⟨h.lines.below hb, fun l hl => (h.each l hl).below hb, h.long, h.samples.below hb⟩

theorem Blk.under {B : Nat} {w w' : World} {b : Nat} {cs : Array Value} {t : TypeId} (h : Blk w b cs t) (hb : Below B w w') (hlt : b < B) : Blk w' b cs t := by
  unfold Blk at *; rw [hb.block b hlt]; exact h

set_option maxRecDepth 100000 in
set_option maxHeartbeats 4000000 in
theorem report_Picture_bytes (a a2 : Option Addr) (c c2 : Nat) (ls : List LineV) (ss : List (Int × Int)) (w : World) (F : FrameAt w a ls a2 ss) (hT : (frameBytes ls ss).length ≤ 90000) (hls : ls.length ≤ 90000) (r : Int)
    (hsum : ∀ (g : Option Addr) (cp : Nat) (wx : World), (frameBytes ls ss).length ≤ cp → SlAt (Value.int .u8) 0 wx g (frameBytes ls ss) → Calls Try.prog 11 #[.slice g (frameBytes ls ss).length cp] wx fun e w' => e = .returned (.int .i64 r) ∧ ∃ n, w' = wx.drewN n) :
    Calls Try.prog 22 #[.agg #[.slice a ls.length c, .slice a2 ss.length c2]] w fun e w' => e = .returned (.int .i64 r) ∧ Below w.heap.size w w' := by
  have hT2 : (linesBytes ls).length + 8 * ss.length ≤ 90000 := by unfold frameBytes at hT; rw [List.length_append, sampBytes_length] at hT; exact hT
  go_enter Try.func22, Try.ntmps22
  go_wp2
  have q0 : Blk ((w.alloc (Obj.cells #[Value.slice a ls.length c, Value.slice a2 ss.length c2] 52)).alloc (Obj.cells #[Value.slice none 0 0] 22)) w.heap.size #[Value.slice a ls.length c, Value.slice a2 ss.length c2] 52 := Blk.alloc (Blk.new _ _ _) _
  have q1 : Blk ((w.alloc (Obj.cells #[Value.slice a ls.length c, Value.slice a2 ss.length c2] 52)).alloc (Obj.cells #[Value.slice none 0 0] 22)) (w.heap.size + 1) #[Value.slice none 0 0] 22 := Blk.new' _ _ _ (by simp)
  have q2 : Below w.heap.size w ((w.alloc (Obj.cells #[Value.slice a ls.length c, Value.slice a2 ss.length c2] 52)).alloc (Obj.cells #[Value.slice none 0 0] 22)) := ((Below.refl _ _).alloc (Nat.le_refl _) _).alloc (by simp) _
  have qo : Own (Value.int .u8) ((w.alloc (Obj.cells #[Value.slice a ls.length c, Value.slice a2 ss.length c2] 52)).alloc (Obj.cells #[Value.slice none 0 0] 22)) (w.heap.size + 1 + 1) 5 (.slice none 0 0) (linesBytes (ls.take 0)) := ⟨rfl, .inl ⟨rfl, rfl⟩⟩
  generalize (w.alloc _).alloc _ = W at *
  go_loopw [15] (fun i wr => ∃ k : Nat, k ≤ ls.length ∧ i = .int .i64 k ∧ ∃ v, Blk wr w.heap.size #[Value.slice a ls.length c, Value.slice a2 ss.length c2] 52 ∧ Blk wr (w.heap.size + 1) #[v] 22 ∧ Own (Value.int .u8) wr (w.heap.size + 1 + 1) 5 v (linesBytes (ls.take k)) ∧ Below w.heap.size w wr) (fun i _ => ls.length - (intOf i).toNat)
  case atStart => exact ⟨0, by omega, rfl, _, q0, q1, qo, q2⟩
  case round =>
    obtain ⟨k, hk, rfl, v, b0, b1, ho, hb⟩ := hrel
    by_cases hlt : k < ls.length
    · have d1 : decide (k < ls.length) = true := by simpa using hlt
      have FL := F.below hb
      obtain ⟨ad, rfl, g0⟩ := FL.lines.atN k hlt
      unfold encL at g0
      have he := FL.each _ (nth_mem hlt (d := (none, 0, [])))
      have hlen := FL.long _ (nth_mem hlt (d := (none, 0, [])))
      have hS := linesBytes_succ (none, 0, []) ls k hlt
      have hle := linesBytes_take_le ls (k + 1)
      rw [hS, List.length_append, lineBytes_length] at hle
      have i1 : (k : Int) < (ls.length : Int) := by omega
      generalize hL : nth ((none, 0, []) : LineV) ls k = L at *
      obtain ⟨al, cl, xs⟩ := L
      simp only at g0 he hlen hS hle
      have HS := Lib.hid hS; clear hS
      go_wp2
      go_loopw [21] (fun j wj => ∃ m : Nat, m ≤ xs.length ∧ j = .int .i64 m ∧ ∃ v, Blk wj w.heap.size #[Value.slice (some ad) ls.length c, Value.slice a2 ss.length c2] 52 ∧ Blk wj (w.heap.size + 1) #[v] 22 ∧ Own (Value.int .u8) wj (w.heap.size + 1 + 1) 5 v (linesBytes (ls.take k) ++ lineBytes (xs.take m)) ∧ Below w.heap.size w wj) (fun j _ => xs.length - (intOf j).toNat)
      case atStart => exact ⟨0, by omega, rfl, v, b0, b1, by simpa [lineBytes] using ho, hb⟩
      case round =>
        obtain ⟨m, hm, rfl, v', b0', b1', ho', hb'⟩ := hrel
        by_cases hlt2 : m < xs.length
        · have d2 : decide (m < xs.length) = true := by simpa using hlt2
          have FL' := F.below hb'
          obtain ⟨ad2, rfl, g2⟩ := (FL'.each _ (show _ ∈ ls from hL ▸ nth_mem hlt)).atN m hlt2
          have i2 : (m : Int) < (xs.length : Int) := by omega
          have hl2 : (linesBytes (ls.take k) ++ lineBytes (xs.take m)).length ≤ 100000000 := by
            rw [List.length_append, lineBytes_length, List.length_take]; omega
          have hB2 := lineBytes_succ xs m hlt2
          have HB2 := Lib.hid hB2; clear hB2
          go_wp2_with fail
          refine (report_lay (nth 0 xs m) 2 (by omega) (w.heap.size + 1) v' _ hl2 _ b1' ho').mono ?_
          rintro e w1 ⟨rfl, v1, b1a, oa, hba, _, _, _⟩
          have b0a := b0'.under hba (Nat.lt_succ_self _)
          have hbb := hb'.trans (hba.mono (Nat.le_succ _))
          rw [List.append_assoc, ← HB2.out] at oa
          go_wp2
          go_roundw
          case rel => exact ⟨m + 1, by omega, by go_num, v1, b0a, b1a, oa, hbb⟩
          case measure => simp [intOf]; omega
        · obtain rfl : m = xs.length := by omega
          have d2 : decide (xs.length < xs.length) = false := by simp
          rw [List.take_length, ← HS.out] at ho'
          go_wp2
          go_roundw
          case rel => exact ⟨k + 1, by omega, by go_num, v', b0', b1', ho', hb'⟩
          case measure => simp [intOf]; omega
    · obtain rfl : k = ls.length := by omega
      have d1 : decide (ls.length < ls.length) = false := by simp
      rw [List.take_length] at ho
      have c1 := b0.cell 1
      simp only [List.getElem?_toArray, List.getElem?_cons_zero, List.getElem?_cons_succ] at c1
      go_wp2
      go_loopw [33] (fun i wr => ∃ k : Nat, k ≤ ss.length ∧ i = .int .i64 k ∧ ∃ v, Blk wr (w.heap.size + 1) #[v] 22 ∧ Own (Value.int .u8) wr (w.heap.size + 1 + 1) 5 v (linesBytes ls ++ sampBytes (ss.take k)) ∧ Below w.heap.size w wr) (fun i _ => ss.length - (intOf i).toNat)
      case atStart => exact ⟨0, by omega, rfl, v, b1, by simpa [sampBytes] using ho, hb⟩
      case round =>
        clear b1 ho hb b0 c1
        obtain ⟨k, hk, rfl, v, b1, ho, hb⟩ := hrel
        by_cases hlt : k < ss.length
        · have d1 : decide (k < ss.length) = true := by simpa using hlt
          obtain ⟨ad, rfl, g0, g1⟩ := (F.below hb).samples k hlt
          have i1 : (k : Int) < (ss.length : Int) := by omega
          rw [show (ad.add (k * 2)).add 1 = ⟨(ad.add (k * 2)).block, (ad.add (k * 2)).off + 1, none⟩ from by unfold Addr.add; simp] at g1
          have hB := sampBytes_succ (0, 0) ss k hlt
          generalize (nth (0, 0) ss k).1 = n1 at *
          generalize (nth (0, 0) ss k).2 = n2 at *
          have HB := Lib.hid hB; clear hB
          go_wp2_with fail
          have bn : Blk (wr.alloc (Obj.cells #[Value.int IntKind.i64 n1, Value.int IntKind.i64 n2] 34)) wr.heap.size #[Value.int IntKind.i64 n1, Value.int IntKind.i64 n2] 34 := Blk.new _ _ _
          have hbn := hb.alloc hb.size (Obj.cells #[Value.int IntKind.i64 n1, Value.int IntKind.i64 n2] 34)
          have hlt1 := b1.lt
          have hl1 : (linesBytes ls ++ sampBytes (ss.take k)).length ≤ 100000000 := by rw [List.length_append, sampBytes_length, List.length_take]; omega
          have hl2 : ((linesBytes ls ++ sampBytes (ss.take k)) ++ bytesN n1 4).length ≤ 100000000 := by rw [List.length_append, List.length_append, sampBytes_length, bytesN_length, List.length_take]; omega
          have hol := World.ownsRow.lt ho
          refine (report_lay n1 4 (by omega) (w.heap.size + 1) v _ hl1 _ (Blk.alloc b1 _) (ho.alloc _)).mono ?_
          rintro e w1 ⟨rfl, v1, p1, o1, hb1, hk1, how1, hs1⟩
          have bn1 : Blk w1 wr.heap.size #[Value.int IntKind.i64 n1, Value.int IntKind.i64 n2] 34 := by
            unfold Blk
            rw [hk1 wr.heap.size (by simp) (by omega) (fun he => by have := (hol _ he.symm).2; omega)]
            exact bn
          have c1 := bn1.cell 1
          simp only [List.getElem?_toArray, List.getElem?_cons_zero, List.getElem?_cons_succ] at c1
          replace hb1 := hbn.trans (hb1.mono (Nat.le_succ _))
          clear bn1 bn hk1 how1 hs1 hol hbn
          go_wp2_with fail
          refine (report_lay n2 4 (by omega) (w.heap.size + 1) v1 _ hl2 _ p1 o1).mono ?_
          rintro e w2 ⟨rfl, v2, p2, o2, hb2, _, _, _⟩
          replace hb2 := hb1.trans (hb2.mono (Nat.le_succ _))
          rw [List.append_assoc, List.append_assoc, ← HB.out] at o2
          go_wp2
          go_roundw
          case rel => exact ⟨k + 1, by omega, by go_num, v2, p2, o2, hb2⟩
          case measure => simp [intOf]; omega
        · obtain rfl : k = ss.length := by omega
          have d1 : decide (ss.length < ss.length) = false := by simp
          rw [List.take_length, show linesBytes ls ++ sampBytes ss = frameBytes ls ss from rfl] at ho
          clear hT2
          generalize frameBytes ls ss = fb at *
          have c1 := b1.cell 0
          simp only [List.getElem?_toArray, List.getElem?_cons_zero, List.getElem?_cons_succ] at c1
          obtain ⟨g, cp, rfl, hcp, _, S⟩ := Own.sl (d := 0) ho
          go_wp2_with fail
          refine (hsum g cp _ hcp S).mono ?_
          rintro e w1 ⟨rfl, n, rfl⟩
          go_wp2
          exact ⟨rfl, .int .i64 r, by first | exact rfl | kernel_rfl, rfl, below_drewN hb n⟩

end Go.Proofs.Ytbjjjgmcdabkhaa
