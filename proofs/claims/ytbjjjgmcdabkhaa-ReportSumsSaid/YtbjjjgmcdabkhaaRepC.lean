/- Contracts: the reference's check sum of a picture. -/
import Derived.Test.YtbjjjgmcdabkhaaRepB
namespace Go.Proofs.Ytbjjjgmcdabkhaa
open Go Go.RowKit
set_option linter.unusedSimpArgs false
set_option linter.unusedVariables false

/-- 'append(out, x, y, ..)': elements of one cell, out of a block made for them. -/
theorem wpList_appL {P : Program} {α : Type} {f : α → Value} {w : World} {ops : Array Oper} {rest : List Oper} {o : Oper} {a : Act} {Q : Exit → Act → World → Prop} (hgd : o.guard = none) (s x : Operand) (t : TypeId)
    (ho : o.op = .call { callee := .builtin .append, args := #[s, x], argTypes := #[t, t] })
    (base : Nat) (e : TypeId) (i : TypeInfo) (z : Value) (bytes : Nat) (ht : P.underlying t = some (.slice e)) (hi : P.info? e = some i) (hz : i.zero = some z)
    (hsize : i.size = 1) (hby : i.bytes = bytes) (hzs : z.cells.size = 1) (v : Value) (xs : List α) (hs : a.eval s = v) (hown : Own f w base e v xs)
    (g m c : Nat) (ys : List α) (hm : ys.length = m) (hx : a.eval x = .slice (some ⟨g, 0, none⟩) m c) (ty : TypeId) (hy : BlkL f w g ys ty) (h1 : ∀ y ∈ ys, (f y).oneCell' = true)
    (hb0 : 0 < bytes) (hbytes : (xs.length + m) * bytes ≤ 140737488355328) (hbase : base ≤ w.heap.size)
    (h : ∀ v' w', Own f w' base e v' (xs ++ ys) → w.grownBy w' v.ownBlock → wpList P ops Q rest (a.put o.dst v') w') : wpList P ops Q (o :: rest) a w := by
  have h63 : xs.length + m ≤ maxLen := by
    unfold maxLen
    have := Nat.le_trans (Nat.le_mul_of_pos_right (xs.length + m) hb0) hbytes
    omega
  refine wpList_append_own w hgd s x t ho base e i z 1 bytes ht hi hz hsize hby hzs (by decide) v xs.length (xs.map f) hs hown ⟨g, 0, none⟩ m c (ys.map f) hx (by simp [hm]) ?_ ?_ h63 hbytes hbase ?_
  · intro j u hu
    have hadd : (⟨g, 0, none⟩ : Addr).add j = ⟨g, j, none⟩ := by unfold Addr.add; split <;> simp_all
    rw [hadd, Blk.cell hy]
    simpa using hu
  · intro u hu
    obtain ⟨y, hy, rfl⟩ := List.mem_map.1 hu
    exact h1 y hy
  · intro v' w' ho' hg' _
    exact h v' w' (by unfold Own; rw [List.length_append, hm, List.map_append]; exact ho') hg'

theorem bytesN_2 (n : Int) : bytesN n 2 = [n % 256, n / 256 % 256] := by
  rw [bytesN_succ, bytesN_succ]; simp [bytesN]
theorem bytesN_4 (n : Int) : bytesN n 4 = [n % 256, n / 256 % 256, n / 65536 % 256, n / 16777216 % 256] := by
  rw [bytesN_succ, bytesN_succ, bytesN_succ, bytesN_succ]; simp [bytesN]
theorem blk_bytes2 (w : World) (n : Int) {g : Nat} (hg : g = w.heap.size) : BlkL (Value.int .u8) (w.alloc (.cells #[.int .u8 (n % 256), .int .u8 (n / 256 % 256)] 5)) g (bytesN n 2) 5 := by
  rw [bytesN_2]; exact Blk.new' _ _ _ hg
theorem blk_bytes4 (w : World) (n : Int) {g : Nat} (hg : g = w.heap.size) : BlkL (Value.int .u8) (w.alloc (.cells #[.int .u8 (n % 256), .int .u8 (n / 256 % 256), .int .u8 (n / 65536 % 256), .int .u8 (n / 16777216 % 256)] 5)) g (bytesN n 4) 5 := by
  rw [bytesN_4]; exact Blk.new' _ _ _ hg

/-- The bytes of the first k numbers of a pair. -/
def pairBytes (n1 n2 : Int) (k : Nat) : List Int := if k = 0 then [] else if k = 1 then bytesN n1 4 else bytesN n1 4 ++ bytesN n2 4
theorem pairBytes_le (n1 n2 : Int) (k : Nat) : (pairBytes n1 n2 k).length ≤ 8 := by
  unfold pairBytes
  split
  · simp
  · split
    · rw [bytesN_length]; omega
    · rw [List.length_append, bytesN_length, bytesN_length]; omega
theorem pairBytes_0 (n1 n2 : Int) : pairBytes n1 n2 0 ++ bytesN n1 4 = pairBytes n1 n2 1 := by simp [pairBytes]
theorem pairBytes_1 (n1 n2 : Int) : pairBytes n1 n2 1 ++ bytesN n2 4 = pairBytes n1 n2 2 := by simp [pairBytes]
theorem pairBytes_2 (n1 n2 : Int) : pairBytes n1 n2 2 = bytesN n1 4 ++ bytesN n2 4 := by simp [pairBytes]

set_option maxRecDepth 100000 in
set_option maxHeartbeats 4000000 in
theorem ref28_Picture_bytes (a a2 : Option Addr) (c c2 : Nat) (ls : List LineV) (ss : List (Int × Int)) (w : World) (F : FrameAt w a ls a2 ss) (hT : (frameBytes ls ss).length ≤ 90000) (hls : ls.length ≤ 90000) (r : Int)
    (hsum : ∀ (g : Option Addr) (cp : Nat) (wx : World), (frameBytes ls ss).length ≤ cp → SlAt (Value.int .u8) 0 wx g (frameBytes ls ss) → Calls Try.prog 12 #[.slice g (frameBytes ls ss).length cp] wx fun e w' => e = .returned (.int .i64 r) ∧ ∃ n, w' = wx.drewN n) :
    Calls Try.prog 23 #[.slice a ls.length c, .slice a2 ss.length c2] w fun e w' => e = .returned (.int .i64 r) ∧ Below w.heap.size w w' := by
  have hT2 : (linesBytes ls).length + 8 * ss.length ≤ 90000 := by unfold frameBytes at hT; rw [List.length_append, sampBytes_length] at hT; exact hT
  obtain ⟨inf, hi0, hz0, hz1, hz2⟩ := infoU8
  go_enter Try.func23, Try.ntmps23
  go_wp2
  go_loopw [5, 6] (fun v i wr => ∃ k : Nat, k ≤ ls.length ∧ i = .int .i64 k ∧ Own (Value.int .u8) wr w.heap.size 5 v (linesBytes (ls.take k)) ∧ Below w.heap.size w wr) (fun _ i _ => ls.length - (intOf i).toNat)
  case atStart => exact ⟨0, by omega, rfl, ⟨rfl, .inl ⟨rfl, rfl⟩⟩, Below.refl _ _⟩
  case round =>
    obtain ⟨k, hk, rfl, ho, hb⟩ := hrel
    by_cases hlt : k < ls.length
    · have d1 : decide (k < ls.length) = true := by simpa using hlt
      have FL := F.below hb
      obtain ⟨ad, rfl, g0⟩ := FL.lines.atN k hlt
      unfold encL at g0
      have he := FL.each _ (nth_mem hlt (d := (none, 0, [])))
      have hlen := FL.long _ (nth_mem hlt (d := (none, 0, [])))
      have hS := linesBytes_succ (none, 0, []) ls k hlt
      have hle := linesBytes_take_le ls (k + 1)
      rw [hS, List.length_append, lineBytes_length] at hle
      have i1 : (k : Int) < (ls.length : Int) := by omega
      generalize hL : nth ((none, 0, []) : LineV) ls k = L at *
      obtain ⟨al, cl, xs⟩ := L
      simp only at g0 he hlen hS hle
      have HS := Lib.hid hS; clear hS
      go_wp2
      go_loopw [5, 7] (fun v j wj => ∃ m : Nat, m ≤ xs.length ∧ j = .int .i64 m ∧ Own (Value.int .u8) wj w.heap.size 5 v (linesBytes (ls.take k) ++ lineBytes (xs.take m)) ∧ Below w.heap.size w wj) (fun _ j _ => xs.length - (intOf j).toNat)
      case atStart => exact ⟨0, by omega, rfl, by simpa [lineBytes] using ho, hb⟩
      case round =>
        clear g0
        obtain ⟨m, hm, rfl, ho', hb'⟩ := hrel
        have FL' := F.below hb'
        obtain ⟨ad', e1, g0⟩ := FL'.lines.atN k hlt
        cases e1
        rw [hL] at g0; unfold encL at g0; simp only at g0
        by_cases hlt2 : m < xs.length
        · have d2 : decide (m < xs.length) = true := by simpa using hlt2
          obtain ⟨ad2, rfl, g2⟩ := (FL'.each _ (show _ ∈ ls from hL ▸ nth_mem hlt)).atN m hlt2
          have i2 : (m : Int) < (xs.length : Int) := by omega
          have hl2 : ((linesBytes (ls.take k) ++ lineBytes (xs.take m)).length + 2) * 1 ≤ 140737488355328 := by
            rw [List.length_append, lineBytes_length, List.length_take]; omega
          have HL := Lib.hid hl2; clear hl2
          have hB2 := lineBytes_succ xs m hlt2
          have HB2 := Lib.hid hB2; clear hB2
          generalize nth 0 xs m = n1 at *
          go_wp2_with (at_builtin; refine wpList_appL (f := Value.int .u8) rfl _ _ 22 rfl w.heap.size 5 inf (.int .u8 0) 1 Try.underlying22 hi0 hz0 hz1 hz2 rfl _ _ rfl (ho'.alloc _) wr.heap.size 2 2 (bytesN n1 2) (bytesN_length _ _) rfl 5 (blk_bytes2 wr n1 rfl) (fun _ _ => rfl) (by decide) HL.out (by simp; have := hb'.size; omega) ?_; intro v1 w1 hown1 hg1)
          have hb1 : Below w.heap.size w w1 := Below.grownBy (hb'.alloc hb'.size _) (Nat.le_refl _) hg1 (Own.ge ho')
          rw [List.append_assoc, ← HB2.out] at hown1
          go_roundw
          case rel => exact ⟨m + 1, by omega, by go_num, hown1, hb1⟩
          case measure => simp [intOf]; omega
        · obtain rfl : m = xs.length := by omega
          have d2 : decide (xs.length < xs.length) = false := by simp
          rw [List.take_length, ← HS.out] at ho'
          go_wp2
          go_roundw
          case rel => exact ⟨k + 1, by omega, by go_num, ho', hb'⟩
          case measure => simp [intOf]; omega
    · obtain rfl : k = ls.length := by omega
      have d1 : decide (ls.length < ls.length) = false := by simp
      rw [List.take_length] at ho
      have hb0 := hb; clear hb
      go_wp2
      go_loopw [5, 9] (fun v i wr => ∃ k : Nat, k ≤ ss.length ∧ i = .int .i64 k ∧ Own (Value.int .u8) wr w.heap.size 5 v (linesBytes ls ++ sampBytes (ss.take k)) ∧ Below w.heap.size w wr) (fun _ i _ => ss.length - (intOf i).toNat)
      case atStart => exact ⟨0, by omega, rfl, by simpa [sampBytes] using ho, hb0⟩
      case round =>
        clear ho hb0
        obtain ⟨k, hk, rfl, ho, hb⟩ := hrel
        by_cases hlt : k < ss.length
        · have d1 : decide (k < ss.length) = true := by simpa using hlt
          have i1 : (k : Int) < (ss.length : Int) := by omega
          have hB := sampBytes_succ (0, 0) ss k hlt
          generalize hn1 : (nth (0, 0) ss k).1 = n1 at *
          generalize hn2 : (nth (0, 0) ss k).2 = n2 at *
          have HB := Lib.hid hB; clear hB
          go_wp2
          go_loopw [5, 10] (fun v j wj => ∃ m : Nat, m ≤ 2 ∧ j = .int .i64 m ∧ Own (Value.int .u8) wj w.heap.size 5 v (linesBytes ls ++ sampBytes (ss.take k) ++ pairBytes n1 n2 m) ∧ Below w.heap.size w wj) (fun _ j _ => 2 - (intOf j).toNat)
          case atStart => exact ⟨0, by omega, rfl, by simpa [pairBytes] using ho, hb⟩
          case round =>
            clear ho hb
            obtain ⟨m, hm, rfl, ho, hb⟩ := hrel
            obtain ⟨ad, rfl, g0, g1⟩ := (F.below hb).samples k hlt
            rw [show (ad.add (k * 2)).add 1 = ⟨(ad.add (k * 2)).block, (ad.add (k * 2)).off + 1, none⟩ from by unfold Addr.add; simp] at g1
            rw [hn1] at g0; rw [hn2] at g1
            have hl2 : ((linesBytes ls ++ sampBytes (ss.take k) ++ pairBytes n1 n2 m).length + 4) * 1 ≤ 140737488355328 := by
              have := pairBytes_le n1 n2 m
              rw [List.length_append, List.length_append, sampBytes_length, List.length_take]; omega
            have HL := Lib.hid hl2; clear hl2
            rcases (show m = 0 ∨ m = 1 ∨ m = 2 by omega) with rfl | rfl | rfl
            · go_wp2_with (at_builtin; refine wpList_appL (f := Value.int .u8) rfl _ _ 22 rfl w.heap.size 5 inf (.int .u8 0) 1 Try.underlying22 hi0 hz0 hz1 hz2 rfl _ _ rfl (ho.alloc _) wr.heap.size 4 4 (bytesN n1 4) (bytesN_length _ _) rfl 5 (blk_bytes4 wr n1 rfl) (fun _ _ => rfl) (by decide) HL.out (by simp; have := hb.size; omega) ?_; intro v1 w1 hown1 hg1)
              have hb1 : Below w.heap.size w w1 := Below.grownBy (hb.alloc hb.size _) (Nat.le_refl _) hg1 (Own.ge ho)
              rw [List.append_assoc, pairBytes_0] at hown1
              go_roundw
              case rel => exact ⟨0 + 1, by omega, by go_num, hown1, hb1⟩
              case measure => simp [intOf]
            · go_wp2_with (at_builtin; refine wpList_appL (f := Value.int .u8) rfl _ _ 22 rfl w.heap.size 5 inf (.int .u8 0) 1 Try.underlying22 hi0 hz0 hz1 hz2 rfl _ _ rfl (ho.alloc _) wr.heap.size 4 4 (bytesN n2 4) (bytesN_length _ _) rfl 5 (blk_bytes4 wr n2 rfl) (fun _ _ => rfl) (by decide) HL.out (by simp; have := hb.size; omega) ?_; intro v1 w1 hown1 hg1)
              have hb1 : Below w.heap.size w w1 := Below.grownBy (hb.alloc hb.size _) (Nat.le_refl _) hg1 (Own.ge ho)
              rw [List.append_assoc, pairBytes_1] at hown1
              go_roundw
              case rel => exact ⟨1 + 1, by omega, by go_num, hown1, hb1⟩
              case measure => simp [intOf]
            · rw [List.append_assoc, pairBytes_2, ← HB.out] at ho
              go_wp2
              go_roundw
              case rel => exact ⟨k + 1, by omega, by go_num, ho, hb⟩
              case measure => simp [intOf]; omega
        · obtain rfl : k = ss.length := by omega
          have d1 : decide (ss.length < ss.length) = false := by simp
          rw [List.take_length, show linesBytes ls ++ sampBytes ss = frameBytes ls ss from rfl] at ho
          clear hT2
          generalize frameBytes ls ss = fb at *
          obtain ⟨g, cp, rfl, hcp, _, S⟩ := Own.sl (d := 0) ho
          go_wp2_with fail
          refine (hsum g cp _ hcp S).mono ?_
          rintro e w1 ⟨rfl, n, rfl⟩
          go_wp2
          exact ⟨rfl, .int .i64 r, by first | exact rfl | kernel_rfl, rfl, below_drewN hb n⟩

end Go.Proofs.Ytbjjjgmcdabkhaa
