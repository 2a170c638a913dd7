/- Contracts of the program's functions, and what they rest on, part 1: each function's call returns what its plain form says; no condition but those typed. -/
import Derived.WalkKit
import Derived.Test.YtnllkgjmoipgbaaGreatDoorRows
import Derived.Deep.QuietTactic
import Derived.BigQuiet
import Derived.Lib.Hide
import Derived.Lib.SmallJoins
import Derived.Deep.DeepCutAuto
import Derived.Deep.LoopGhost
import Derived.OpenShut
import Derived.ProofKit
import Derived.SizedLaws
import Derived.Deep.RegionHeld3
import Derived.Deep.DrawnRows
import Derived.Deep.MidRow
import Derived.Below
import Derived.Still
import Derived.StillTail
import Derived.Laws.Rows
import Derived.Laws.ResultCell
import Derived.Laws.Tables
import Derived.StillTailTactics
import Derived.WalkSpells
import Derived.Laws.CopyOwn
import Derived.Deep.OwnRows
import Derived.Deep.RegionLaw
-- Ints
namespace Go.Proofs.YtnllkgjmoipgbaaGreatDoor
open Go Go.RowKit

theorem w64_in {n : Int} (h : -9223372036854775808 ≤ n ∧ n ≤ 9223372036854775807) : wrap64 n = n := by unfold wrap64; omega
theorem w64_mod (n k : Int) (hk : k ∣ 18446744073709551616) : wrap64 n % k = n % k := by
  unfold wrap64
  have e : (n + 9223372036854775808) % 18446744073709551616 = (n + 9223372036854775808) - 18446744073709551616 * ((n + 9223372036854775808) / 18446744073709551616) := by omega
  rw [e]
  obtain ⟨c, hc⟩ := hk
  rw [show n + 9223372036854775808 - 18446744073709551616 * ((n + 9223372036854775808) / 18446744073709551616) - 9223372036854775808 = n - k * (c * ((n + 9223372036854775808) / 18446744073709551616)) from by rw [hc, Int.mul_assoc]; omega]
  exact Int.sub_mul_emod_self_left ..
theorem w64_range (n : Int) : -9223372036854775808 ≤ wrap64 n ∧ wrap64 n ≤ 9223372036854775807 := by unfold wrap64; omega

theorem ofInt64_toNat (a : Int) (h0 : 0 ≤ a) (h1 : a < 18446744073709551616) : (BitVec.ofInt 64 a).toNat = a.toNat := by
  rw [BitVec.toNat_ofInt]; congr 1; omega

theorem and_mask (k : Nat) (hk : k ≤ 62) (n m : Int) (hm : m = 2 ^ k - 1) : bits .and .i64 n m = n % 2 ^ k := by
  subst hm
  have hp : (2 : Nat) ^ k ≤ 2 ^ 62 := Nat.pow_le_pow_right (by omega) hk
  have hp1 : 0 < (2 : Nat) ^ k := Nat.pos_of_ne_zero (by simp)
  have cst : ((2 : Int) ^ k) = ((2 ^ k : Nat) : Int) := by simp
  have h127 : (BitVec.ofInt 64 ((2 : Int) ^ k - 1)).toNat = 2 ^ k - 1 := by
    rw [cst, ofInt64_toNat _ (by omega) (by omega)]; omega
  have key : (BitVec.ofInt 64 n &&& BitVec.ofInt 64 ((2 : Int) ^ k - 1)).toNat = (n % ((2 ^ 64 : Nat) : Int)).toNat % 2 ^ k := by
    rw [BitVec.toNat_and, BitVec.toNat_ofInt, h127, Nat.and_two_pow_sub_one_eq_mod]
  show IntKind.i64.wrap ((BitVec.ofInt 64 n &&& BitVec.ofInt 64 ((2 : Int) ^ k - 1)).toNat : Nat) = n % 2 ^ k
  rw [key, IntKind.wrap_i64]
  have hlt : (n % ((2 ^ 64 : Nat) : Int)).toNat % 2 ^ k < 2 ^ k := Nat.mod_lt _ hp1
  have e2 : (((n % ((2 ^ 64 : Nat) : Int)).toNat % 2 ^ k : Nat) : Int) = n % 2 ^ k := by
    rw [Int.natCast_emod, Int.toNat_of_nonneg (Int.emod_nonneg _ (by decide)), ← cst]
    rw [Int.emod_emod_of_dvd]
    have : (2 : Int) ^ 64 = 2 ^ k * 2 ^ (64 - k) := by rw [← Int.pow_add]; congr 1; omega
    exact ⟨2 ^ (64 - k), by simpa using this⟩
  rw [← e2]
  omega

theorem and_1 (n : Int) : bits .and .i64 n 1 = n % 2 := and_mask 1 (by omega) n 1 (by decide)
theorem and_3 (n : Int) : bits .and .i64 n 3 = n % 4 := and_mask 2 (by omega) n 3 (by decide)
theorem and_7 (n : Int) : bits .and .i64 n 7 = n % 8 := and_mask 3 (by omega) n 7 (by decide)
theorem and_15 (n : Int) : bits .and .i64 n 15 = n % 16 := and_mask 4 (by omega) n 15 (by decide)
theorem and_31 (n : Int) : bits .and .i64 n 31 = n % 32 := and_mask 5 (by omega) n 31 (by decide)
theorem and_63 (n : Int) : bits .and .i64 n 63 = n % 64 := and_mask 6 (by omega) n 63 (by decide)
theorem and_127 (n : Int) : bits .and .i64 n 127 = n % 128 := and_mask 7 (by omega) n 127 (by decide)
theorem and_255 (n : Int) : bits .and .i64 n 255 = n % 256 := and_mask 8 (by omega) n 255 (by decide)
theorem and_511 (n : Int) : bits .and .i64 n 511 = n % 512 := and_mask 9 (by omega) n 511 (by decide)
theorem and_1023 (n : Int) : bits .and .i64 n 1023 = n % 1024 := and_mask 10 (by omega) n 1023 (by decide)
theorem and_2047 (n : Int) : bits .and .i64 n 2047 = n % 2048 := and_mask 11 (by omega) n 2047 (by decide)
theorem and_4095 (n : Int) : bits .and .i64 n 4095 = n % 4096 := and_mask 12 (by omega) n 4095 (by decide)
theorem and_8191 (n : Int) : bits .and .i64 n 8191 = n % 8192 := and_mask 13 (by omega) n 8191 (by decide)
theorem and_16383 (n : Int) : bits .and .i64 n 16383 = n % 16384 := and_mask 14 (by omega) n 16383 (by decide)
theorem and_32767 (n : Int) : bits .and .i64 n 32767 = n % 32768 := and_mask 15 (by omega) n 32767 (by decide)
theorem and_65535 (n : Int) : bits .and .i64 n 65535 = n % 65536 := and_mask 16 (by omega) n 65535 (by decide)

attribute [go_sem] and_1 and_3 and_7 and_15 and_31 and_63 and_127 and_255 and_511 and_1023 and_2047 and_4095 and_8191 and_16383 and_32767 and_65535

/-- Of numbers from 0 on: as natural numbers. -/
theorem bits_nat (a b : Int) (ha0 : 0 ≤ a) (ha : a < 9223372036854775808) (hb0 : 0 ≤ b) (hb : b < 9223372036854775808) :
    bits .and .i64 a b = ((a.toNat &&& b.toNat : Nat) : Int) ∧ bits .or .i64 a b = ((a.toNat ||| b.toNat : Nat) : Int) ∧ bits .xor .i64 a b = ((a.toNat ^^^ b.toNat : Nat) : Int) := by
  have h1 := ofInt64_toNat a ha0 (by omega)
  have h2 := ofInt64_toNat b hb0 (by omega)
  have e1 : a.toNat < 2 ^ 63 := by omega
  have e2 : b.toNat < 2 ^ 63 := by omega
  refine ⟨?_, ?_, ?_⟩
  · show IntKind.i64.wrap ((BitVec.ofInt 64 a &&& BitVec.ofInt 64 b).toNat : Nat) = _
    rw [BitVec.toNat_and, h1, h2, IntKind.wrap_i64]
    have : a.toNat &&& b.toNat < 2 ^ 63 := Nat.and_lt_two_pow _ e2
    omega
  · show IntKind.i64.wrap ((BitVec.ofInt 64 a ||| BitVec.ofInt 64 b).toNat : Nat) = _
    rw [BitVec.toNat_or, h1, h2, IntKind.wrap_i64]
    have : a.toNat ||| b.toNat < 2 ^ 63 := Nat.or_lt_two_pow e1 e2
    omega
  · show IntKind.i64.wrap ((BitVec.ofInt 64 a ^^^ BitVec.ofInt 64 b).toNat : Nat) = _
    rw [BitVec.toNat_xor, h1, h2, IntKind.wrap_i64]
    have : a.toNat ^^^ b.toNat < 2 ^ 63 := Nat.xor_lt_two_pow e1 e2
    omega

theorem and_range (n m : Int) (h0 : 0 ≤ m) (h1 : m < 9223372036854775808) : 0 ≤ bits .and .i64 n m ∧ bits .and .i64 n m ≤ m := by
  have h2 := ofInt64_toNat m h0 (by omega)
  have e : bits .and .i64 n m = IntKind.i64.wrap ((BitVec.ofInt 64 n &&& BitVec.ofInt 64 m).toNat : Nat) := rfl
  have hle : (BitVec.ofInt 64 n &&& BitVec.ofInt 64 m).toNat ≤ m.toNat := by
    rw [BitVec.toNat_and, h2]; exact Nat.and_le_right
  rw [e, IntKind.wrap_i64]
  omega

theorem or_comm64 (a b : Int) : bits .or .i64 a b = bits .or .i64 b a := by simp only [bits, BitVec.or_comm]
theorem or_zero64 (a : Int) (h : -9223372036854775808 ≤ a ∧ a ≤ 9223372036854775807) : bits .or .i64 a 0 = a := by
  show IntKind.i64.wrap ((BitVec.ofInt 64 a ||| BitVec.ofInt 64 0).toNat : Nat) = _
  rw [show BitVec.ofInt 64 0 = 0#64 from rfl, BitVec.or_zero, BitVec.toNat_ofInt, IntKind.wrap_i64]
  omega

/-- What ends in k bits of 0, or less than 2^k: their sum. -/
theorem or_join64 (k : Nat) (a b : Int) (ha0 : 0 ≤ a) (ha : a < 9223372036854775808) (hb0 : 0 ≤ b) (hb : b < 2 ^ k) (hk : k ≤ 62) (hd : a % 2 ^ k = 0) : bits .or .i64 a b = a + b := by
  have hp : (2 : Nat) ^ k ≤ 2 ^ 62 := Nat.pow_le_pow_right (by omega) hk
  have cst : ((2 : Int) ^ k) = ((2 ^ k : Nat) : Int) := by simp
  rw [cst] at hb hd
  rw [(bits_nat a b ha0 ha hb0 (by omega)).2.1]
  obtain ⟨x, rfl⟩ := Int.eq_ofNat_of_zero_le ha0
  obtain ⟨y, rfl⟩ := Int.eq_ofNat_of_zero_le hb0
  simp only [Int.toNat_natCast]
  rw [nat_join k x y (by exact_mod_cast hd) (by exact_mod_cast hb)]
  simp

end Go.Proofs.YtnllkgjmoipgbaaGreatDoor
-- Base
namespace Go.Proofs.YtnllkgjmoipgbaaGreatDoor
open Go Go.RowKit

theorem quiet_same {P : Program} {f : FuncId} {args : Array Value} {w : World} {n : Nat} {v : Value}
    (h : Calls P f args (w.drewN n) fun e w' => e = .returned v ∧ w.drewN n = w') : Calls P f args (w.drewN n) fun e w'' => e = .returned v ∧ ∃ m, w'' = w.drewN m :=
  h.mono fun _ _ ⟨he, hm⟩ => ⟨he, n, hm.symm⟩

theorem ret_int {k : IntKind} {a b : Int} (h : a = b) : Ending.returned (.int k a) = .returned (.int k b) := by rw [h]
theorem ret_bool {a b : Bool} (h : a = b) : Ending.returned (.bool a) = .returned (.bool b) := by rw [h]
theorem tup2 {k k' : IntKind} {a b c d : Int} (h : a = c) (h' : b = d) : Ending.returned (.tuple #[.int k a, .int k' b]) = .returned (.tuple #[.int k c, .int k' d]) := by rw [h, h']

theorem below_drewN {B : Nat} {a w : World} (h : Below B a w) (n : Nat) : Below B a (w.drewN n) := ⟨h.os, h.tape, h.output, h.size, h.block⟩
theorem below_alloc' {B : Nat} {a w : World} (h : Below B a w) (o : Obj) (hB : B ≤ w.heap.size) : Below B a (w.alloc o) := h.alloc hB o
/-- What was there before a call that leaves all that was there, is there behind it. -/
theorem bcell {W w1 : World} (hb : Below W.heap.size W w1) : (∀ b o, b < W.heap.size → w1.cell? ⟨b, o, none⟩ = W.cell? ⟨b, o, none⟩) ∧ (∀ b o, b < W.heap.size → w1.frozen? ⟨b, o, none⟩ = W.frozen? ⟨b, o, none⟩) :=
  ⟨fun b o h => hb.cell (p := ⟨b, o, none⟩) h, fun b o h => hb.frozen (p := ⟨b, o, none⟩) h⟩

/-- A block as it is: its cells; they may be written. -/
def Blk (w : World) (b : Nat) (cs : Array Value) (t : TypeId) : Prop := w.heap[b]? = some (.cells cs t (0, 0))
theorem Blk.lt {w : World} {b : Nat} {cs : Array Value} {t : TypeId} (h : Blk w b cs t) : b < w.heap.size := by
  unfold Blk at h
  rcases Nat.lt_or_ge b w.heap.size with hl | hl
  · exact hl
  · rw [Array.getElem?_eq_none hl] at h; cases h
theorem Blk.cell {w : World} {b : Nat} {cs : Array Value} {t : TypeId} (h : Blk w b cs t) (i : Nat) : w.cell? ⟨b, i, none⟩ = cs[i]? := by simp [World.cell?, show w.heap[b]? = _ from h]
theorem Blk.free {w : World} {b : Nat} {cs : Array Value} {t : TypeId} (h : Blk w b cs t) (i : Nat) : w.frozen? ⟨b, i, none⟩ = false := by simp [World.frozen?, show w.heap[b]? = _ from h]
theorem Blk.new (w : World) (cs : Array Value) (t : TypeId) : Blk (w.alloc (.cells cs t)) w.heap.size cs t := by unfold Blk; show (w.heap.push _)[w.heap.size]? = _; simp
theorem Blk.alloc {w : World} {b : Nat} {cs : Array Value} {t : TypeId} (h : Blk w b cs t) (o : Obj) : Blk (w.alloc o) b cs t := by
  have hl := h.lt
  unfold Blk at *; rw [Below.heap_alloc _ _ _ hl]; exact h
theorem Blk.drewN {w : World} {b : Nat} {cs : Array Value} {t : TypeId} (h : Blk w b cs t) (n : Nat) : Blk (w.drewN n) b cs t := h
theorem Blk.drew {w : World} {b : Nat} {cs : Array Value} {t : TypeId} (h : Blk w b cs t) : Blk w.drew b cs t := h
theorem Blk.below {w w' : World} {b : Nat} {cs : Array Value} {t : TypeId} (h : Blk w b cs t) (hb : Below w.heap.size w w') : Blk w' b cs t := by
  have hl := h.lt
  unfold Blk at *; rw [hb.block b hl]; exact h
theorem Blk.set {w : World} {b i : Nat} {cs : Array Value} {t : TypeId} (h : Blk w b cs t) (v : Value) : Blk (w.setCell ⟨b, i, none⟩ v) b (cs.setIfInBounds i v) t := Go.Joins.block_setCell h v
theorem Blk.other {w : World} {b i b' : Nat} {cs : Array Value} {t : TypeId} (h : Blk w b cs t) (v : Value) (hne : b ≠ b') : Blk (w.setCell ⟨b', i, none⟩ v) b cs t := by
  unfold Blk at *; rw [Below.heap_setCell _ _ _ _ hne]; exact h

theorem Blk.grown {w w' : World} {b : Nat} {cs : Array Value} {t : TypeId} {row : Option Nat} (h : Blk w b cs t) (hg : w.grownBy w' row) (hne : some b ≠ row) : Blk w' b cs t := by
  have hl := h.lt
  unfold Blk at *; rw [hg.block b hl hne]; exact h

/-- A slice of the call's own: its elements, each of one cell. -/
def Own {α : Type} (f : α → Value) (w : World) (base : Nat) (e : TypeId) (v : Value) (xs : List α) : Prop := w.ownsRow base e 1 v xs.length (xs.map f)
theorem own_block_ge {w : World} {base : Nat} {e : TypeId} {size n : Nat} {v : Value} {xs : List Value} (h : w.ownsRow base e size v n xs) : ∀ b, v.ownBlock = some b → base ≤ b := by
  rcases h with ⟨_, ⟨rfl, _⟩ | ⟨g, cap, cur, rfl, hb, _⟩⟩
  · intro b hb; simp [Value.ownBlock] at hb
  · intro b hb'; simp [Value.ownBlock] at hb'; omega
theorem Own.ge {α : Type} {f : α → Value} {w : World} {base : Nat} {e : TypeId} {v : Value} {xs : List α} (h : Own f w base e v xs) : ∀ b, v.ownBlock = some b → base ≤ b := own_block_ge h

theorem Own.alloc {α : Type} {f : α → Value} {w : World} {base : Nat} {e : TypeId} {v : Value} {xs : List α} (h : Own f w base e v xs) (o : Obj) : Own f (w.alloc o) base e v xs := World.ownsRow.alloc h o
theorem Own.drewN {α : Type} {f : α → Value} {w : World} {base : Nat} {e : TypeId} {v : Value} {xs : List α} (h : Own f w base e v xs) (n : Nat) : Own f (w.drewN n) base e v xs := h

/-- 'append(out, x)': one element of one cell, onto a slice of the call's own. -/
theorem wpList_app1 {P : Program} {α : Type} {f : α → Value} {w : World} {ops : Array Oper} {rest : List Oper} {o : Oper} {a : Act} {Q : Exit → Act → World → Prop} (hgd : o.guard = none) (s x : Operand) (t : TypeId)
    (ho : o.op = .call { callee := .builtin .append, args := #[s, x], argTypes := #[t, t] })
    (base : Nat) (e : TypeId) (i : TypeInfo) (z : Value) (bytes : Nat) (ht : P.underlying t = some (.slice e)) (hi : P.info? e = some i) (hz : i.zero = some z)
    (hsize : i.size = 1) (hby : i.bytes = bytes) (hzs : z.cells.size = 1) (v : Value) (xs : List α) (hs : a.eval s = v) (hown : Own f w base e v xs)
    (g c : Nat) (y : α) (hx : a.eval x = .slice (some ⟨g, 0, none⟩) 1 c) (hy : w.cell? ⟨g, 0, none⟩ = some (f y)) (h1 : (f y).oneCell' = true)
    (hb0 : 0 < bytes) (hbytes : (xs.length + 1) * bytes ≤ 140737488355328) (hbase : base ≤ w.heap.size)
    (h : ∀ v' w', Own f w' base e v' (xs ++ [y]) → w.grownBy w' v.ownBlock → wpList P ops Q rest (a.put o.dst v') w') : wpList P ops Q (o :: rest) a w := by
  have h63 : xs.length + 1 ≤ maxLen := by
    unfold maxLen
    have := Nat.le_trans (Nat.le_mul_of_pos_right (xs.length + 1) hb0) hbytes
    omega
  refine wpList_append_own w hgd s x t ho base e i z 1 bytes ht hi hz hsize hby hzs (by decide) v xs.length (xs.map f) hs hown ⟨g, 0, none⟩ 1 c [f y] hx rfl ?_ (by simpa using h1) h63 hbytes hbase ?_
  · intro j u hu
    rcases j with _ | j
    · simp at hu; subst hu; exact hy
    · simp at hu
  · intro v' w' ho' hg' _
    exact h v' w' (by unfold Own; simpa using ho') hg'

/-- A block whose cells encode a list. -/
def BlkL {α : Type} (f : α → Value) (w : World) (b : Nat) (xs : List α) (t : TypeId) : Prop := Blk w b (xs.map f).toArray t
theorem BlkL.cell {α : Type} {f : α → Value} {w : World} {b : Nat} {xs : List α} {t : TypeId} (h : BlkL f w b xs t) (d : α) {i : Nat} (hi : i < xs.length) : w.cell? ⟨b, i, none⟩ = some (f (xs.getD i d)) := by
  rw [Blk.cell h]; simp [List.getD_eq_getElem?_getD, hi]
theorem BlkL.set {α : Type} {f : α → Value} {w : World} {b i : Nat} {xs : List α} {t : TypeId} (h : BlkL f w b xs t) (y : α) : BlkL f (w.setCell ⟨b, i, none⟩ (f y)) b (xs.set i y) t := by
  have := Blk.set (i := i) h (f y)
  unfold BlkL; simpa using this
theorem BlkL.of_made {α : Type} {f : α → Value} {w : World} {d : α} {n g : Nat} {t : TypeId} (h : Blk w g (madeCells #[f d] n) t) : BlkL f w g (List.replicate n d) t := by
  have e : madeCells #[f d] n = ((List.replicate n d).map f).toArray := by
    apply Array.ext'; rw [toList_madeCells_one]; simp
  unfold BlkL; rw [← e]; exact h
theorem Blk.new' (w : World) (cs : Array Value) (t : TypeId) {n : Nat} (h : n = w.heap.size) : Blk (w.alloc (.cells cs t)) n cs t := by subst h; exact Blk.new w cs t
theorem BlkL.made {α : Type} {f : α → Value} (w : World) (d : α) (n : Nat) (t : TypeId) {g : Nat} (hg : g = w.heap.size) : BlkL f (w.alloc (.cells (madeCells #[f d] n) t)) g (List.replicate n d) t := by
  subst hg
  have e : madeCells #[f d] n = ((List.replicate n d).map f).toArray := by
    apply Array.ext'; rw [toList_madeCells_one]; simp
  unfold BlkL; rw [e]; exact Blk.new _ _ _

theorem w64_65536 (n : Int) : wrap64 n % 65536 = n % 65536 := w64_mod n 65536 (by decide)
theorem add_w64_65536 (a n : Int) : (a + wrap64 n) % 65536 = (a + n) % 65536 := by
  have := w64_65536 n; omega

end Go.Proofs.YtnllkgjmoipgbaaGreatDoor
-- Sl
namespace Go.Proofs.YtnllkgjmoipgbaaGreatDoor
open Go Go.RowKit Go.ChangeShapes Go.WideShapes
set_option linter.unusedSimpArgs false
set_option linter.unusedVariables false

/-- An element by its number; behind a name of its own, so that no walk rewrites it. -/
def nth {α : Type} (d : α) (xs : List α) (i : Nat) : α := xs.getD i d
theorem nth_lt {α : Type} {d : α} {xs : List α} {i : Nat} (h : i < xs.length) : nth d xs i = xs[i] := by simp [nth, List.getD_eq_getElem?_getD, h]
theorem nth_ge {α : Type} {d : α} {xs : List α} {i : Nat} (h : xs.length ≤ i) : nth d xs i = d := by simp [nth, List.getD_eq_getElem?_getD, h]
theorem nth_mem {α : Type} {d : α} {xs : List α} {i : Nat} (h : i < xs.length) : nth d xs i ∈ xs := by rw [nth_lt h]; exact List.getElem_mem h
theorem nth_take {α : Type} {d : α} {xs : List α} {i n : Nat} (h : i < n) : nth d (xs.take n) i = nth d xs i := by
  simp only [nth, List.getD_eq_getElem?_getD, List.getElem?_take]; rw [if_pos h]
theorem nth_ext {α : Type} (d : α) {xs ys : List α} (h : xs.length = ys.length) (he : ∀ i, i < xs.length → nth d xs i = nth d ys i) : xs = ys := by
  apply List.ext_getElem h
  intro i h1 h2
  have := he i h1
  rwa [nth_lt h1, nth_lt h2] at this
theorem take_succ_nth {α : Type} (d : α) {xs : List α} {k : Nat} (h : k < xs.length) : xs.take (k + 1) = xs.take k ++ [nth d xs k] := by
  rw [nth_lt h, List.take_succ_eq_append_getElem h]

/-- The elements' cells, each of one cell. -/
def SlAt {α : Type} (f : α → Value) (d : α) (w : World) (a : Option Addr) (xs : List α) : Prop :=
  ∀ i, i < xs.length → ∃ ad, a = some ad ∧ w.cell? (ad.add i) = some (f (nth d xs i))

theorem add_block (a : Addr) (n : Nat) : (a.add n).block = a.block := by unfold Addr.add; split <;> rfl

theorem SlAt.below {α : Type} {f : α → Value} {d : α} {w w' : World} {a : Option Addr} {xs : List α} (h : SlAt f d w a xs) (hb : Below w.heap.size w w') : SlAt f d w' a xs := by
  intro i hi
  obtain ⟨ad, e, hc⟩ := h i hi
  exact ⟨ad, e, by rw [hb.cell (World.block_lt_of_cell? w _ hc)]; exact hc⟩
theorem SlAt.at {α : Type} {f : α → Value} {d : α} {w : World} {a : Option Addr} {xs : List α} (h : SlAt f d w a xs) (i : Int) (h0 : 0 ≤ i) (h1 : i < (xs.length : Int)) :
    ∃ ad, a = some ad ∧ w.cell? (ad.add i.toNat) = some (f (nth d xs i.toNat)) := h i.toNat (by omega)
theorem SlAt.atN {α : Type} {f : α → Value} {d : α} {w : World} {a : Option Addr} {xs : List α} (h : SlAt f d w a xs) (i : Nat) (h1 : i < xs.length) :
    ∃ ad, a = some ad ∧ w.cell? (ad.add i) = some (f (nth d xs i)) := h i h1
theorem SlAt.take {α : Type} {f : α → Value} {d : α} {w : World} {a : Option Addr} {xs : List α} (h : SlAt f d w a xs) (n : Nat) : SlAt f d w a (xs.take n) := by
  intro i hi
  simp only [List.length_take] at hi
  obtain ⟨ad, e, hc⟩ := h i (by omega)
  refine ⟨ad, e, ?_⟩
  rw [hc, nth_take (by omega)]
theorem SlAt.nil {α : Type} {f : α → Value} {d : α} {w : World} {a : Option Addr} : SlAt f d w a [] := fun i hi => by simp at hi

theorem SlAt.of_blkL {α : Type} {f : α → Value} {d : α} {w : World} {g : Nat} {xs : List α} {t : TypeId} (h : BlkL f w g xs t) : SlAt f d w (some ⟨g, 0, none⟩) xs := by
  intro i hi
  refine ⟨_, rfl, ?_⟩
  have e1 : (Addr.add ⟨g, 0, none⟩ i) = ⟨g, i, none⟩ := by unfold Addr.add; split <;> simp_all
  rw [e1, h.cell d hi]; rfl

/-- What the call owns, is there to be read. -/
theorem Own.sl {α : Type} {f : α → Value} {d : α} {w : World} {base : Nat} {e : TypeId} {v : Value} {xs : List α} (h : Own f w base e v xs) :
    ∃ a cap, v = .slice a xs.length cap ∧ xs.length ≤ cap ∧ cap ≤ maxLen ∧ SlAt f d w a xs := by
  rcases h with ⟨_, ⟨rfl, h0⟩ | ⟨g, cap, cur, rfl, hb, hg, hle, hmax, hsz, htake⟩⟩
  · have : xs = [] := List.length_eq_zero_iff.1 h0
    subst this
    exact ⟨none, 0, rfl, by simp, by simp [maxLen], SlAt.nil⟩
  · refine ⟨some ⟨g, 0, none⟩, cap, rfl, hle, hmax, ?_⟩
    intro i hi
    refine ⟨_, rfl, ?_⟩
    have e1 : (Addr.add ⟨g, 0, none⟩ i) = ⟨g, i, none⟩ := by unfold Addr.add; split <;> simp_all
    rw [e1, Go.Joins.cell_of_block hg]
    have h1 : (cur.toList.take (xs.length * 1))[i]? = some (f (nth d xs i)) := by rw [htake]; simp [nth_lt hi, hi]
    rw [List.getElem?_take] at h1
    simp only [Nat.mul_one, hi, if_true] at h1
    simpa using h1

section
variable {H : Type} {enc : TypeId × Value → H} {P : Program} {W : World} {base b0 : Nat} {held : Bool} {r : Reach} {t e : TypeId} {v : Value} {d : DataW H} {p : List MemPlace} {k : IntKind} {n : Nat}

/-- A slice of whole numbers that came in: its numbers up to its length; its capacity; that the list of them all is well formed. -/
theorem open_sl_ints (ht : P.underlying t = some (.slice e)) (he : P.underlying e = some (.int k)) (hc : P.cellsOf e = 1)
    (hv : Value.okWide P W r b0 t v) (h : DataW.Trod enc P W base (fun _ => true) held t v d p) :
    ∃ (a : Option Addr) (cap : Nat) (zs : List Int), v = .slice a zs.length cap ∧ zs.length ≤ cap ∧ cap ≤ maxLen ∧ SlAt (Value.int k) 0 W a zs ∧ (∀ z ∈ zs, (Lit.int k z).wf = true) ∧
      (∀ {ts : List TypeId} {ds : List (DataW H)} {j : Nat}, (DataW.weightsEach P ts ds).all (· ≤ reachBytes) = true → ts[j]? = some t → ds[j]? = some d → cap * P.bytesOf e ≤ 140737488351232) := by
  obtain ⟨a0, len0, cap0, rfl⟩ := okWide_slice ht hv
  obtain ⟨fuel, hf⟩ := h
  rcases open_ints ht he hc hf with ⟨hcs, hx⟩ | ⟨x, l, c, zs, hcs, _, hl, hm, hz, hx, hcell, hwz⟩
  · simp [Value.cells] at hcs
    obtain ⟨rfl, rfl, rfl⟩ := hcs
    refine ⟨none, 0, [], rfl, by simp, by simp [maxLen], SlAt.nil, by simp, ?_⟩
    intro ts ds j _ _ _; simp
  · simp [Value.cells] at hcs
    obtain ⟨rfl, rfl, rfl⟩ := hcs
    have hz' : zs.length = cap0 := by simpa using hz
    have hlen : (zs.take len0).length = len0 := by simp; omega
    refine ⟨some x, cap0, zs.take len0, by rw [hlen], by omega, hm, ?_, fun z hz => hwz z (List.mem_of_mem_take hz), ?_⟩
    · intro i hi
      rw [hlen] at hi
      refine ⟨x, rfl, ?_⟩
      rw [hcell i (by omega), nth_take hi]
      rfl
    · intro ts ds j hsz h1 h2
      obtain ⟨hx, _⟩ := Prod.mk.inj hx
      subst hx
      have z := sized_slice hsz h1 h2 ht
      have h3 : (lits (H := H) k (zs.take len0)).length + (lits (H := H) k (zs.drop len0)).length = cap0 := by
        simp [lits]; omega
      rw [h3] at z
      exact z
end

end Go.Proofs.YtnllkgjmoipgbaaGreatDoor
-- Arr
namespace Go.Proofs.YtnllkgjmoipgbaaGreatDoor
open Go Go.RowKit
set_option linter.unusedSimpArgs false
set_option linter.unusedVariables false

theorem heap_setRow_ne (w : World) (g k : Nat) (cs : Array Value) (h : k ≠ g) : (w.setRow g cs).heap[k]? = w.heap[k]? := by
  unfold World.setRow
  rw [Array.getElem?_modify, if_neg (Ne.symm h)]
theorem size_setRow (w : World) (g : Nat) (cs : Array Value) : (w.setRow g cs).heap.size = w.heap.size := by unfold World.setRow; simp
theorem Blk.setRow {w : World} {b : Nat} {cs : Array Value} {t : TypeId} (h : Blk w b cs t) (cs' : Array Value) : Blk (w.setRow b cs') b cs' t := setRow_heap w b cs cs' t (0, 0) h
theorem Blk.setRow_other {w : World} {b g : Nat} {cs : Array Value} {t : TypeId} (h : Blk w b cs t) (cs' : Array Value) (hne : b ≠ g) : Blk (w.setRow g cs') b cs t := by
  unfold Blk at *; rw [heap_setRow_ne _ _ _ _ hne]; exact h
theorem below_setRow {B : Nat} {a w : World} (h : Below B a w) {g : Nat} (hg : B ≤ g) (cs : Array Value) : Below B a (w.setRow g cs) :=
  ⟨h.os, h.tape, h.output, by rw [size_setRow]; exact h.size, fun k hk => by rw [heap_setRow_ne _ _ _ _ (by omega)]; exact h.block k hk⟩

/-- An array of whole numbers, by value. -/
def aggI (xs : List Int) : Value := .agg (xs.map (Value.int .i64)).toArray
/-- Its cells. -/
def cellsI (xs : List Int) : Array Value := (xs.map (Value.int .i64)).toArray
theorem aggI_eq (xs : List Int) : aggI xs = .agg (cellsI xs) := rfl
theorem cellsI_size (xs : List Int) : (cellsI xs).size = xs.length := by simp [cellsI]
theorem cellsI_one (xs : List Int) : (cellsI xs).all (·.oneCell') = true := by
  rw [Array.all_eq_true_iff_forall_mem]; intro v hv
  simp [cellsI] at hv; obtain ⟨x, _, rfl⟩ := hv; rfl
theorem BlkL.int {w : World} {b : Nat} {xs : List Int} {t : TypeId} (h : BlkL (Value.int .i64) w b xs t) : Blk w b (cellsI xs) t := h
theorem Blk.toL {w : World} {b : Nat} {xs : List Int} {t : TypeId} (h : Blk w b (cellsI xs) t) : BlkL (Value.int .i64) w b xs t := h
/-- n zeros, behind a name. -/
def zeros (n : Nat) : List Int := List.replicate n 0
theorem zeros_length (n : Nat) : (zeros n).length = n := by simp [zeros]
theorem nth_zeros (n i : Nat) : nth 0 (zeros n) i = 0 := by
  by_cases h : i < n
  · rw [nth_lt (by simpa [zeros] using h)]; simp [zeros]
  · rw [nth_ge (by simpa [zeros] using h)]
theorem nth_set_eq {α : Type} {d : α} {xs : List α} {i : Nat} {y : α} (h : i < xs.length) : nth d (xs.set i y) i = y := by
  rw [nth_lt (by simpa using h)]; simp
theorem nth_set_ne {α : Type} {d : α} {xs : List α} {i j : Nat} {y : α} (h : i ≠ j) : nth d (xs.set i y) j = nth d xs j := by
  simp only [nth, List.getD_eq_getElem?_getD, List.getElem?_set_ne h]
theorem BlkL.at {w : World} {b : Nat} {xs : List Int} {t : TypeId} (h : BlkL (Value.int .i64) w b xs t) {i : Nat} (hi : i < xs.length) : w.cell? ⟨b, i, none⟩ = some (.int .i64 (nth 0 xs i)) := h.cell 0 hi

/-- What a call leaves whose one result is an array, or a struct, of its own. -/
theorem ret_row {P : Program} {fn : Func} {R : Ending → World → Prop} {a : Act} {w : World} {p : Tmp} {ty t : TypeId} {g : Nat} {cs : Array Value} {d : TypeDesc} (h : fn.results = #[.cell p ty])
    (hp : a.tmps.getD p undef = .pointer (some ⟨g, 0, none⟩)) (hg : Blk w g cs t) (hu : P.underlying ty = some d) (hd : (match d with | .struct _ | .array _ _ => true | _ => false) = true) (hi : (P.info? ty).map (·.size) = some cs.size)
    (hdf : a.defers = []) (hR : R (.returned (.agg cs)) w) : bodyPost P fn R .ret a w :=
  bodyPost_ret (results_cell_row h a.tmps w g t cs (0, 0) d hp hg hu hd hi) hdf hR

end Go.Proofs.YtnllkgjmoipgbaaGreatDoor
-- Vs
namespace Go.Proofs.YtnllkgjmoipgbaaGreatDoor
open Go Go.RowKit
set_option linter.unusedSimpArgs false
set_option linter.unusedVariables false

/-- No block that was there has turned, but those of a list. -/
structure Tr (S : List Nat) (w w' : World) : Prop where
  os : w'.os = w.os
  tape : w'.tape = w.tape
  output : w'.output = w.output
  size : w.heap.size ≤ w'.heap.size
  block : ∀ k, k < w.heap.size → k ∉ S → w'.heap[k]? = w.heap[k]?

theorem Tr.refl (S : List Nat) (w : World) : Tr S w w := ⟨rfl, rfl, rfl, Nat.le_refl _, fun _ _ _ => rfl⟩
theorem Tr.trans {S : List Nat} {a b c : World} (h : Tr S a b) (k : Tr S b c) : Tr S a c :=
  ⟨k.os.trans h.os, k.tape.trans h.tape, k.output.trans h.output, Nat.le_trans h.size k.size, fun i hi hn => (k.block i (Nat.lt_of_lt_of_le hi h.size) hn).trans (h.block i hi hn)⟩
theorem Tr.mono {S S' : List Nat} {a b : World} (h : Tr S a b) (hS : ∀ k ∈ S, k ∈ S') : Tr S' a b :=
  ⟨h.os, h.tape, h.output, h.size, fun i hi hn => h.block i hi (fun hm => hn (hS i hm))⟩
theorem Tr.setCell {S : List Nat} {a w : World} (h : Tr S a w) {b : Nat} (i : Nat) (hb : b ∈ S) (v : Value) : Tr S a (w.setCell ⟨b, i, none⟩ v) :=
  h.trans ⟨rfl, rfl, rfl, by simp [World.setCell], fun k _ hn => Below.heap_setCell _ _ _ _ (fun he => hn (he ▸ hb))⟩
theorem Tr.drewN {S : List Nat} {a w : World} (h : Tr S a w) (n : Nat) : Tr S a (w.drewN n) := ⟨h.os, h.tape, h.output, h.size, h.block⟩
theorem Tr.drew {S : List Nat} {a w : World} (h : Tr S a w) : Tr S a w.drew := ⟨h.os, h.tape, h.output, h.size, h.block⟩
theorem Tr.alloc {S : List Nat} {a w : World} (h : Tr S a w) (o : Obj) : Tr S a (w.alloc o) :=
  h.trans ⟨rfl, rfl, rfl, ((Below.refl w.heap.size w).alloc (Nat.le_refl _) o).size, fun k hk _ => Below.heap_alloc _ _ _ hk⟩
theorem Tr.of_below {S : List Nat} {a w w' : World} (h : Tr S a w) (hb : Below w.heap.size w w') : Tr S a w' :=
  h.trans ⟨hb.os, hb.tape, hb.output, hb.size, fun k hk _ => hb.block k hk⟩
theorem Tr.of_below0 {S : List Nat} {w w' : World} (hb : Below w.heap.size w w') : Tr S w w' := (Tr.refl S w).of_below hb
theorem Tr.setRow {S : List Nat} {a w : World} (h : Tr S a w) {b : Nat} (hb : a.heap.size ≤ b) (cs : Array Value) : Tr S a (w.setRow b cs) :=
  ⟨h.os, h.tape, h.output, by rw [size_setRow]; exact h.size, fun k hk hn => (heap_setRow_ne _ _ _ _ (by omega)).trans (h.block k hk hn)⟩
/-- What a call left that may turn blocks of the call's own alone. -/
theorem Tr.below {S : List Nat} {B : Nat} {a w w' : World} (h : Below B a w) (k : Tr S w w') (hB : B ≤ a.heap.size) (hS : ∀ b ∈ S, B ≤ b) : Below B a w' :=
  ⟨k.os.trans h.os, k.tape.trans h.tape, k.output.trans h.output, Nat.le_trans h.size k.size, fun i hi =>
    (k.block i (Nat.lt_of_lt_of_le hi (Nat.le_trans hB h.size)) (fun hm => by have := hS i hm; omega)).trans (h.block i hi)⟩
theorem Tr.to_below {S : List Nat} {B : Nat} {w w' : World} (k : Tr S w w') (hB : B ≤ w.heap.size) (hS : ∀ b ∈ S, B ≤ b) : Below B w w' := Tr.below (Below.refl _ _) k hB hS
theorem Blk.tr {S : List Nat} {w w' : World} {b : Nat} {cs : Array Value} {t : TypeId} (h : Blk w b cs t) (k : Tr S w w') (hn : b ∉ S) : Blk w' b cs t := by
  have hl := h.lt
  unfold Blk at *; rw [k.block b hl hn]; exact h

/-- Video memory: its words, and its ports. -/
structure VS where
  W : List Int
  wr : Int
  rd : Int
  st : Int
  lo : Int
  bu : Int

def VS.word (V : VS) (p : Int) : Int := if p % 65536 < 32768 then nth 0 V.W (p % 65536).toNat else 0
def VS.poke (V : VS) (p w : Int) : VS := if p % 65536 < 32768 then { V with W := V.W.set (p % 65536).toNat (w % 65536) } else V
def VS.setWr (V : VS) (p : Int) : VS := { V with wr := p % 65536 }
def VS.setRd (V : VS) (p : Int) : VS := { V with rd := p % 65536, bu := V.word p }
def VS.setSt (V : VS) (n : Int) : VS := { V with st := n % 65536 }
def VS.putLo (V : VS) (b : Int) : VS := { V with lo := b % 256 }
def VS.putHi (V : VS) (b : Int) : VS := (V.poke V.wr (V.lo + 256 * (b % 256))).setWr (V.wr + V.st)
def VS.put (V : VS) (high : Bool) (b : Int) : VS := if high then V.putHi b else V.putLo b
def VS.get (V : VS) (high : Bool) : Int := if high then V.bu / 256 else V.bu % 256
def VS.got (V : VS) (high : Bool) : VS := if high then V.setRd (V.rd + V.st) else V
def VS.new : VS := ⟨zeros 32768, 0, 0, 1, 0, 0⟩

structure VS.Ok (V : VS) : Prop where
  len : V.W.length = 32768
  each : ∀ i, 0 ≤ nth 0 V.W i ∧ nth 0 V.W i < 65536
  wr : 0 ≤ V.wr ∧ V.wr < 65536
  rd : 0 ≤ V.rd ∧ V.rd < 65536
  st : 0 ≤ V.st ∧ V.st < 65536
  lo : 0 ≤ V.lo ∧ V.lo < 256
  bu : 0 ≤ V.bu ∧ V.bu < 65536

theorem VS.Ok.new : VS.new.Ok := by
  refine ⟨zeros_length _, fun i => ?_, by decide, by decide, by decide, by decide, by decide⟩
  have h : nth 0 VS.new.W i = 0 := nth_zeros 32768 i
  rw [h]; decide
theorem VS.Ok.word {V : VS} (h : V.Ok) (p : Int) : 0 ≤ V.word p ∧ V.word p < 65536 := by
  unfold VS.word; split
  · exact h.each _
  · decide
theorem VS.Ok.poke {V : VS} (h : V.Ok) (p w : Int) : (V.poke p w).Ok := by
  unfold VS.poke; split
  · rename_i hp
    refine ⟨by simpa using h.len, fun i => ?_, h.wr, h.rd, h.st, h.lo, h.bu⟩
    show 0 ≤ nth 0 (V.W.set _ _) i ∧ _
    by_cases hi : (p % 65536).toNat = i
    · subst hi; rw [nth_set_eq (by rw [h.len]; omega)]; omega
    · rw [nth_set_ne hi]; exact h.each i
  · exact h
theorem VS.Ok.setWr {V : VS} (h : V.Ok) (p : Int) : (V.setWr p).Ok := ⟨h.len, h.each, by unfold VS.setWr; simp only; omega, h.rd, h.st, h.lo, h.bu⟩
theorem VS.Ok.setRd {V : VS} (h : V.Ok) (p : Int) : (V.setRd p).Ok := ⟨h.len, h.each, h.wr, by unfold VS.setRd; simp only; omega, h.st, h.lo, h.word p⟩
theorem VS.Ok.setSt {V : VS} (h : V.Ok) (p : Int) : (V.setSt p).Ok := ⟨h.len, h.each, h.wr, h.rd, by unfold VS.setSt; simp only; omega, h.lo, h.bu⟩
theorem VS.Ok.putLo {V : VS} (h : V.Ok) (p : Int) : (V.putLo p).Ok := ⟨h.len, h.each, h.wr, h.rd, h.st, by unfold VS.putLo; simp only; omega, h.bu⟩
theorem VS.Ok.putHi {V : VS} (h : V.Ok) (b : Int) : (V.putHi b).Ok := (h.poke _ _).setWr _
theorem VS.Ok.put {V : VS} (h : V.Ok) (hi : Bool) (b : Int) : (V.put hi b).Ok := by unfold VS.put; split; exact h.putHi b; exact h.putLo b
theorem VS.Ok.got {V : VS} (h : V.Ok) (hi : Bool) : (V.got hi).Ok := by unfold VS.got; split; exact h.setRd _; exact h

/-- Its struct's cells; c: the words' capacity. -/
def VS.cells (V : VS) (g c : Nat) : Array Value := #[.slice (some ⟨g, 0, none⟩) 32768 c, .int .i64 V.wr, .int .i64 V.rd, .int .i64 V.st, .int .i64 V.lo, .int .i64 V.bu]
/-- The object: its struct in block p, its words in block g, which may have room behind them. -/
structure VAt (t : TypeId) (w : World) (p g : Nat) (V : VS) : Prop where
  obj : ∃ R : List Value, Blk w p (V.cells g (32768 + R.length)) t ∧ Blk w g (V.W.map (Value.int .i64) ++ R).toArray 3
  ok : V.Ok
  ne : p ≠ g

theorem VAt.tr {t : TypeId} {S : List Nat} {w w' : World} {p g : Nat} {V : VS} (h : VAt t w p g V) (k : Tr S w w') (hp : p ∉ S) (hg : g ∉ S) : VAt t w' p g V :=
  let ⟨R, h1, h2⟩ := h.obj
  ⟨⟨R, Blk.tr h1 k hp, Blk.tr h2 k hg⟩, h.ok, h.ne⟩
theorem VAt.below {t : TypeId} {w w' : World} {p g : Nat} {V : VS} (h : VAt t w p g V) (hb : Below w.heap.size w w') : VAt t w' p g V :=
  let ⟨R, h1, h2⟩ := h.obj
  ⟨⟨R, Blk.below h1 hb, Blk.below h2 hb⟩, h.ok, h.ne⟩
theorem VAt.drewN {t : TypeId} {w : World} {p g : Nat} {V : VS} (h : VAt t w p g V) (n : Nat) : VAt t (w.drewN n) p g V := ⟨h.obj, h.ok, h.ne⟩
theorem VAt.lt {t : TypeId} {w : World} {p g : Nat} {V : VS} (h : VAt t w p g V) : p < w.heap.size ∧ g < w.heap.size :=
  let ⟨R, h1, h2⟩ := h.obj
  ⟨Blk.lt h1, Blk.lt h2⟩
theorem VAt.c {t : TypeId} {w : World} {p g : Nat} {V : VS} (h : VAt t w p g V) : ∃ c, 32768 ≤ c ∧
    w.cell? ⟨p, 0, none⟩ = some (.slice (some ⟨g, 0, none⟩) 32768 c) ∧ w.cell? ⟨p, 1, none⟩ = some (.int .i64 V.wr) ∧ w.cell? ⟨p, 2, none⟩ = some (.int .i64 V.rd) ∧
    w.cell? ⟨p, 3, none⟩ = some (.int .i64 V.st) ∧ w.cell? ⟨p, 4, none⟩ = some (.int .i64 V.lo) ∧ w.cell? ⟨p, 5, none⟩ = some (.int .i64 V.bu) :=
  let ⟨R, h1, h2⟩ := h.obj
  ⟨32768 + R.length, Nat.le_add_right _ _, Blk.cell h1 0, Blk.cell h1 1, Blk.cell h1 2, Blk.cell h1 3, Blk.cell h1 4, Blk.cell h1 5⟩
theorem VAt.f {t : TypeId} {w : World} {p g : Nat} {V : VS} (h : VAt t w p g V) (i : Nat) : w.frozen? ⟨p, i, none⟩ = false :=
  let ⟨R, h1, h2⟩ := h.obj
  Blk.free h1 i
theorem VAt.freeW {t : TypeId} {w : World} {p g : Nat} {V : VS} (h : VAt t w p g V) (i : Nat) : w.frozen? ⟨g, i, none⟩ = false :=
  let ⟨R, h1, h2⟩ := h.obj
  Blk.free h2 i
theorem VAt.wordAt {t : TypeId} {w : World} {p g : Nat} {V : VS} (h : VAt t w p g V) {i : Nat} (hi : i < 32768) : w.cell? ⟨g, i, none⟩ = some (.int .i64 (nth 0 V.W i)) := by
  obtain ⟨R, h1, h2⟩ := h.obj
  have hl := h.ok.len
  rw [Blk.cell h2]
  unfold nth
  simp only [List.getD_eq_getElem?_getD, List.getElem?_toArray]
  rw [List.getElem?_append_left (by simp; omega), List.getElem?_map, List.getElem?_eq_getElem (by omega)]
  rfl

theorem VAt.setW {t : TypeId} {w : World} {p g : Nat} {V : VS} (h : VAt t w p g V) (at' x : Int) (hp : at' % 65536 < 32768) : VAt t (w.setCell ⟨g, (at' % 65536).toNat, none⟩ (.int .i64 (x % 65536))) p g (V.poke at' x) := by
  have hk := h.ok.poke at' x
  have hl := h.ok.len
  obtain ⟨R, h1, h2⟩ := h.obj
  unfold VS.poke at *
  rw [if_pos hp] at *
  refine ⟨⟨R, Blk.other h1 _ h.ne, ?_⟩, hk, h.ne⟩
  have := Blk.set (i := (at' % 65536).toNat) h2 (.int .i64 (x % 65536))
  rw [List.setIfInBounds_toArray, List.set_append_left _ _ (by simp; omega)] at this
  rw [List.map_set]; exact this
theorem VAt.setC {t : TypeId} {w : World} {p g : Nat} {V V' : VS} (h : VAt t w p g V) (i : Nat) (v : Value) (hc : ∀ c, (V.cells g c).setIfInBounds i v = V'.cells g c) (hW : V'.W = V.W) (hk : V'.Ok) : VAt t (w.setCell ⟨p, i, none⟩ v) p g V' :=
  let ⟨R, h1, h2⟩ := h.obj
  ⟨⟨R, by rw [← hc]; exact Blk.set h1 v, by rw [hW]; exact Blk.other h2 _ (Ne.symm h.ne)⟩, hk, h.ne⟩
theorem VAt.setWr {t : TypeId} {w : World} {p g : Nat} {V : VS} (h : VAt t w p g V) (x : Int) : VAt t (w.setCell ⟨p, 1, none⟩ (.int .i64 (x % 65536))) p g (V.setWr x) := h.setC 1 _ (fun _ => rfl) rfl (h.ok.setWr x)
theorem VAt.setSt {t : TypeId} {w : World} {p g : Nat} {V : VS} (h : VAt t w p g V) (x : Int) : VAt t (w.setCell ⟨p, 3, none⟩ (.int .i64 (x % 65536))) p g (V.setSt x) := h.setC 3 _ (fun _ => rfl) rfl (h.ok.setSt x)
theorem VAt.putLo {t : TypeId} {w : World} {p g : Nat} {V : VS} (h : VAt t w p g V) (x : Int) : VAt t (w.setCell ⟨p, 4, none⟩ (.int .i64 (x % 256))) p g (V.putLo x) := h.setC 4 _ (fun _ => rfl) rfl (h.ok.putLo x)
theorem VAt.setRd {t : TypeId} {w : World} {p g : Nat} {V : VS} (h : VAt t w p g V) (x : Int) : VAt t ((w.setCell ⟨p, 2, none⟩ (.int .i64 (x % 65536))).setCell ⟨p, 5, none⟩ (.int .i64 (V.word x))) p g (V.setRd x) :=
  (h.setC (V' := { V with rd := x % 65536 }) 2 _ (fun _ => rfl) rfl ⟨h.ok.len, h.ok.each, h.ok.wr, by simp only; omega, h.ok.st, h.ok.lo, h.ok.bu⟩).setC (V' := V.setRd x) 5 _ (fun _ => rfl) rfl (h.ok.setRd x)

theorem VAt.rd1 {t : TypeId} {w : World} {p g : Nat} {V : VS} (h : VAt t w p g V) (x : Int) : VAt t (w.setCell ⟨p, 2, none⟩ (.int .i64 (x % 65536))) p g { V with rd := x % 65536 } :=
  h.setC 2 _ (fun _ => rfl) rfl ⟨h.ok.len, h.ok.each, h.ok.wr, by simp only; omega, h.ok.st, h.ok.lo, h.ok.bu⟩

/-- Two objects of one video memory: the program's, and the reference's. -/
theorem VS.word_mod (V : VS) (p : Int) : V.word (p % 65536) = V.word p := by unfold VS.word; rw [Int.emod_emod_of_dvd _ (Int.dvd_refl _)]
theorem VS.poke_mod (V : VS) (p w : Int) : V.poke (p % 65536) w = V.poke p w := by unfold VS.poke; rw [Int.emod_emod_of_dvd _ (Int.dvd_refl _)]
theorem VS.setRd_mod (V : VS) (p : Int) : V.setRd (p % 65536) = V.setRd p := by unfold VS.setRd; rw [VS.word_mod, Int.emod_emod_of_dvd _ (Int.dvd_refl _)]

end Go.Proofs.YtnllkgjmoipgbaaGreatDoor
-- Reg
namespace Go.Proofs.YtnllkgjmoipgbaaGreatDoor
open Go Go.RowKit
set_option linter.unusedSimpArgs false
set_option linter.unusedVariables false

section
variable {P : Program} {ops : Array Oper} {md : Region.Mode} {C : Array Bool → World → Prop}

/-- What an operation's run must come to: the value v, in a world of C'. -/
def lUpon (P : Program) (C' : World → Prop) (v : Value) : Result Next → Prop
  | .ok (.value u) w' => C' w' ∧ u = v
  | .ok .skip w' => C' w' ∧ v = undef
  | .ok (.enter f args) w' => Calls P f args w' (fun e w'' => e = .returned v ∧ C' w'')
  | _ => False

/-- Operation i, in state a, has the value v whenever it may come up. -/
def YL (P : Program) (md : Region.Mode) (ops : Array Oper) (C : Array Bool → World → Prop) (i : Nat) (o : Oper) (v : Value) (a : Act) : Prop :=
  (Region.wanted o (yielded ops a.tmps) = true ∧ ∀ L w, i ∈ Region.ready md ops L → C L w → lUpon P (C (L.setIfInBounds i true)) v ((execOp a.eval o).run P w)) ∨
  (Region.wanted o (yielded ops a.tmps) = false ∧ v = undef ∧ ∀ L w, i ∈ Region.ready md ops L → C L w → C (L.setIfInBounds i true) w)

theorem YL.of_same {i : Nat} {o : Oper} {v : Value} {a a' : Act} (h : YL P md ops C i o v a) (he : execOp a'.eval o = execOp a.eval o)
    (hw : Region.wanted o (yielded ops a'.tmps) = Region.wanted o (yielded ops a.tmps)) : YL P md ops C i o v a' := by
  unfold YL at *; rw [he, hw]; exact h

def qL (P : Program) (md : Region.Mode) (ops : Array Oper) (C : Array Bool → World → Prop) (i : Nat) (K : Act → Prop) (a : Act) : Prop :=
  ∀ o, ops[i]? = some o → ∃ v, YL P md ops C i o v a ∧ K (a.put o.dst v)

theorem qL_mono {i : Nat} {a : Act} {K K' : Act → Prop} (h : ∀ a, K a → K' a) (hh : qL P md ops C i K a) : qL P md ops C i K' a :=
  fun o ho => let ⟨v, h1, h2⟩ := hh o ho; ⟨v, h1, h _ h2⟩

def wpAnyL (P : Program) (md : Region.Mode) (ops : Array Oper) (C : Array Bool → World → Prop) (Q : Act → Prop) : Nat → Array Bool → Act → Prop
  | 0, L, a => Region.ready md ops L = [] ∧ Q a
  | fuel + 1, L, a => (Region.ready md ops L = [] → Q a) ∧ ∀ i ∈ Region.ready md ops L, qL P md ops C i (wpAnyL P md ops C Q fuel (L.setIfInBounds i true)) a

theorem wpOp_of_qL {i : Nat} {L : Array Bool} {a : Act} {w : World} {K : Act → Prop} {K' : Act → World → Prop} {Q : Exit → Act → World → Prop} (hr : i ∈ Region.ready md ops L) (hC : C L w)
    (h : ∀ a' w', C (L.setIfInBounds i true) w' → K a' → K' a' w') (hh : qL P md ops C i K a) : wpOp P ops Q i K' a w := by
  obtain ⟨_, o, ho, _⟩ := mem_ready.1 hr
  obtain ⟨v, hy, hK⟩ := hh o ho
  unfold wpOp
  simp only [ho]
  rcases hy with ⟨hw, hv⟩ | ⟨hw, rfl, hv⟩
  · simp only [hw, if_true]
    refine .inl ?_
    have h3 := hv L w hr hC
    unfold Oper.wp
    generalize (execOp a.eval o).run P w = r at *
    cases r with
    | ok n w' =>
      cases n <;> simp only [lUpon] at h3 <;> simp only [Oper.upon]
      case value u => obtain ⟨h4, rfl⟩ := h3; exact h _ _ h4 hK
      case skip => obtain ⟨h4, rfl⟩ := h3; exact h _ _ h4 hK
      case enter f args => exact h3.mono fun e w'' ⟨he, hc⟩ => by subst he; exact h _ _ hc hK
    | halt x w' => simp only [lUpon] at h3
  · simp only [hw, Bool.false_eq_true, if_false]
    exact h _ _ (hv L w hr hC) hK

theorem wpAny_of_L {Q : Act → Prop} {Q' : Exit → Act → World → Prop} (hQ : ∀ L a w, Region.ready md ops L = [] → C L w → Q a → Q' .normal a w) : ∀ (fuel : Nat) (L : Array Bool) (a : Act) (w : World), C L w →
    wpAnyL P md ops C Q fuel L a → wpAny P md ops Q' fuel L a w
  | 0, L, _, _, hC, h => ⟨h.1, hQ L _ _ h.1 hC h.2⟩
  | fuel + 1, L, _, _, hC, h => ⟨fun h0 => hQ L _ _ h0 hC (h.1 h0), fun i hi => wpOp_of_qL hi hC (fun a' w' hc hk => wpAny_of_L hQ fuel _ a' w' hc hk) (h.2 i hi)⟩

theorem qL_put {i j : Nat} {oi oj : Oper} {v : Value} (hj : ops[j]? = some oj) (hap : oi.apart ops oj = true)
    (hsi : ∀ cs b, oi.op ≠ .select cs b) (hsj : ∀ cs b, oj.op ≠ .select cs b) {K : Act → Prop} {a : Act}
    (hy : YL P md ops C i oi v a) (h : qL P md ops C j K (a.put oi.dst v)) : qL P md ops C j (fun a' => YL P md ops C i oi v a' ∧ K (a'.put oi.dst v)) a := by
  obtain ⟨h1, h2, h3⟩ := Oper.apart_spec hap
  intro o ho
  obtain rfl : oj = o := Option.some.inj (hj.symm.trans ho)
  obtain ⟨u, hu, hK⟩ := h oj hj
  refine ⟨u, hu.of_same (execOp_put oj hsj a oi.dst v h1).symm (wanted_put oj a oi.dst v h1).symm, hy.of_same (execOp_put oi hsi a oj.dst u h3) (wanted_put oi a oj.dst u h3), ?_⟩
  rw [← Act.put_comm a v u h2]; exact hK

theorem wpAnyL_first {Q : Act → Prop} {i : Nat} {oi : Oper} {v : Value} (hi : ops[i]? = some oi) (hsel : ∀ (j : Nat) (o : Oper) cs b, ops[j]? = some o → o.op ≠ .select cs b) :
    ∀ (fuel : Nat) (L : Array Bool) (a : Act),
      (∀ j oj, ops[j]? = some oj → j ≠ i → L.getD j true = false → (∀ e ∈ oj.after, Region.binds md e = true → e.on ≠ i) → oi.apart ops oj = true) →
      i ∈ Region.ready md ops L → YL P md ops C i oi v a →
      wpAnyL P md ops C Q fuel (L.setIfInBounds i true) (a.put oi.dst v) → wpAnyL P md ops C Q (fuel + 1) L a := by
  have own : ∀ (K : Act → Prop) (a : Act), YL P md ops C i oi v a → K (a.put oi.dst v) → qL P md ops C i K a := by
    intro K a hy hK o ho
    obtain rfl : oi = o := Option.some.inj (hi.symm.trans ho)
    exact ⟨v, hy, hK⟩
  intro fuel
  induction fuel with
  | zero =>
    intro L a _ hr hy H
    refine ⟨fun h => (by rw [h] at hr; cases hr), fun j hj => ?_⟩
    by_cases hji : j = i
    · subst hji; exact own _ _ hy H
    · have := ready_mono hj hji
      rw [H.1] at this
      cases this
  | succ fuel ih =>
    intro L a hfree hr hy H
    refine ⟨fun h => (by rw [h] at hr; cases hr), fun j hj => ?_⟩
    by_cases hji : j = i
    · subst hji; exact own _ _ hy H
    · have h1 := H.2 j (ready_mono hj hji)
      obtain ⟨hjun, oj, hoj, hall⟩ := mem_ready.1 hj
      have hnot : ∀ e ∈ oj.after, Region.binds md e = true → e.on ≠ i := fun e he hb heq => by
        have h1 := hall e he hb
        have h0 := (mem_ready.1 hr).1
        rw [heq] at h1
        rcases Nat.lt_or_ge i L.size with h' | h'
        · simp [h'] at h0 h1; rw [h0] at h1; cases h1
        · simp [Array.getElem?_eq_none h'] at h1
      have h2 := qL_put hoj (hfree j oj hoj hji hjun hnot) (fun cs b => hsel i oi cs b hi) (fun cs b => hsel j oj cs b hoj) hy h1
      have hfree' : ∀ k ok, ops[k]? = some ok → k ≠ i → (L.setIfInBounds j true).getD k true = false →
          (∀ e ∈ ok.after, Region.binds md e = true → e.on ≠ i) → oi.apart ops ok = true := fun k ok hk hki hun hno => by
        refine hfree k ok hk hki ?_ hno
        by_cases hjk : j = k
        · subst hjk; exact hjun
        · rw [getD_set_ne true hjk] at hun; exact hun
      refine qL_mono (fun a' h3 => ih (L.setIfInBounds j true) a' hfree' (ready_mono hr (Ne.symm hji)) h3.1 ?_) h2
      rw [Array.setIfInBounds_comm _ _ hji]
      exact h3.2

/-- The walk in the text's order. -/
def wpL (P : Program) (md : Region.Mode) (ops : Array Oper) (C : Array Bool → World → Prop) (Q : Act → Prop) : List Oper → Nat → Act → Prop
  | [], _, a => Q a
  | o :: rest, k, a => ∃ v, YL P md ops C k o v a ∧ wpL P md ops C Q rest (k + 1) (a.put o.dst v)

theorem wpAnyL_lex {Q : Act → Prop} (hs : Region.noSelect ops = true) : ∀ (l : List Oper) (k : Nat) (L : Array Bool) (a : Act), (∀ j, l[j]? = ops[k + j]?) →
    Region.lexFrom md ops l.length k L = true → wpL P md ops C Q l k a → wpAnyL P md ops C Q l.length L a
  | [], _, _, _, _, hB, h => ⟨by simpa [Region.lexFrom] using hB, h⟩
  | o :: l, k, L, a, hl, hB, h => by
    have h0 : ops[k]? = some o := by simpa using (hl 0).symm
    simp only [List.length_cons, Region.lexFrom, Bool.and_eq_true] at hB
    obtain ⟨⟨hr, hf⟩, hB'⟩ := hB
    obtain ⟨v, hy, hK⟩ := h
    exact wpAnyL_first h0 (Region.noSelect_spec hs) l.length L a (Region.free_spec h0 hf) (by simpa using hr) hy
      (wpAnyL_lex hs l (k + 1) _ _ (fun j => by have := hl (j + 1); simpa [Nat.add_assoc, Nat.add_comm 1 j] using this) hB' hK)

theorem wp_region_L {id : Nat} {Q : Exit → Act → World → Prop} {a : Act} {w : World} {l : List Oper} (C : Array Bool → World → Prop) (hm : P.follows .mixedOrders = true) (hB : Region.lexB .any l.toArray = true) (hC : C (Array.replicate l.length false) w.drew)
    (h : wpL P .any l.toArray C (fun a' => ∀ L w', Region.ready .any l.toArray L = [] → C L w' → Q .normal a' w') l 0 a) : (Code.region id l.toArray true).wp P Q a w := by
  simp only [Region.lexB, Bool.and_eq_true] at hB
  refine wp_region_any hm (wpAny_of_L (C := C) (Q := fun a' => ∀ L w', Region.ready .any l.toArray L = [] → C L w' → Q .normal a' w') (fun L _ w' hr hw' h => h L w' hr hw') _ _ _ _ (by simpa using hC) ?_)
  have := wpAnyL_lex (C := C) (md := .any) hB.1 l 0 (Array.replicate l.length false) a (by simp) (by simpa using hB.2) h
  simpa using this

/-! ### The class for an allocation (number k) and a store (number s, the last): three kinds of worlds, one behind the other -/
def ClosedL (md : Region.Mode) (ops : Array Oper) (L : Array Bool) : Prop := ∀ j oj, ops[j]? = some oj → L.getD j false = true → ∀ e ∈ oj.after, Region.binds md e = true → L.getD e.on false = true
def Ph (md : Region.Mode) (ops : Array Oper) (k s : Nat) (D0 D1 D2 : World → Prop) (L : Array Bool) (w : World) : Prop :=
  L.size = ops.size ∧ ClosedL md ops L ∧ (L.getD s true = false → (L.getD k false = false → D0 w) ∧ (L.getD k false = true → D1 w)) ∧ (L.getD s true = true → (∀ j, j < ops.size → L.getD j true = true) ∧ D2 w)

theorem ClosedL.set {L : Array Bool} {i : Nat} (h : ClosedL md ops L) (hr : i ∈ Region.ready md ops L) : ClosedL md ops (L.setIfInBounds i true) := by
  intro j oj hj hl e he hb
  obtain ⟨_, oi, hoi, hall⟩ := mem_ready.1 hr
  by_cases hij : i = j
  · subst hij
    obtain rfl : oj = oi := Option.some.inj (hj.symm.trans hoi)
    exact getD_set_true (hall e he hb)
  · rw [getD_set_ne false hij] at hl
    exact getD_set_true (h j oj hj hl e he hb)

theorem ready_lt {L : Array Bool} {i : Nat} (hr : i ∈ Region.ready md ops L) : i < ops.size ∧ L.getD i true = false := by
  obtain ⟨h, o, ho, _⟩ := mem_ready.1 hr
  exact ⟨(Array.getElem?_eq_some_iff.1 ho).1, h⟩
theorem getD_false_of {L : Array Bool} {i : Nat} (h : L.getD i true = false) : L.getD i false = false := getD_both h
theorem getD_set_self {L : Array Bool} {i : Nat} (d : Bool) (h : i < L.size) : (L.setIfInBounds i true).getD i d = true := by simp [h]

/-- What a head operation's run comes to: a value, and the world it got, but for draws. -/
def hUpon (P : Program) (w : World) (v : Value) : Result Next → Prop
  | .ok (.value u) w' => w' = w ∧ u = v
  | .ok .skip w' => w' = w ∧ v = undef
  | .ok (.enter f args) w' => w' = w ∧ Calls P f args w (fun e w'' => e = .returned v ∧ ∃ n, w'' = w.drewN n)
  | _ => False

section
variable {k s i : Nat} {D0 D1 D2 : World → Prop} {o : Oper} {v : Value} {a : Act}

theorem Ph.other {L : Array Bool} {w w' : World} (h : Ph md ops k s D0 D1 D2 L w) (hr : i ∈ Region.ready md ops L) (hk : i ≠ k) (hs : i ≠ s) (h0 : D0 w → D0 w') (h1 : D1 w → D1 w') : Ph md ops k s D0 D1 D2 (L.setIfInBounds i true) w' := by
  obtain ⟨hz, hc, ha, hb⟩ := h
  obtain ⟨hlt, hun⟩ := ready_lt hr
  refine ⟨by simpa using hz, hc.set hr, ?_, ?_⟩
  · intro hsf
    rw [getD_set_ne true hs] at hsf
    rw [getD_set_ne false hk]
    exact ⟨fun h => h0 ((ha hsf).1 h), fun h => h1 ((ha hsf).2 h)⟩
  · intro hst
    rw [getD_set_ne true hs] at hst
    have := (hb hst).1 i hlt
    rw [this] at hun; cases hun

theorem Ph.head {L : Array Bool} {w : World} (h : Ph md ops k s D0 D1 D2 L w) (hr : i ∈ Region.ready md ops L) : D0 w ∨ D1 w := by
  obtain ⟨hz, hc, ha, hb⟩ := h
  obtain ⟨hlt, hun⟩ := ready_lt hr
  cases hst : L.getD s true with
  | true => have := (hb hst).1 i hlt; rw [this] at hun; cases hun
  | false =>
    cases hkL : L.getD k false with
    | true => exact .inr ((ha hst).2 hkL)
    | false => exact .inl ((ha hst).1 hkL)

theorem YL.head (hg : Region.wanted o (yielded ops a.tmps) = true) (hk : i ≠ k) (hs : i ≠ s) (h0 : ∀ w n, D0 w → D0 (w.drewN n)) (h1 : ∀ w n, D1 w → D1 (w.drewN n))
    (h : ∀ w, (D0 w ∨ D1 w) → hUpon P w v ((execOp a.eval o).run P w)) : YL P md ops (Ph md ops k s D0 D1 D2) i o v a := by
  refine .inl ⟨hg, fun L w hr hC => ?_⟩
  have hstep : ∀ n, Ph md ops k s D0 D1 D2 (L.setIfInBounds i true) (w.drewN n) := fun n => hC.other hr hk hs (h0 _ _) (h1 _ _)
  have h3 := h w (hC.head hr)
  generalize (execOp a.eval o).run P w = r at *
  cases r with
  | ok n w' =>
    cases n <;> simp only [hUpon] at h3 <;> simp only [lUpon]
    case value u => obtain ⟨rfl, rfl⟩ := h3; exact ⟨hstep 0, rfl⟩
    case skip => obtain ⟨rfl, rfl⟩ := h3; exact ⟨hstep 0, rfl⟩
    case enter f args => obtain ⟨rfl, h4⟩ := h3; exact h4.mono fun e w'' ⟨he, n, hw⟩ => ⟨he, by rw [hw]; exact hstep n⟩
  | halt x w' => simp only [hUpon] at h3

theorem YL.alloc (hg : Region.wanted o (yielded ops a.tmps) = true) (hks : k ≠ s) (h : ∀ w, D0 w → lUpon P D1 v ((execOp a.eval o).run P w)) : YL P md ops (Ph md ops k s D0 D1 D2) k o v a := by
  refine .inl ⟨hg, fun L w hr hC => ?_⟩
  obtain ⟨hz, hc, ha, hb⟩ := hC
  obtain ⟨hlt, hun⟩ := ready_lt hr
  have hsf : L.getD s true = false := by
    cases hst : L.getD s true with
    | true => have := (hb hst).1 k hlt; rw [this] at hun; cases hun
    | false => rfl
  have e : ∀ w', D1 w' → Ph md ops k s D0 D1 D2 (L.setIfInBounds k true) w' := by
    intro w' hd
    refine ⟨by simpa using hz, hc.set hr, ?_, ?_⟩
    · intro _; rw [getD_set_self false (by omega)]; exact ⟨(fun h => nomatch h), fun _ => hd⟩
    · intro hst; rw [getD_set_ne true hks, hsf] at hst; cases hst
  have h3 := h w ((ha hsf).1 (getD_false_of hun))
  generalize (execOp a.eval o).run P w = r at *
  cases r with
  | ok n w' =>
    cases n <;> simp only [lUpon] at h3 ⊢
    case value u => exact ⟨e _ h3.1, h3.2⟩
    case skip => exact ⟨e _ h3.1, h3.2⟩
    case enter f args => exact h3.mono fun _ w'' ⟨he, hw⟩ => ⟨he, e _ hw⟩
  | halt x w' => simp only [lUpon] at h3

theorem YL.last (hg : Region.wanted o (yielded ops a.tmps) = true) (hks : k < s) (hs : s + 1 = ops.size) (hsink : Region.sinkB md ops s = true) (hchain : Region.chainB md ops s = true)
    (h : ∀ w, D1 w → lUpon P D2 v ((execOp a.eval o).run P w)) : YL P md ops (Ph md ops k s D0 D1 D2) s o v a := by
  refine .inl ⟨hg, fun L w hr hC => ?_⟩
  obtain ⟨hz, hc, ha, hb⟩ := hC
  obtain ⟨hlt, hun⟩ := ready_lt hr
  have inv : HeadInv md ops s L := ⟨hz, hc, fun t h1 h2 => by obtain rfl : t = s := by omega
                                                              exact hun⟩
  have all : ∀ j, j < s → L.getD j true = true := by
    intro j hj
    cases hjL : L.getD j true with
    | true => rfl
    | false => exact absurd hr (tail_waits hsink hchain hlt inv (s - j) j rfl hj hjL s (Nat.le_refl _))
  have hkt : L.getD k false = true := by
    have h1 := all k hks
    simp [show k < L.size by omega] at h1 ⊢; exact h1
  have e : ∀ w', D2 w' → Ph md ops k s D0 D1 D2 (L.setIfInBounds s true) w' := by
    intro w' hd
    refine ⟨by simpa using hz, hc.set hr, ?_, ?_⟩
    · intro hsf; rw [getD_set_self true (by omega)] at hsf; cases hsf
    · intro _
      refine ⟨fun j hj => ?_, hd⟩
      by_cases hjs : j = s
      · subst hjs; exact getD_set_self true (by omega)
      · rw [getD_set_ne true (Ne.symm hjs)]; exact all j (by omega)
  have h3 := h w ((ha hun).2 hkt)
  generalize (execOp a.eval o).run P w = r at *
  cases r with
  | ok n w' =>
    cases n <;> simp only [lUpon] at h3 ⊢
    case value u => exact ⟨e _ h3.1, h3.2⟩
    case skip => exact ⟨e _ h3.1, h3.2⟩
    case enter f args => exact h3.mono fun _ w'' ⟨he, hw⟩ => ⟨he, e _ hw⟩
  | halt x w' => simp only [lUpon] at h3

theorem wpL_head {Q : Act → Prop} {rest : List Oper} (hg : Region.wanted o (yielded ops a.tmps) = true) (hk : i ≠ k) (hs : i ≠ s) (h0 : ∀ w n, D0 w → D0 (w.drewN n)) (h1 : ∀ w n, D1 w → D1 (w.drewN n))
    (h : ∀ K : Act → Prop, (∀ a, wpL P md ops (Ph md ops k s D0 D1 D2) Q rest (i + 1) a → K a) → ∃ v, (∀ w, (D0 w ∨ D1 w) → hUpon P w v ((execOp a.eval o).run P w)) ∧ K (a.put o.dst v)) : wpL P md ops (Ph md ops k s D0 D1 D2) Q (o :: rest) i a :=
  let ⟨v, h2, h3⟩ := h _ (fun _ h => h)
  ⟨v, YL.head hg hk hs h0 h1 h2, h3⟩
theorem wpL_alloc {Q : Act → Prop} {rest : List Oper} (hg : Region.wanted o (yielded ops a.tmps) = true) (hks : k ≠ s)
    (h : ∀ K : Act → Prop, (∀ a, wpL P md ops (Ph md ops k s D0 D1 D2) Q rest (k + 1) a → K a) → ∃ v, (∀ w, D0 w → lUpon P D1 v ((execOp a.eval o).run P w)) ∧ K (a.put o.dst v)) : wpL P md ops (Ph md ops k s D0 D1 D2) Q (o :: rest) k a :=
  let ⟨v, h2, h3⟩ := h _ (fun _ h => h)
  ⟨v, YL.alloc hg hks h2, h3⟩
theorem wpL_last {Q : Act → Prop} (hg : Region.wanted o (yielded ops a.tmps) = true) (hks : k < s) (hs : s + 1 = ops.size) (hsink : Region.sinkB md ops s = true) (hchain : Region.chainB md ops s = true)
    (h : ∃ v, (∀ w, D1 w → lUpon P D2 v ((execOp a.eval o).run P w)) ∧ Q (a.put o.dst v)) : wpL P md ops (Ph md ops k s D0 D1 D2) Q [o] s a :=
  let ⟨v, h2, h3⟩ := h
  ⟨v, YL.last hg hks hs hsink hchain h2, h3⟩
theorem call0 {f : FuncId} {args : Array Value} {w : World} (h : Calls P f args w fun e w' => e = .returned v ∧ w = w') : Calls P f args w fun e w' => e = .returned v ∧ ∃ n, w' = w.drewN n :=
  h.mono fun _ _ ⟨he, hw⟩ => ⟨he, 0, hw.symm⟩
attribute [go_sem] hUpon lUpon

/-- Every edge leads back. -/
def edgesB (md : Region.Mode) (ops : Array Oper) : Bool := (List.range ops.size).all fun i => match ops[i]? with
  | some o => o.after.all fun e => !Region.binds md e || decide (e.on < i)
  | none => true
theorem none_left {L : Array Bool} (he : edgesB md ops = true) (hr : Region.ready md ops L = []) : ∀ n, ∀ j, j < n → j < ops.size → L.getD j true = true := by
  intro n
  induction n with
  | zero => intro j hj; omega
  | succ n ih =>
    intro j hj hlt
    cases hjL : L.getD j true with
    | true => rfl
    | false =>
      exfalso
      have hm : j ∈ Region.ready md ops L := by
        refine mem_ready.2 ⟨hjL, ops[j], Array.getElem?_eq_getElem hlt, fun e hee hb => ?_⟩
        have h1 := List.all_eq_true.1 he j (List.mem_range.2 hlt)
        simp only [Array.getElem?_eq_getElem hlt] at h1
        have h2 := Array.all_eq_true_iff_forall_mem.1 h1 e hee
        simp only [hb, Bool.not_true, Bool.false_or, decide_eq_true_eq] at h2
        have h3 := ih e.on (by omega) (by omega)
        rcases Nat.lt_or_ge e.on L.size with hl | hl
        · simp [hl] at h3 ⊢; exact h3
        · exfalso
          have : L.getD j true = true := by simp [show ¬ j < L.size by omega]
          rw [this] at hjL; cases hjL
      rw [hr] at hm; cases hm

/-- The region: the head in the text's order, one allocation in it, and the store at its end. -/
theorem wp_region_alloc_store {id : Nat} {Q : Exit → Act → World → Prop} {w : World} {l : List Oper} (k s : Nat) (D0 D1 D2 : World → Prop) (hm : P.follows .mixedOrders = true) (hB : Region.lexB .any l.toArray = true) (hE : edgesB .any l.toArray = true)
    (hs : s < l.length) (hD : D0 w.drew)
    (h : wpL P .any l.toArray (Ph .any l.toArray k s D0 D1 D2) (fun a' => ∀ w', D2 w' → Q .normal a' w') l 0 a) : (Code.region id l.toArray true).wp P Q a w := by
  have hmono : ∀ (K K' : Act → Prop), (∀ a, K a → K' a) → ∀ (l' : List Oper) (j : Nat) (a : Act), wpL P .any l.toArray (Ph .any l.toArray k s D0 D1 D2) K l' j a → wpL P .any l.toArray (Ph .any l.toArray k s D0 D1 D2) K' l' j a := by
    intro K K' hK l'
    induction l' with
    | nil => intro j a h; exact hK _ h
    | cons o l' ih => intro j a ⟨v, h1, h2⟩; exact ⟨v, h1, ih _ _ h2⟩
  refine wp_region_L (Ph .any l.toArray k s D0 D1 D2) hm hB ?_ (hmono _ _ ?_ _ _ _ h)
  · refine ⟨by simp, ?_, ?_, ?_⟩
    · intro j oj _ hl; rw [getD_replicate_false] at hl; cases hl
    · intro _; exact ⟨fun _ => hD, fun h => by rw [getD_replicate_false] at h; cases h⟩
    · intro h; exfalso; simp [hs] at h
  · intro a' hq L w' hr hC
    refine hq w' ?_
    have h1 := none_left hE hr (s + 1) s (by omega) (by simpa using hs)
    exact (hC.2.2.2 h1).2
end
end

end Go.Proofs.YtnllkgjmoipgbaaGreatDoor
-- Qb
namespace Go.Proofs.YtnllkgjmoipgbaaGreatDoor
open Go Go.RowKit
set_option linter.unusedSimpArgs false
set_option linter.unusedVariables false

theorem wp_region_under {P : Program} {id : Nat} {Q : Exit → Act → World → Prop} {a : Act} {W : World} {l : List Oper} (hm : P.follows .mixedOrders = true) (hB : Region.lexB .any l.toArray = true)
    (h : wpQuiet P l.toArray (fun w' => Below W.heap.size W w') (fun a' => ∀ w', Below W.heap.size W w' → Q .normal a' w') l a) : (Code.region id l.toArray true).wp P Q a W :=
  wp_region_quiet (C := fun w' => Below W.heap.size W w') hm hB (below_drewN (Below.refl _ _) 1) (by simpa using h)

/-- A callee's contract, met in a world of the class. -/
theorem calls_under {P : Program} {f : FuncId} {args : Array Value} {W w : World} {v : Value} (hw : Below W.heap.size W w)
    (h : Calls P f args w fun e w' => e = .returned v ∧ Below w.heap.size w w') : Calls P f args w fun e w' => e = .returned v ∧ Below W.heap.size W w' :=
  h.mono fun _ _ ⟨he, hb⟩ => ⟨he, hw.trans (hb.mono hw.size)⟩

theorem calls_under_same {P : Program} {f : FuncId} {args : Array Value} {W w : World} {v : Value} (hw : Below W.heap.size W w)
    (h : Calls P f args w fun e w' => e = .returned v ∧ w = w') : Calls P f args w fun e w' => e = .returned v ∧ Below W.heap.size W w' :=
  h.mono fun _ _ ⟨he, hb⟩ => ⟨he, hb ▸ hw⟩

/-- A whole array or struct, out of a block. -/
theorem quiet_load_row {P : Program} {o : Oper} {a : Act} {C : World → Prop} {w : World} (ty : TypeId) (x : Operand) (ho : o.op = .load ty x)
    (g : Nat) (hx : a.eval x = .pointer (some ⟨g, 0, none⟩)) (t : TypeId) (cs : Array Value) (d : TypeDesc) (hg : Blk w g cs t)
    (hu : P.underlying ty = some d) (hd : (match d with | .struct _ | .array _ _ => true | _ => false) = true) (hi : (P.info? ty).map (·.size) = some cs.size) : o.quietAt P a C w (.agg cs) := by
  unfold Oper.quietAt execOp
  simp only [ho, hx, Instr.loadAt, Instr.sureAddr, Sem.run_bind, Sem.run_pure, Result.andThen_ok, run_loadVar_row w g t ty cs (0, 0) d hg hu hd hi]
  exact ⟨rfl, rfl⟩

end Go.Proofs.YtnllkgjmoipgbaaGreatDoor
-- Rl
namespace Go.Proofs.YtnllkgjmoipgbaaGreatDoor
open Go Go.RowKit
set_option linter.unusedSimpArgs false
set_option linter.unusedVariables false

section
variable {P : Program} {ops : Array Oper} {md : Region.Mode} {s i : Nat} {D0 D2 : World → Prop} {o : Oper} {v : Value} {a : Act}

def Pl (md : Region.Mode) (ops : Array Oper) (s : Nat) (D0 D2 : World → Prop) (L : Array Bool) (w : World) : Prop :=
  L.size = ops.size ∧ ClosedL md ops L ∧ (L.getD s true = false → D0 w) ∧ (L.getD s true = true → (∀ j, j < ops.size → L.getD j true = true) ∧ D2 w)

theorem Pl.head {L : Array Bool} {w : World} (h : Pl md ops s D0 D2 L w) (hr : i ∈ Region.ready md ops L) : L.getD s true = false ∧ D0 w := by
  obtain ⟨hz, hc, ha, hb⟩ := h
  obtain ⟨hlt, hun⟩ := ready_lt hr
  cases hst : L.getD s true with
  | true => have := (hb hst).1 i hlt; rw [this] at hun; cases hun
  | false => exact ⟨rfl, ha hst⟩
theorem Pl.other {L : Array Bool} {w w' : World} (h : Pl md ops s D0 D2 L w) (hr : i ∈ Region.ready md ops L) (hs : i ≠ s) (h0 : D0 w') : Pl md ops s D0 D2 (L.setIfInBounds i true) w' := by
  have h1 := h.head hr
  obtain ⟨hz, hc, ha, hb⟩ := h
  refine ⟨by simpa using hz, hc.set hr, fun _ => h0, ?_⟩
  intro hst
  rw [getD_set_ne true hs] at hst
  rw [hst] at h1; cases h1.1

theorem YL.headP (hg : Region.wanted o (yielded ops a.tmps) = true) (hs : i ≠ s) (h : ∀ w, D0 w → lUpon P D0 v ((execOp a.eval o).run P w)) : YL P md ops (Pl md ops s D0 D2) i o v a := by
  refine .inl ⟨hg, fun L w hr hC => ?_⟩
  have h3 := h w (hC.head hr).2
  generalize (execOp a.eval o).run P w = r at *
  cases r with
  | ok n w' =>
    cases n <;> simp only [lUpon] at h3 ⊢
    case value u => exact ⟨hC.other hr hs h3.1, h3.2⟩
    case skip => exact ⟨hC.other hr hs h3.1, h3.2⟩
    case enter f args => exact h3.mono fun _ w'' ⟨he, hw⟩ => ⟨he, hC.other hr hs hw⟩
  | halt x w' => simp only [lUpon] at h3
theorem YL.headNo (hg : Region.wanted o (yielded ops a.tmps) = false) (hs : i ≠ s) : YL P md ops (Pl md ops s D0 D2) i o undef a :=
  .inr ⟨hg, rfl, fun L w hr hC => hC.other hr hs (hC.head hr).2⟩

theorem YL.lastP (hg : Region.wanted o (yielded ops a.tmps) = true) (hs : s + 1 = ops.size) (hsink : Region.sinkB md ops s = true) (hchain : Region.chainB md ops s = true)
    (h : ∀ w, D0 w → lUpon P D2 v ((execOp a.eval o).run P w)) : YL P md ops (Pl md ops s D0 D2) s o v a := by
  refine .inl ⟨hg, fun L w hr hC => ?_⟩
  have hD := (hC.head hr).2
  obtain ⟨hz, hc, ha, hb⟩ := hC
  obtain ⟨hlt, hun⟩ := ready_lt hr
  have inv : HeadInv md ops s L := ⟨hz, hc, fun t h1 h2 => by obtain rfl : t = s := by omega
                                                              exact hun⟩
  have all : ∀ j, j < s → L.getD j true = true := by
    intro j hj
    cases hjL : L.getD j true with
    | true => rfl
    | false => exact absurd hr (tail_waits hsink hchain hlt inv (s - j) j rfl hj hjL s (Nat.le_refl _))
  have e : ∀ w', D2 w' → Pl md ops s D0 D2 (L.setIfInBounds s true) w' := by
    intro w' hd
    refine ⟨by simpa using hz, hc.set hr, ?_, ?_⟩
    · intro hsf; rw [getD_set_self true (by omega)] at hsf; cases hsf
    · intro _
      refine ⟨fun j hj => ?_, hd⟩
      by_cases hjs : j = s
      · subst hjs; exact getD_set_self true (by omega)
      · rw [getD_set_ne true (Ne.symm hjs)]; exact all j (by omega)
  have h3 := h w hD
  generalize (execOp a.eval o).run P w = r at *
  cases r with
  | ok n w' =>
    cases n <;> simp only [lUpon] at h3 ⊢
    case value u => exact ⟨e _ h3.1, h3.2⟩
    case skip => exact ⟨e _ h3.1, h3.2⟩
    case enter f args => exact h3.mono fun _ w'' ⟨he, hw⟩ => ⟨he, e _ hw⟩
  | halt x w' => simp only [lUpon] at h3

theorem wpP_head {Q : Act → Prop} {rest : List Oper} (hg : Region.wanted o (yielded ops a.tmps) = true) (hs : i ≠ s)
    (h : ∀ K : Act → Prop, (∀ a, wpL P md ops (Pl md ops s D0 D2) Q rest (i + 1) a → K a) → ∃ v, (∀ w, D0 w → lUpon P D0 v ((execOp a.eval o).run P w)) ∧ K (a.put o.dst v)) : wpL P md ops (Pl md ops s D0 D2) Q (o :: rest) i a :=
  let ⟨v, h2, h3⟩ := h _ (fun _ h => h)
  ⟨v, YL.headP hg hs h2, h3⟩
theorem wpP_skip {Q : Act → Prop} {rest : List Oper} (hg : Region.wanted o (yielded ops a.tmps) = false) (hs : i ≠ s)
    (h : wpL P md ops (Pl md ops s D0 D2) Q rest (i + 1) (a.put o.dst undef)) : wpL P md ops (Pl md ops s D0 D2) Q (o :: rest) i a :=
  ⟨undef, YL.headNo hg hs, h⟩
theorem wpP_last {Q : Act → Prop} (hg : Region.wanted o (yielded ops a.tmps) = true) (hs : s + 1 = ops.size) (hsink : Region.sinkB md ops s = true) (hchain : Region.chainB md ops s = true)
    (h : ∃ v, (∀ w, D0 w → lUpon P D2 v ((execOp a.eval o).run P w)) ∧ Q (a.put o.dst v)) : wpL P md ops (Pl md ops s D0 D2) Q [o] s a :=
  let ⟨v, h2, h3⟩ := h
  ⟨v, YL.lastP hg hs hsink hchain h2, h3⟩

/-- The region: the head in the text's order, and what writes at its end; D2 is what is known behind it. -/
theorem wp_region_last {id : Nat} {Q : Exit → Act → World → Prop} {W : World} {l : List Oper} (s : Nat) (D2 : World → Prop) (hm : P.follows .mixedOrders = true) (hB : Region.lexB .any l.toArray = true) (hE : edgesB .any l.toArray = true)
    (hs : s < l.length)
    (h : wpL P .any l.toArray (Pl .any l.toArray s (fun w' => Below W.heap.size W w') D2) (fun a' => ∀ w', D2 w' → Q .normal a' w') l 0 a) : (Code.region id l.toArray true).wp P Q a W := by
  have hmono : ∀ (C : Array Bool → World → Prop) (K K' : Act → Prop), (∀ a, K a → K' a) → ∀ (l' : List Oper) (j : Nat) (a : Act), wpL P .any l.toArray C K l' j a → wpL P .any l.toArray C K' l' j a := by
    intro C K K' hK l'
    induction l' with
    | nil => intro j a h; exact hK _ h
    | cons o l' ih => intro j a ⟨v, h1, h2⟩; exact ⟨v, h1, ih _ _ h2⟩
  refine wp_region_L (Pl .any l.toArray s (fun w' => Below W.heap.size W w') D2) hm hB ?_ (hmono _ _ _ ?_ _ _ _ h)
  · refine ⟨by simp, ?_, ?_, ?_⟩
    · intro j oj _ hl; rw [getD_replicate_false] at hl; cases hl
    · intro _; exact (Below.refl _ _).drew
    · intro h; exfalso; simp [hs] at h
  · intro a' hq L w' hr hC
    refine hq w' ?_
    have h1 := none_left hE hr (s + 1) s (by omega) (by simpa using hs)
    exact (hC.2.2.2 h1).2

theorem last_call {f : FuncId} {args : Array Value} {w : World} {v : Value} {D : World → Prop} (h : Calls P f args w fun e w' => e = .returned v ∧ D w') : Calls P f args w fun e w' => e = .returned v ∧ D w' := h
end

end Go.Proofs.YtnllkgjmoipgbaaGreatDoor
-- Mid
namespace Go.Proofs.YtnllkgjmoipgbaaGreatDoor
open Go Go.RowKit
set_option linter.unusedSimpArgs false
set_option linter.unusedVariables false

theorem range_of_blk {w : World} {b : Nat} {cs : List Value} {t : TypeId} (h : Blk w b cs.toArray t) : w.rangeAt b 0 cs := fun j v hv => by
  rw [Nat.zero_add, Blk.cell h]; simpa using hv
theorem there_of_blk {w : World} {b : Nat} {cs : List Value} {t : TypeId} (h : Blk w b cs.toArray t) {o n : Nat} (hn : o + n ≤ cs.length) : w.there b o n := fun j hj => by
  refine ⟨?_, Blk.free h _⟩
  rw [Blk.cell h]; simp; omega
theorem range_split {w : World} {b o : Nat} {xs ys : List Value} (h : w.rangeAt b o (xs ++ ys)) {n : Nat} (hn : xs.length = n) : w.rangeAt b o xs ∧ w.rangeAt b (o + n) ys := by
  subst hn
  refine ⟨fun j v hv => h j v ?_, fun j v hv => ?_⟩
  · rw [List.getElem?_append_left (List.getElem?_eq_some_iff.1 hv).1]; exact hv
  · have := h (xs.length + j) v (by rw [List.getElem?_append_right (by omega)]; simpa using hv)
    rw [← Nat.add_assoc] at this; exact this
theorem range_join {w : World} {b o n : Nat} {xs ys : List Value} (h1 : w.rangeAt b o xs) (hn : xs.length = n) (h2 : w.rangeAt b (o + n) ys) : w.rangeAt b o (xs ++ ys) := by
  subst hn
  intro j v hv
  by_cases hj : j < xs.length
  · rw [List.getElem?_append_left hj] at hv; exact h1 j v hv
  · rw [List.getElem?_append_right (by omega)] at hv
    have := h2 _ v hv
    rwa [show o + xs.length + (j - xs.length) = o + j by omega] at this
theorem range_one {w : World} {b o : Nat} {v : Value} (h : w.rangeAt b o [v]) : w.cell? ⟨b, o, none⟩ = some v := h 0 v rfl
theorem range_cons {w : World} {b o : Nat} {v : Value} {ys : List Value} (h : w.rangeAt b o (v :: ys)) : w.cell? ⟨b, o, none⟩ = some v ∧ w.rangeAt b (o + 1) ys :=
  ⟨h 0 v rfl, (range_split (xs := [v]) h rfl).2⟩
theorem range_nth {α : Type} {f : α → Value} {w : World} {b o : Nat} {xs : List α} (h : w.rangeAt b o (xs.map f)) (d : α) {j : Nat} (hj : j < xs.length) : w.cell? ⟨b, o + j, none⟩ = some (f (nth d xs j)) :=
  h j _ (by rw [List.getElem?_map, List.getElem?_eq_getElem hj, nth_lt hj]; rfl)
theorem range_int {w : World} {b o : Nat} {xs : List Int} (h : w.rangeAt b o (xs.map (Value.int .i64))) {j : Nat} (hj : j < xs.length) : w.cell? ⟨b, o + j, none⟩ = some (.int .i64 (nth 0 xs j)) := range_nth h 0 hj
theorem range_below {w w' : World} {b o : Nat} {cs : List Value} (h : w.rangeAt b o cs) (hb : Below w.heap.size w w') : w'.rangeAt b o cs := fun j v hv => by
  have := h j v hv
  rw [hb.cell (World.block_lt_of_cell? w _ this)]; exact this
theorem range_tr {w w' : World} {S : List Nat} {b o : Nat} {cs : List Value} (h : w.rangeAt b o cs) (hb : Tr S w w') (hn : b ∉ S) : w'.rangeAt b o cs := fun j v hv => by
  have h1 := h j v hv
  have hl : b < w.heap.size := World.block_lt_of_cell? w ⟨b, o + j, none⟩ h1
  have e : w'.heap[b]? = w.heap[b]? := hb.block b hl hn
  have : w'.cell? ⟨b, o + j, none⟩ = w.cell? ⟨b, o + j, none⟩ := by simp [World.cell?, e]
  rw [this]; exact h1
theorem there_below {w w' : World} {b o n : Nat} (h : w.there b o n) (hb : Below w.heap.size w w') : w'.there b o n := fun j hj => by
  obtain ⟨h1, h2⟩ := h j hj
  obtain ⟨v, hv⟩ := Option.isSome_iff_exists.1 h1
  have hl := World.block_lt_of_cell? w _ hv
  exact ⟨by rw [hb.cell hl]; exact h1, by rw [hb.frozen hl]; exact h2⟩
theorem there_tr {w w' : World} {S : List Nat} {b o n : Nat} (h : w.there b o n) (hb : Tr S w w') (hn : b ∉ S) : w'.there b o n := fun j hj => by
  obtain ⟨h1, h2⟩ := h j hj
  obtain ⟨v, hv⟩ := Option.isSome_iff_exists.1 h1
  have hl : b < w.heap.size := World.block_lt_of_cell? w ⟨b, o + j, none⟩ hv
  have e : w'.heap[b]? = w.heap[b]? := hb.block b hl hn
  have e1 : w'.cell? ⟨b, o + j, none⟩ = w.cell? ⟨b, o + j, none⟩ := by simp [World.cell?, e]
  have e2 : w'.frozen? ⟨b, o + j, none⟩ = w.frozen? ⟨b, o + j, none⟩ := by simp [World.frozen?, e]
  exact ⟨by rw [e1]; exact h1, by rw [e2]; exact h2⟩

/-- What a row that is written over leaves. -/
def laidL : List Value → Nat → List Value → List Value
  | cs, _, [] => cs
  | cs, o, v :: r => laidL (cs.set o v) (o + 1) r
theorem laidL_length : ∀ (vs cs : List Value) (o : Nat), (laidL cs o vs).length = cs.length
  | [], _, _ => rfl
  | v :: r, cs, o => by rw [laidL, laidL_length r]; simp
theorem laidL_mid : ∀ (vs pr xs bs : List Value), xs.length = vs.length → laidL (pr ++ (xs ++ bs)) pr.length vs = pr ++ (vs ++ bs)
  | [], pr, xs, bs, h => by rw [List.length_eq_zero_iff.1 h]; rfl
  | v :: r, pr, [], bs, h => by simp at h
  | v :: r, pr, x :: xs, bs, h => by
    rw [laidL]
    have e : (pr ++ (x :: xs ++ bs)).set pr.length v = (pr ++ [v]) ++ (xs ++ bs) := by
      rw [List.set_append_right _ _ (Nat.le_refl _)]; simp
    rw [e]
    have := laidL_mid r (pr ++ [v]) xs bs (by simpa using h)
    rw [List.length_append, List.length_singleton] at this
    rw [this]; simp
theorem Blk.laid : ∀ (vs : List Value) {w : World} {b : Nat} {cs : List Value} {t : TypeId} (o : Nat), Blk w b cs.toArray t → Blk (w.setCells b o vs) b (laidL cs o vs).toArray t
  | [], _, _, _, _, _, h => h
  | v :: r, w, b, cs, t, o, h => by
    rw [World.setCells, laidL]
    refine Blk.laid r (o + 1) ?_
    have := Blk.set (i := o) h v
    rwa [List.setIfInBounds_toArray] at this
theorem Blk.laid_other : ∀ (vs : List Value) {w : World} {b g : Nat} {cs : Array Value} {t : TypeId} (o : Nat), Blk w b cs t → b ≠ g → Blk (w.setCells g o vs) b cs t
  | [], _, _, _, _, _, _, h, _ => h
  | v :: r, w, b, g, cs, t, o, h, hn => by rw [World.setCells]; exact Blk.laid_other r (o + 1) (Blk.other h _ hn) hn
theorem below_laid {B : Nat} : ∀ (vs : List Value) {a w : World} {g : Nat} (o : Nat), Below B a w → B ≤ g → Below B a (w.setCells g o vs)
  | [], _, _, _, _, h, _ => h
  | v :: r, a, w, g, o, h, hg => by rw [World.setCells]; exact below_laid r (o + 1) (h.setCell (by simpa using hg) _) hg
theorem Tr.laid {S : List Nat} : ∀ (vs : List Value) {a w : World} {g : Nat} (o : Nat), Tr S a w → g ∈ S → Tr S a (w.setCells g o vs)
  | [], _, _, _, _, h, _ => h
  | v :: r, a, w, g, o, h, hg => by rw [World.setCells]; exact Tr.laid r (o + 1) (h.setCell _ hg _) hg

/-- A row out of the middle of a block, at the head of a region that draws its order. -/
theorem mid_upon {P : Program} {o : Oper} {a : Act} {D : World → Prop} {w : World} (ty : TypeId) (x : Operand) (ho : o.op = .load ty x)
    (g off : Nat) (hx : a.eval x = .pointer (some ⟨g, off, none⟩)) (cs : List Value) (d : TypeDesc) (hg : w.rangeAt g off cs)
    (hu : P.underlying ty = some d) (hd : d.isRow = true) (hi : (P.info? ty).map (·.size) = some cs.length) (hD : D w) : lUpon P D (.agg cs.toArray) ((execOp a.eval o).run P w) := by
  unfold execOp
  simp only [ho, hx, Instr.loadAt, Instr.sureAddr, Sem.run_bind, Sem.run_pure, Result.andThen_ok, run_loadVar_mid w g off ty cs d hg hu hd hi, lUpon]
  exact ⟨hD, trivial⟩
theorem quiet_load_mid {P : Program} {o : Oper} {a : Act} {C : World → Prop} {w : World} (ty : TypeId) (x : Operand) (ho : o.op = .load ty x)
    (g off : Nat) (hx : a.eval x = .pointer (some ⟨g, off, none⟩)) (cs : List Value) (d : TypeDesc) (hg : w.rangeAt g off cs)
    (hu : P.underlying ty = some d) (hd : d.isRow = true) (hi : (P.info? ty).map (·.size) = some cs.length) : o.quietAt P a C w (.agg cs.toArray) := by
  unfold Oper.quietAt execOp
  simp only [ho, hx, Instr.loadAt, Instr.sureAddr, Sem.run_bind, Sem.run_pure, Result.andThen_ok, run_loadVar_mid w g off ty cs d hg hu hd hi]
  exact ⟨rfl, rfl⟩
/-- Ints, as cells of a list. -/
def intsC (xs : List Int) : List Value := xs.map (Value.int .i64)
theorem intsC_length (xs : List Int) : (intsC xs).length = xs.length := by simp [intsC]
theorem cellsI_of (xs : List Int) : cellsI xs = (intsC xs).toArray := rfl
theorem aggI_of (xs : List Int) : aggI xs = .agg (intsC xs).toArray := rfl
theorem range_ints {w : World} {b o : Nat} {xs : List Int} (h : w.rangeAt b o (intsC xs)) {j : Nat} (hj : j < xs.length) : w.cell? ⟨b, o + j, none⟩ = some (.int .i64 (nth 0 xs j)) := range_int h hj
end Go.Proofs.YtnllkgjmoipgbaaGreatDoor
-- Fld
namespace Go.Proofs.YtnllkgjmoipgbaaGreatDoor
open Go Go.RowKit
set_option linter.unusedSimpArgs false
set_option linter.unusedVariables false

/-- Where field i begins, by the fields' lengths. -/
def offL (ns : List Nat) (i : Nat) : Nat := (ns.take i).sum
theorem flat_at {L : List (List Value)} {i : Nat} {x : List Value} (h : L[i]? = some x) : L.flatten = (L.take i).flatten ++ (x ++ (L.drop (i + 1)).flatten) := by
  obtain ⟨hi, rfl⟩ := List.getElem?_eq_some_iff.1 h
  have e := congrArg List.flatten (List.take_append_drop i L)
  rw [List.drop_eq_getElem_cons hi, List.flatten_append, List.flatten_cons] at e
  exact e.symm
theorem flat_set {L : List (List Value)} {i : Nat} (h : i < L.length) (y : List Value) : (L.set i y).flatten = (L.take i).flatten ++ (y ++ (L.drop (i + 1)).flatten) := by
  rw [List.set_eq_take_append_cons_drop, if_pos h]; simp
theorem flat_len (L : List (List Value)) {ns : List Nat} (hn : L.map List.length = ns) (i : Nat) : (L.take i).flatten.length = offL ns i := by
  subst hn; rw [List.length_flatten, offL, List.map_take]

section
variable {w : World} {b : Nat} {L : List (List Value)} {t : TypeId} {ns : List Nat} {i o : Nat} {x : List Value}
theorem fld_range (h : Blk w b L.flatten.toArray t) (hn : L.map List.length = ns) (i : Nat) (hi : L[i]? = some x) (ho : offL ns i = o) : w.rangeAt b o x := by
  rw [flat_at hi] at h
  have h1 := (range_split (range_of_blk h) (flat_len L hn i)).2
  rw [Nat.zero_add, ho] at h1
  exact (range_split h1 rfl).1
theorem fld_cell {v : Value} (h : Blk w b L.flatten.toArray t) (hn : L.map List.length = ns) (i : Nat) (hi : L[i]? = some [v]) (ho : offL ns i = o) : w.cell? ⟨b, o, none⟩ = some v := range_one (fld_range h hn i hi ho)
theorem fld_there (h : Blk w b L.flatten.toArray t) (hn : L.map List.length = ns) (o n : Nat) (hl : o + n ≤ ns.sum) : w.there b o n := by
  refine there_of_blk h ?_
  rw [List.length_flatten, hn]; exact hl
theorem fld_set (h : Blk w b L.flatten.toArray t) (hn : L.map List.length = ns) (i : Nat) (vs : List Value) (hi : L[i]? = some x) (hl : vs.length = x.length) (ho : offL ns i = o) : Blk (w.setCells b o vs) b (L.set i vs).flatten.toArray t := by
  have h1 := Blk.laid vs o h
  rw [flat_at hi, laidL_at' _ _ _ _ _ (by rw [flat_len L hn i, ho]) hl.symm] at h1
  rwa [flat_set (List.getElem?_eq_some_iff.1 hi).1]
where
  laidL_at' (pr xs bs vs : List Value) (o : Nat) (hp : pr.length = o) (h : xs.length = vs.length) : laidL (pr ++ (xs ++ bs)) o vs = pr ++ (vs ++ bs) := by
    subst hp; exact laidL_mid vs pr xs bs h
theorem fld_set1 (h : Blk w b L.flatten.toArray t) (hn : L.map List.length = ns) (i j : Nat) (v : Value) (hi : L[i]? = some x) (hj : j < x.length) {oj : Nat} (ho : offL ns i + j = oj) : Blk (w.setCell ⟨b, oj, none⟩ v) b (L.set i (x.set j v)).flatten.toArray t := by
  have h1 := Blk.set (i := oj) h v
  rw [List.setIfInBounds_toArray, flat_at hi, List.set_append_right _ _ (by rw [flat_len L hn i]; omega), flat_len L hn i, List.set_append_left _ _ (by omega),
    show oj - offL ns i = j by omega] at h1
  rwa [flat_set (List.getElem?_eq_some_iff.1 hi).1]
end
end Go.Proofs.YtnllkgjmoipgbaaGreatDoor
-- Bits
namespace Go.Proofs.YtnllkgjmoipgbaaGreatDoor
open Go Go.RowKit
set_option linter.unusedSimpArgs false
set_option linter.unusedVariables false

theorem ref01_Mod (n m : Int) (hn : -9223372036854775808 ≤ n ∧ n ≤ 9223372036854775807) (hm : 0 < m) (hm' : m ≤ 9223372036854775807) (w : World) : Calls Tryz.prog 143 #[.int .i64 n, .int .i64 m] w fun e w' => e = .returned (.int .i64 (n % m)) ∧ w = w' := by
  have e0 : Int.tmod n m = if 0 ≤ n then n % m else -((-n) % m) := by
    split
    · rename_i h; exact Int.tmod_eq_emod_of_nonneg h
    · rename_i h
      have : n = -(-n) := by omega
      rw [this, Int.neg_tmod, Int.tmod_eq_emod_of_nonneg (by omega)]; simp
  have h0 := Int.emod_nonneg n (show m ≠ 0 by omega)
  have h1 := Int.emod_lt_of_pos n hm
  have h2 := Int.emod_nonneg (-n) (show m ≠ 0 by omega)
  have h3 := Int.emod_lt_of_pos (-n) hm
  have h4 : n % m = if Int.tmod n m < 0 then Int.tmod n m + m else Int.tmod n m := by
    rw [e0]
    by_cases hn0 : 0 ≤ n
    · rw [if_pos hn0, if_neg (by omega)]
    · rw [if_neg hn0]
      by_cases hz : (-n) % m = 0
      · rw [hz]; simp
        exact Int.emod_eq_zero_of_dvd (by have := Int.dvd_of_emod_eq_zero hz; exact Int.dvd_neg.1 this)
      · rw [if_pos (by omega)]
        have : n % m = (m - (-n) % m) % m := by
          rw [Int.sub_emod, Int.emod_emod_of_dvd _ (Int.dvd_refl m), ← Int.sub_emod]
          rw [show m - -n = n + m from by omega, Int.add_emod_right]
        rw [this, Int.emod_eq_of_lt (by omega) (by omega)]; omega
  have h5 : -m < Int.tmod n m ∧ Int.tmod n m < m := by rw [e0]; split <;> omega
  by_cases hn0 : 0 ≤ n
  · clear e0 h4 h5 h2 h3
    have hlt : ¬ n % m < 0 := by omega
    go_enter Tryz.func143, Tryz.ntmps143
    go_wp2
    go_ret
    exact ⟨rfl, rfl⟩
  · clear e0 h2 h3
    by_cases hr : Int.tmod n m < 0
    · rw [if_pos hr] at h4
      have H4 := Lib.hid h4; clear h4
      go_enter Tryz.func143, Tryz.ntmps143
      go_wp2
      go_ret
      exact ⟨ret_int H4.out.symm, rfl⟩
    · rw [if_neg hr] at h4
      have H4 := Lib.hid h4; clear h4
      go_enter Tryz.func143, Tryz.ntmps143
      go_wp2
      go_ret
      exact ⟨ret_int H4.out.symm, rfl⟩

theorem ref01_Word (n : Int) (hn : -9223372036854775808 ≤ n ∧ n ≤ 9223372036854775807) (w : World) : Calls Tryz.prog 90 #[.int .i64 n] w fun e w' => e = .returned (.int .i64 (n % 65536)) ∧ w = w' := by
  go_enter Tryz.func90, Tryz.ntmps90
  go_wp2_with fail
  refine (ref01_Mod n 65536 hn (by decide) (by decide) _).mono ?_; rintro e w' ⟨rfl, rfl⟩
  go_wp2
  go_ret
  exact ⟨rfl, rfl⟩

/-- A bit of a number, from 0 to 15. -/
def bitI (n k : Int) : Int := if 0 ≤ k ∧ k ≤ 15 then n / 2 ^ k.toNat % 2 else 0
theorem bitI_range (n k : Int) : 0 ≤ bitI n k ∧ bitI n k ≤ 1 := by unfold bitI; split <;> omega

theorem bits_Bit (n k : Int) (w : World) : Calls Tryz.prog 129 #[.int .i64 n, .int .i64 k] w fun e w' => e = .returned (.int .i64 (bitI n k)) ∧ w = w' := by
  by_cases h0 : 0 ≤ k
  · by_cases h1 : k ≤ 15
    · go_enter Tryz.func129, Tryz.ntmps129
      go_wp2
      go_ret
      refine ⟨ret_int ?_, rfl⟩
      unfold bitI; rw [if_pos ⟨h0, h1⟩]
    · have e : bitI n k = 0 := by unfold bitI; rw [if_neg (by omega)]
      rw [e]
      go_enter Tryz.func129, Tryz.ntmps129
      go_wp2
      go_ret
      exact ⟨rfl, rfl⟩
  · have e : bitI n k = 0 := by unfold bitI; rw [if_neg (by omega)]
    rw [e]
    go_enter Tryz.func129, Tryz.ntmps129
    go_wp2
    go_ret
    exact ⟨rfl, rfl⟩

end Go.Proofs.YtnllkgjmoipgbaaGreatDoor
-- Pd
namespace Go.Proofs.YtnllkgjmoipgbaaGreatDoor
open Go Go.RowKit
set_option linter.unusedSimpArgs false
set_option linter.unusedVariables false
set_option maxRecDepth 100000

/-- Bytes, as cells of a list. -/
def bytesC (xs : List Int) : List Value := xs.map (Value.int .u8)
theorem bytesC_length (xs : List Int) : (bytesC xs).length = xs.length := by simp [bytesC]

/-! ### Colours -/
structure VceV where
  control : Int
  addr : Int
  table : List Int
def VceV.cells (v : VceV) : List Value := [.int .i64 v.control, .int .i64 v.addr] ++ intsC v.table
def VceV.Len (v : VceV) : Prop := v.table.length = 512
theorem VceV.length {v : VceV} (h : v.Len) : v.cells.length = 514 := by unfold VceV.Len at h; simp [VceV.cells, intsC_length, h]
/-- What is shown of a number. -/
def VceV.colour (v : VceV) (k : Int) : Int :=
  if bitI v.control 7 = 0 then nth 0 v.table (k % 512).toNat % 512
  else (4 * (nth 0 v.table (k % 512).toNat % 512 / 64) + 2 * (nth 0 v.table (k % 512).toNat % 512 / 8 % 8) + nth 0 v.table (k % 512).toNat % 512 % 8) / 7 * 73
theorem VceV.colour_in (v : VceV) (k : Int) : 0 ≤ v.colour k ∧ v.colour k < 512 := by
  unfold VceV.colour
  generalize nth 0 v.table (k % 512).toNat = c
  split <;> omega
theorem tVce : (Tryz.prog.info? 40).map (·.size) = some 514 := by kernel_rfl
theorem tVce12 : (Tryz.prog.info? 81).map (·.size) = some 514 := by kernel_rfl
/-- The cells of colours in a block. -/
theorem VceV.reads {w : World} {b o : Nat} {v : VceV} (h : w.rangeAt b o v.cells) (hl : v.Len) : w.cell? ⟨b, o, none⟩ = some (.int .i64 v.control) ∧ w.cell? ⟨b, o + 1, none⟩ = some (.int .i64 v.addr) ∧ ∀ j, j < 512 → w.cell? ⟨b, o + 2 + j, none⟩ = some (.int .i64 (nth 0 v.table j)) := by
  obtain ⟨h1, h2⟩ := range_cons h
  obtain ⟨h3, h4⟩ := range_cons h2
  exact ⟨h1, h3, fun j hj => range_ints h4 (by rw [hl]; exact hj)⟩
theorem nth_set_in0 {P : Int → Prop} {xs : List Int} {k : Nat} {x : Int} (h : ∀ j, P (nth 0 xs j)) (hx : P x) : ∀ j, P (nth 0 (xs.set k x) j) := by
  intro j
  by_cases hk : k = j
  · subst hk
    by_cases hl : k < xs.length
    · rw [nth_set_eq hl]; exact hx
    · rw [List.set_eq_of_length_le (by omega)]; exact h k
  · rw [nth_set_ne hk]; exact h j
theorem nth_set_in {lo hi : Int} {xs : List Int} {k : Nat} {x : Int} (h : ∀ j, lo ≤ nth 0 xs j ∧ nth 0 xs j ≤ hi) (hx : lo ≤ x ∧ x ≤ hi) : ∀ j, lo ≤ nth 0 (xs.set k x) j ∧ nth 0 (xs.set k x) j ≤ hi :=
  nth_set_in0 (P := fun y => lo ≤ y ∧ y ≤ hi) h hx
structure VceV.Ok (v : VceV) : Prop where
  len : v.Len
  control : 0 ≤ v.control ∧ v.control ≤ 255
  addr : 0 ≤ v.addr ∧ v.addr ≤ 511
  table : ∀ j, 0 ≤ nth 0 v.table j ∧ nth 0 v.table j ≤ 511
/-- Behind a write. -/
def VceV.write (v : VceV) (at' b : Int) : VceV :=
  if at' = 0 then { v with control := b }
  else if at' = 2 then { v with addr := v.addr / 256 * 256 + b }
  else if at' = 3 then { v with addr := v.addr % 256 + b % 2 * 256 }
  else if at' = 4 then { v with table := v.table.set v.addr.toNat (nth 0 v.table v.addr.toNat / 256 * 256 + b) }
  else if at' = 5 then { v with addr := (v.addr + 1) % 512, table := v.table.set v.addr.toNat (nth 0 v.table v.addr.toNat % 256 + b % 2 * 256) }
  else v
/-- What is read, and it behind that. -/
def VceV.read (v : VceV) (at' : Int) : Int := if at' = 4 then nth 0 v.table v.addr.toNat % 256 else if at' = 5 then 254 + nth 0 v.table v.addr.toNat / 256 else 255
def VceV.got (v : VceV) (at' : Int) : VceV := if at' = 5 then { v with addr := (v.addr + 1) % 512 } else v
theorem VceV.Ok.write {v : VceV} (h : v.Ok) (at' b : Int) (hb : 0 ≤ b ∧ b ≤ 255) : (v.write at' b).Ok := by
  have ha := h.addr
  have ht := h.table v.addr.toNat
  unfold VceV.write
  split
  · exact ⟨h.len, hb, h.addr, h.table⟩
  · split
    · exact ⟨h.len, h.control, by show 0 ≤ v.addr / 256 * 256 + b ∧ v.addr / 256 * 256 + b ≤ 511; omega, h.table⟩
    · split
      · exact ⟨h.len, h.control, by show 0 ≤ v.addr % 256 + b % 2 * 256 ∧ v.addr % 256 + b % 2 * 256 ≤ 511; omega, h.table⟩
      · split
        · exact ⟨by have := h.len; unfold VceV.Len at *; simpa using this, h.control, h.addr, nth_set_in h.table (by omega)⟩
        · split
          · exact ⟨by have := h.len; unfold VceV.Len at *; simpa using this, h.control, by show 0 ≤ (v.addr + 1) % 512 ∧ (v.addr + 1) % 512 ≤ 511; omega, nth_set_in h.table (by omega)⟩
          · exact h
theorem VceV.Ok.got {v : VceV} (h : v.Ok) (at' : Int) : (v.got at').Ok := by
  have ha := h.addr
  unfold VceV.got
  split
  · exact ⟨h.len, h.control, by show 0 ≤ (v.addr + 1) % 512 ∧ (v.addr + 1) % 512 ≤ 511; omega, h.table⟩
  · exact h

/-! ### Registers -/
structure RegsV where
  sel : Int
  R : List Int
def RegsV.cells (v : RegsV) : List Value := [.int .i64 v.sel] ++ intsC v.R
def RegsV.Len (v : RegsV) : Prop := v.R.length = 20
theorem RegsV.length {v : RegsV} (h : v.Len) : v.cells.length = 21 := by unfold RegsV.Len at h; simp [RegsV.cells, intsC_length, h]
def RegsV.reg (v : RegsV) (k : Nat) : Int := nth 0 v.R k
theorem tRegs : (Tryz.prog.info? 30).map (·.size) = some 21 := by kernel_rfl
theorem RegsV.reads {w : World} {b o : Nat} {v : RegsV} (h : w.rangeAt b o v.cells) (hl : v.Len) : w.cell? ⟨b, o, none⟩ = some (.int .i64 v.sel) ∧ ∀ j, j < 20 → w.cell? ⟨b, o + 1 + j, none⟩ = some (.int .i64 (v.reg j)) := by
  obtain ⟨h1, h2⟩ := range_cons h
  exact ⟨h1, fun j hj => range_ints h2 (by rw [hl]; exact hj)⟩
/-- The map's cells. -/
def RegsV.wide (v : RegsV) : Int := if v.reg 9 / 16 % 4 = 0 then 32 else if v.reg 9 / 16 % 4 = 1 then 64 else 128
def RegsV.high (v : RegsV) : Int := if v.reg 9 / 64 % 2 = 0 then 32 else 64
/-- The bits that a register may have. -/
def masksL : List Int := [65535, 65535, 65535, 0, 0, 8191, 1023, 1023, 511, 255, 32543, 32639, 65311, 511, 255, 31, 65535, 65535, 65535, 65535]
def maskOf (k : Nat) : Int := nth 0 masksL k
def andI (a b : Int) : Int := ((a.toNat &&& b.toNat : Nat) : Int)
theorem andI_le (a b : Int) (hb : 0 ≤ b) : 0 ≤ andI a b ∧ andI a b ≤ b := by
  unfold andI
  have : a.toNat &&& b.toNat ≤ b.toNat := Nat.and_le_right
  omega
theorem andI_idem (a b : Int) : andI (andI a b) b = andI a b := by
  unfold andI
  rw [Int.toNat_natCast, Nat.and_assoc, Nat.and_self]
theorem maskOf_in (k : Nat) : 0 ≤ maskOf k ∧ maskOf k ≤ 65535 := by
  by_cases h : k < 20
  · have : ∀ k : Fin 20, 0 ≤ maskOf k.val ∧ maskOf k.val ≤ 65535 := by decide
    exact this ⟨k, h⟩
  · unfold maskOf; rw [nth_ge (by simp [masksL]; omega)]; decide
structure RegsV.Ok (r : RegsV) : Prop where
  len : r.Len
  sel : 0 ≤ r.sel ∧ r.sel ≤ 31
  pos : ∀ k, 0 ≤ r.reg k
  mask : ∀ k, andI (r.reg k) (maskOf k) = r.reg k
theorem RegsV.Ok.reg {r : RegsV} (h : r.Ok) (k : Nat) : 0 ≤ r.reg k ∧ r.reg k ≤ 65535 := by
  have := h.mask k
  have h2 := andI_le (r.reg k) (maskOf k) (maskOf_in k).1
  have h3 := maskOf_in k
  omega
theorem RegsV.Ok.set {r : RegsV} (h : r.Ok) (k : Nat) (x : Int) (hx : 0 ≤ x) (hm : andI x (maskOf k) = x) : RegsV.Ok { r with R := r.R.set k x } := by
  refine ⟨by have := h.len; unfold RegsV.Len at *; simpa using this, h.sel, fun j => ?_, fun j => ?_⟩
  · show 0 ≤ nth 0 (r.R.set k x) j
    exact nth_set_in0 (P := fun y => 0 ≤ y) h.pos hx j
  · show andI (nth 0 (r.R.set k x) j) (maskOf j) = nth 0 (r.R.set k x) j
    by_cases hk : k = j
    · subst hk
      by_cases hl : k < r.R.length
      · rw [nth_set_eq hl]; exact hm
      · rw [List.set_eq_of_length_le (by omega)]; exact h.mask k
    · rw [nth_set_ne hk]; exact h.mask j
/-- A write: the word that a port's byte makes, what the register becomes, and what it brings about. -/
def RegsV.word (r : RegsV) (at' b : Int) : Int := if at' = 2 then r.reg r.sel.toNat / 256 * 256 + b else r.reg r.sel.toNat % 256 + 256 * b
def RegsV.write (r : RegsV) (at' b : Int) : RegsV :=
  if at' = 0 then { r with sel := b % 32 }
  else if (at' = 2 ∨ at' = 3) ∧ r.sel < 20 then { r with R := r.R.set r.sel.toNat (andI (r.word at' b) (maskOf r.sel.toNat)) }
  else r
def regEffect (sel : Int) (high : Bool) : Int :=
  if sel = 0 then 1 else if sel = 2 then (if high then 4 else 3) else if high then (if sel = 1 then 2 else if sel = 5 then 5 else if sel = 18 then 6 else if sel = 19 then 7 else 0) else 0
def RegsV.effect (r : RegsV) (at' : Int) : Int := if (at' = 2 ∨ at' = 3) ∧ r.sel < 20 then regEffect r.sel (at' == 3) else 0
theorem RegsV.word_in {r : RegsV} (h : r.Ok) (at' b : Int) (hb : 0 ≤ b ∧ b ≤ 255) : 0 ≤ r.word at' b ∧ r.word at' b ≤ 65535 := by
  have := h.reg r.sel.toNat
  unfold RegsV.word
  split <;> omega
theorem RegsV.Ok.write {r : RegsV} (h : r.Ok) (at' b : Int) (hb : 0 ≤ b ∧ b ≤ 255) : (r.write at' b).Ok := by
  unfold RegsV.write
  split
  · exact ⟨h.len, by show 0 ≤ b % 32 ∧ b % 32 ≤ 31; omega, h.pos, h.mask⟩
  · split
    · exact h.set _ _ (andI_le _ _ (maskOf_in _).1).1 (andI_idem _ _)
    · exact h
/-- The step of places. -/
def RegsV.far (r : RegsV) : Int := if r.reg 5 / 2048 % 4 = 0 then 1 else if r.reg 5 / 2048 % 4 = 1 then 32 else if r.reg 5 / 2048 % 4 = 2 then 64 else 128

/-! ### The timer -/
structure TimerV where
  reload : Int
  count : Int
  on : Bool
  pre : Int
def TimerV.cells (t : TimerV) : List Value := [.int .i64 t.reload, .int .i64 t.count, .bool t.on, .int .i64 t.pre]
def TimerV.validB (t : TimerV) : Bool := decide (0 ≤ t.reload ∧ t.reload ≤ 127) && decide (0 ≤ t.count ∧ t.count ≤ 127) && decide (0 ≤ t.pre ∧ t.pre ≤ 3071) && (t.on || decide (t.pre = 0))
structure TimerV.Ok (t : TimerV) : Prop where
  reload : 0 ≤ t.reload ∧ t.reload ≤ 127
  count : 0 ≤ t.count ∧ t.count ≤ 127
  pre : 0 ≤ t.pre ∧ t.pre ≤ 3071
  off : t.on = false → t.pre = 0
/-- So many ticks on. -/
def TimerV.adv (t : TimerV) (n : Int) : TimerV :=
  if t.on = true ∧ 1 ≤ n then
    if (t.pre + n) / 3072 ≤ t.count then { t with pre := (t.pre + n) % 3072, count := t.count - (t.pre + n) / 3072 }
    else { t with pre := (t.pre + n) % 3072, count := t.reload - ((t.pre + n) / 3072 - (t.count + 1)) % (t.reload + 1) }
  else t
/-- How often it came round. -/
def TimerV.around (t : TimerV) (n : Int) : Int :=
  if t.on = true ∧ 1 ≤ n then (if (t.pre + n) / 3072 ≤ t.count then 0 else 1 + ((t.pre + n) / 3072 - (t.count + 1)) / (t.reload + 1)) else 0
def TimerV.rings (t : TimerV) (n : Int) : Prop := t.on = true ∧ 1 ≤ n ∧ t.count < (t.pre + n) / 3072
instance (t : TimerV) (n : Int) : Decidable (t.rings n) := by unfold TimerV.rings; infer_instance
theorem TimerV.around_pos {t : TimerV} (h : t.Ok) (n : Int) : 0 < t.around n ↔ t.rings n := by
  have hr := h.reload
  unfold TimerV.around TimerV.rings
  by_cases ho : t.on = true ∧ 1 ≤ n
  · rw [if_pos ho]
    by_cases hs : (t.pre + n) / 3072 ≤ t.count
    · rw [if_pos hs]
      constructor
      · intro k; omega
      · intro k; omega
    · rw [if_neg hs]
      constructor
      · intro _; exact ⟨ho.1, ho.2, by omega⟩
      · intro _
        have : 0 ≤ ((t.pre + n) / 3072 - (t.count + 1)) / (t.reload + 1) := Int.ediv_nonneg (by omega) (by omega)
        omega
  · rw [if_neg ho]
    constructor
    · intro k; omega
    · intro k; exact absurd ⟨k.1, k.2.1⟩ ho
theorem TimerV.Ok.adv {t : TimerV} (h : t.Ok) (n : Int) : (t.adv n).Ok := by
  have hr := h.reload; have hc := h.count; have hp := h.pre
  unfold TimerV.adv
  split
  · rename_i ho
    have hq : 0 ≤ (t.pre + n) / 3072 := Int.ediv_nonneg (by omega) (by omega)
    split
    · exact ⟨hr, by show 0 ≤ t.count - (t.pre + n) / 3072 ∧ t.count - (t.pre + n) / 3072 ≤ 127; omega, by show 0 ≤ (t.pre + n) % 3072 ∧ (t.pre + n) % 3072 ≤ 3071; omega, fun k => by rw [ho.1] at k; cases k⟩
    · have h1 := Int.emod_nonneg ((t.pre + n) / 3072 - (t.count + 1)) (show t.reload + 1 ≠ 0 by omega)
      have h2 := Int.emod_lt_of_pos ((t.pre + n) / 3072 - (t.count + 1)) (show 0 < t.reload + 1 by omega)
      refine ⟨hr, ?_, by show 0 ≤ (t.pre + n) % 3072 ∧ (t.pre + n) % 3072 ≤ 3071; omega, fun k => by rw [ho.1] at k; cases k⟩
      show 0 ≤ t.reload - ((t.pre + n) / 3072 - (t.count + 1)) % (t.reload + 1) ∧ t.reload - ((t.pre + n) / 3072 - (t.count + 1)) % (t.reload + 1) ≤ 127
      omega
  · exact h
def TimerV.write (t : TimerV) (at' b : Int) : TimerV :=
  if at' = 0 then { t with reload := b % 128 }
  else if at' = 1 then (if b % 2 = 1 then (if t.on then t else ⟨t.reload, t.reload, true, 0⟩) else { t with on := false, pre := 0 })
  else t
theorem TimerV.Ok.write {t : TimerV} (h : t.Ok) (at' b : Int) : (t.write at' b).Ok := by
  unfold TimerV.write
  split
  · exact ⟨by show 0 ≤ b % 128 ∧ b % 128 ≤ 127; omega, h.count, h.pre, h.off⟩
  · split
    · split
      · split
        · exact h
        · exact ⟨h.reload, h.reload, by show (0 : Int) ≤ 0 ∧ (0 : Int) ≤ 3071; omega, fun _ => rfl⟩
      · exact ⟨h.reload, h.count, by show (0 : Int) ≤ 0 ∧ (0 : Int) ≤ 3071; omega, fun _ => rfl⟩
    · exact h

/-! ### Lines and bits -/
/-- A number with a bit set, or not. -/
def orBit (l b : Int) : Int := if l / b % 2 = 0 then l + b else l
def clrBit (l b : Int) : Int := if l / b % 2 = 1 then l - b else l
theorem orBit_in (l : Int) (hl : 0 ≤ l ∧ l ≤ 7) (b : Int) (hb : b = 1 ∨ b = 2 ∨ b = 4) : 0 ≤ orBit l b ∧ orBit l b ≤ 7 := by
  unfold orBit
  rcases hb with rfl | rfl | rfl <;> split <;> omega
theorem clrBit_in (l : Int) (hl : 0 ≤ l ∧ l ≤ 7) (b : Int) (hb : b = 1 ∨ b = 2 ∨ b = 4) : 0 ≤ clrBit l b ∧ clrBit l b ≤ 7 := by
  unfold clrBit
  rcases hb with rfl | rfl | rfl <;> split <;> omega

/-! ### The pads -/
structure PadV where
  keys : Int
  six : Bool
def PadV.cells (p : PadV) : List Value := [.int .i64 p.keys, .bool p.six]
def PadV.none : PadV := ⟨0, false⟩
structure PortV where
  sel : Bool
  clr : Bool
  second : Bool
  index : Int
def PortV.cells (p : PortV) : List Value := [.bool p.sel, .bool p.clr, .bool p.second, .int .i64 p.index]
def padsC (ps : List PadV) : List Value := (ps.map PadV.cells).flatten
theorem padsC_length (ps : List PadV) : (padsC ps).length = 2 * ps.length := by
  induction ps with
  | nil => rfl
  | cons p ps ih => unfold padsC at *; simp only [List.map_cons, List.flatten_cons, List.length_append, List.length_cons, ih]; simp [PadV.cells]; omega
def PortV.write (p : PortV) (b : Int) : PortV :=
  if b / 2 % 2 = 1 then ⟨b % 2 == 1, true, p.second != !p.clr, 0⟩
  else ⟨b % 2 == 1, false, p.second, if b % 2 = 1 ∧ p.sel = false then min (p.index + 1) 5 else p.index⟩
theorem PortV.write_in (p : PortV) (b : Int) (h : 0 ≤ p.index ∧ p.index ≤ 5) : 0 ≤ (p.write b).index ∧ (p.write b).index ≤ 5 := by
  unfold PortV.write
  split
  · show (0 : Int) ≤ 0 ∧ (0 : Int) ≤ 5; omega
  · show 0 ≤ (if b % 2 = 1 ∧ p.sel = false then min (p.index + 1) 5 else p.index) ∧ (if b % 2 = 1 ∧ p.sel = false then min (p.index + 1) 5 else p.index) ≤ 5
    split <;> omega
/-- Four keys. -/
def PadV.four (p : PadV) (sel second : Bool) : Int :=
  if second && p.six then (if sel then 15 else p.keys % 65536 / 256 % 16) else (if sel then p.keys % 65536 / 16 % 16 else p.keys % 16)
theorem PadV.four_in (p : PadV) (a b : Bool) : 0 ≤ p.four a b ∧ p.four a b ≤ 15 := by
  unfold PadV.four
  split <;> split <;> omega
def padRead (p : PortV) (ps : List PadV) : Int := if 0 ≤ p.index ∧ p.index < 5 then 240 + 15 - (nth PadV.none ps p.index.toNat).four p.sel p.second else 255
theorem padRead_in (p : PortV) (ps : List PadV) : 0 ≤ padRead p ps ∧ padRead p ps ≤ 255 := by
  unfold padRead
  have := PadV.four_in (nth PadV.none ps p.index.toNat) p.sel p.second
  split <;> omega

/-! ### Sound -/
structure ChanV where
  freq : Int
  control : Int
  balance : Int
  noise : Int
  wave : List Int
  index : Int
  acc : Int
  rand : Int
  dda : Int
def ChanV.fields (c : ChanV) : List (List Value) := [[.int .i64 c.freq], [.int .i64 c.control], [.int .i64 c.balance], [.int .i64 c.noise], intsC c.wave, [.int .i64 c.index], [.int .i64 c.acc], [.int .i64 c.rand], [.int .i64 c.dda]]
def ChanV.cells (c : ChanV) : List Value := c.fields.flatten
def chanLens : List Nat := [1, 1, 1, 1, 32, 1, 1, 1, 1]
def ChanV.Len (c : ChanV) : Prop := c.wave.length = 32
theorem ChanV.lens {c : ChanV} (h : c.Len) : c.fields.map List.length = chanLens := by
  unfold ChanV.fields ChanV.Len at *; simp [intsC_length, h, chanLens]
theorem ChanV.length {c : ChanV} (h : c.Len) : c.cells.length = 40 := by
  unfold ChanV.cells; rw [List.length_flatten, ChanV.lens h]; decide
def ChanV.zero : ChanV := ⟨0, 0, 0, 0, zeros 32, 0, 0, 0, 0⟩
def ChanV.fresh : ChanV := ⟨0, 0, 0, 0, zeros 32, 0, 0, 1, 0⟩
structure ChanV.Ok (c : ChanV) : Prop where
  len : c.Len
  freq : 0 ≤ c.freq ∧ c.freq ≤ 4095
  control : 0 ≤ c.control ∧ c.control ≤ 255
  balance : 0 ≤ c.balance ∧ c.balance ≤ 255
  noise : 0 ≤ c.noise ∧ c.noise ≤ 255
  index : 0 ≤ c.index ∧ c.index ≤ 31
  dda : 0 ≤ c.dda ∧ c.dda ≤ 31
  wave : ∀ j, 0 ≤ nth 0 c.wave j ∧ nth 0 c.wave j ≤ 31
  acc : 0 ≤ c.acc ∧ c.acc ≤ 16777215
  rand : 1 ≤ c.rand ∧ c.rand ≤ 262143
/-- A channel behind a write. -/
def ChanV.write (c : ChanV) (at' b : Int) (noisy : Bool) : ChanV :=
  if at' = 2 then { c with freq := c.freq / 256 * 256 + b }
  else if at' = 3 then { c with freq := c.freq % 256 + b % 16 * 256 }
  else if at' = 4 then { c with control := b, index := if b / 64 = 1 then 0 else c.index }
  else if at' = 5 then { c with balance := b }
  else if at' = 6 then (if c.control / 64 % 2 = 1 then { c with dda := b % 32 } else { c with wave := c.wave.set c.index.toNat (b % 32), index := (c.index + 1) % 32 })
  else if at' = 7 then (if noisy then { c with noise := b } else c)
  else c
theorem ChanV.Ok.write {c : ChanV} (h : c.Ok) (at' b : Int) (noisy : Bool) (hb : 0 ≤ b ∧ b ≤ 255) : (c.write at' b noisy).Ok := by
  obtain ⟨h1, h2, h3, h4, h5, h6, h7, h8, h9, h10⟩ := h
  unfold ChanV.write
  split
  · exact ⟨h1, by show 0 ≤ c.freq / 256 * 256 + b ∧ c.freq / 256 * 256 + b ≤ 4095; omega, h3, h4, h5, h6, h7, h8, h9, h10⟩
  split
  · exact ⟨h1, by show 0 ≤ c.freq % 256 + b % 16 * 256 ∧ c.freq % 256 + b % 16 * 256 ≤ 4095; omega, h3, h4, h5, h6, h7, h8, h9, h10⟩
  split
  · refine ⟨h1, h2, hb, h4, h5, ?_, h7, h8, h9, h10⟩
    show 0 ≤ (if b / 64 = 1 then 0 else c.index) ∧ (if b / 64 = 1 then 0 else c.index) ≤ 31
    split <;> omega
  split
  · exact ⟨h1, h2, h3, hb, h5, h6, h7, h8, h9, h10⟩
  split
  · split
    · exact ⟨h1, h2, h3, h4, h5, h6, by show 0 ≤ b % 32 ∧ b % 32 ≤ 31; omega, h8, h9, h10⟩
    · exact ⟨by unfold ChanV.Len at *; simpa using h1, h2, h3, h4, h5, by show 0 ≤ (c.index + 1) % 32 ∧ (c.index + 1) % 32 ≤ 31; omega, h7, nth_set_in h8 (by omega), h9, h10⟩
  split
  · split
    · exact ⟨h1, h2, h3, h4, hb, h6, h7, h8, h9, h10⟩
    · exact ⟨h1, h2, h3, h4, h5, h6, h7, h8, h9, h10⟩
  · exact ⟨h1, h2, h3, h4, h5, h6, h7, h8, h9, h10⟩
structure PsgV where
  sel : Int
  main : Int
  lfoFreq : Int
  lfoControl : Int
  c : List ChanV
def PsgV.head (p : PsgV) : List Value := [.int .i64 p.sel, .int .i64 p.main, .int .i64 p.lfoFreq, .int .i64 p.lfoControl]
def PsgV.fields (p : PsgV) : List (List Value) := [.int .i64 p.sel] :: [.int .i64 p.main] :: [.int .i64 p.lfoFreq] :: [.int .i64 p.lfoControl] :: p.c.map ChanV.cells
def PsgV.cells (p : PsgV) : List Value := p.fields.flatten
def psgLens : List Nat := [1, 1, 1, 1, 40, 40, 40, 40, 40, 40]
structure PsgV.Len (p : PsgV) : Prop where
  six : p.c.length = 6
  each : ∀ x ∈ p.c, x.Len
theorem PsgV.lens {p : PsgV} (h : p.Len) : p.fields.map List.length = psgLens := by
  obtain ⟨h6, he⟩ := h
  obtain ⟨s, m, lf, lc, c⟩ := p
  match c, h6 with
  | [c0, c1, c2, c3, c4, c5], _ =>
    simp only [List.mem_cons, List.not_mem_nil, or_false, forall_eq_or_imp, forall_eq] at he
    obtain ⟨e0, e1, e2, e3, e4, e5⟩ := he
    show [1, 1, 1, 1, c0.cells.length, c1.cells.length, c2.cells.length, c3.cells.length, c4.cells.length, c5.cells.length] = psgLens
    rw [ChanV.length e0, ChanV.length e1, ChanV.length e2, ChanV.length e3, ChanV.length e4, ChanV.length e5]; rfl
theorem PsgV.length {p : PsgV} (h : p.Len) : p.cells.length = 244 := by
  unfold PsgV.cells; rw [List.length_flatten, PsgV.lens h]; decide
structure PsgV.Ok (p : PsgV) : Prop where
  six : p.c.length = 6
  sel : 0 ≤ p.sel ∧ p.sel ≤ 7
  main : 0 ≤ p.main ∧ p.main ≤ 255
  lfoFreq : 0 ≤ p.lfoFreq ∧ p.lfoFreq ≤ 255
  lfoControl : 0 ≤ p.lfoControl ∧ p.lfoControl ≤ 255
  each : ∀ x ∈ p.c, x.Ok
theorem PsgV.Ok.len {p : PsgV} (h : p.Ok) : p.Len := ⟨h.six, fun x hx => (h.each x hx).len⟩
def PsgV.write (p : PsgV) (at' b : Int) : PsgV :=
  if at' = 0 then { p with sel := b % 8 }
  else if at' = 1 then { p with main := b }
  else if at' = 8 then { p with lfoFreq := b }
  else if at' = 9 then { p with lfoControl := b }
  else if p.sel < 6 then { p with c := p.c.set p.sel.toNat ((nth ChanV.zero p.c p.sel.toNat).write at' b (decide (4 ≤ p.sel))) }
  else p
theorem PsgV.Ok.nth {p : PsgV} (h : p.Ok) {k : Nat} (hk : k < 6) : (nth ChanV.zero p.c k).Ok := h.each _ (nth_mem (by rw [h.six]; exact hk))
theorem PsgV.Ok.write {p : PsgV} (h : p.Ok) (at' b : Int) (hb : 0 ≤ b ∧ b ≤ 255) : (p.write at' b).Ok := by
  obtain ⟨h1, h2, h3, h4, h5, h6⟩ := h
  unfold PsgV.write
  split
  · exact ⟨h1, by show 0 ≤ b % 8 ∧ b % 8 ≤ 7; omega, h3, h4, h5, h6⟩
  split
  · exact ⟨h1, h2, hb, h4, h5, h6⟩
  split
  · exact ⟨h1, h2, h3, hb, h5, h6⟩
  split
  · exact ⟨h1, h2, h3, h4, hb, h6⟩
  split
  · refine ⟨by simpa using h1, h2, h3, h4, h5, fun x hx => ?_⟩
    rcases List.mem_or_eq_of_mem_set hx with hm | rfl
    · exact h6 x hm
    · exact ChanV.Ok.write (PsgV.Ok.nth ⟨h1, h2, h3, h4, h5, h6⟩ (by omega)) _ _ _ hb
  · exact ⟨h1, h2, h3, h4, h5, h6⟩
def PsgV.fresh : PsgV := ⟨0, 0, 0, 0, List.replicate 6 ChanV.fresh⟩
end Go.Proofs.YtnllkgjmoipgbaaGreatDoor
-- VsLaws
namespace Go.Proofs.YtnllkgjmoipgbaaGreatDoor
open Go Go.RowKit
set_option linter.unusedSimpArgs false
set_option linter.unusedVariables false

theorem VS.poke_len (V : VS) (a x : Int) : (V.poke a x).W.length = V.W.length := by unfold VS.poke; split <;> simp
theorem VS.word_poke_ne (V : VS) (a b x : Int) (h : a % 65536 ≠ b % 65536) : (V.poke a x).word b = V.word b := by
  unfold VS.word VS.poke
  by_cases ha : a % 65536 < 32768
  · rw [if_pos ha]
    by_cases hb : b % 65536 < 32768
    · rw [if_pos hb, if_pos hb]; exact nth_set_ne (by omega)
    · rw [if_neg hb, if_neg hb]
  · rw [if_neg ha]
theorem VS.word_poke_eq (V : VS) (hl : V.W.length = 32768) (a b x : Int) (h : a % 65536 = b % 65536) : (V.poke a x).word b = if b % 65536 < 32768 then x % 65536 else 0 := by
  unfold VS.word VS.poke
  rw [h]
  by_cases hb : b % 65536 < 32768
  · rw [if_pos hb, if_pos hb, if_pos hb]; exact nth_set_eq (by rw [hl]; omega)
  · rw [if_neg hb, if_neg hb]
theorem VS.word_new (p : Int) : VS.new.word p = 0 := by
  unfold VS.word; split
  · show nth 0 (zeros 32768) _ = 0; exact nth_zeros _ _
  · rfl
theorem VS.word_setWr (V : VS) (a b : Int) : (V.setWr a).word b = V.word b := rfl
theorem VS.word_setRd (V : VS) (a b : Int) : (V.setRd a).word b = V.word b := rfl
theorem VS.word_setSt (V : VS) (a b : Int) : (V.setSt a).word b = V.word b := rfl
theorem VS.word_putLo (V : VS) (a b : Int) : (V.putLo a).word b = V.word b := rfl
theorem VS.word_putHi (V : VS) (a b : Int) : (V.putHi a).word b = (V.poke V.wr (V.lo + 256 * (a % 256))).word b := rfl
theorem VS.word_congr (V : VS) {a b : Int} (h : a % 65536 = b % 65536) : V.word a = V.word b := by unfold VS.word; rw [h]
theorem VS.poke_congr (V : VS) {a b : Int} (x : Int) (h : a % 65536 = b % 65536) : V.poke a x = V.poke b x := by unfold VS.poke; rw [h]

/-- Words moved, one by one. -/
def mv (V : VS) (a b f t : Int) : Nat → VS
  | 0 => V
  | k + 1 => (mv V a b f t k).poke (t + b * k) ((mv V a b f t k).word (f + a * k))
theorem mv_succ (V : VS) (a b f t : Int) (k : Nat) : mv V a b f t (k + 1) = (mv V a b f t k).poke (t + b * k) ((mv V a b f t k).word (f + a * k)) := rfl
theorem mv_ok {V : VS} (h : V.Ok) (a b f t : Int) : ∀ k, (mv V a b f t k).Ok
  | 0 => h
  | k + 1 => (mv_ok h a b f t k).poke _ _
theorem mv_mod (V : VS) (a b f t : Int) : ∀ k, mv V a b (f % 65536) (t % 65536) k = mv V a b f t k
  | 0 => rfl
  | k + 1 => by
    rw [mv_succ, mv_succ, mv_mod V a b f t k]
    rw [VS.word_congr (a := f % 65536 + a * k) (b := f + a * k) _ (by omega)]
    exact VS.poke_congr _ _ (by omega)
theorem mv_out (V : VS) (a b f t p : Int) : ∀ m : Nat, (∀ j : Nat, j < m → (t + b * j) % 65536 ≠ p % 65536) → (mv V a b f t m).word p = V.word p
  | 0, _ => rfl
  | m + 1, h => by
    rw [mv_succ, VS.word_poke_ne _ _ _ _ (h m (by omega))]
    exact mv_out V a b f t p m (fun j hj => h j (by omega))
theorem mv_in {V : VS} (hV : V.Ok) (a b f t : Int) (i : Nat) (hlt : (t + b * i) % 65536 < 32768) : ∀ m : Nat, i < m → (∀ j : Nat, j < m → j ≠ i → (t + b * j) % 65536 ≠ (t + b * i) % 65536) → (∀ j : Nat, j < m → (t + b * j) % 65536 ≠ (f + a * i) % 65536) →
    (mv V a b f t m).word (t + b * i) = V.word (f + a * i)
  | 0, h, _, _ => by omega
  | m + 1, h, hd, ha => by
    rw [mv_succ]
    by_cases hi : i = m
    · subst hi
      rw [VS.word_poke_eq _ (mv_ok hV a b f t i).len _ _ _ rfl, if_pos hlt, mv_out V a b f t _ i (fun j hj => ha j (by omega))]
      have := hV.word (f + a * i); omega
    · rw [VS.word_poke_ne _ _ _ _ (hd m (by omega) (Ne.symm hi))]
      exact mv_in hV a b f t i hlt m (by omega) (fun j hj => hd j (by omega)) (fun j hj => ha j (by omega))

/-- Words laid one behind the other. -/
def lay (V : VS) (p : Int) (l : List Int) : Nat → VS
  | 0 => V
  | k + 1 => (lay V p l k).poke (p + k) (nth 0 l k)
theorem lay_succ (V : VS) (p : Int) (l : List Int) (k : Nat) : lay V p l (k + 1) = (lay V p l k).poke (p + k) (nth 0 l k) := rfl
theorem lay_ok {V : VS} (h : V.Ok) (p : Int) (l : List Int) : ∀ k, (lay V p l k).Ok
  | 0 => h
  | k + 1 => (lay_ok h p l k).poke _ _
theorem lay_out (V : VS) (p : Int) (l : List Int) (q : Int) : ∀ m : Nat, (∀ j : Nat, j < m → (p + j) % 65536 ≠ q % 65536) → (lay V p l m).word q = V.word q
  | 0, _ => rfl
  | m + 1, h => by
    rw [lay_succ, VS.word_poke_ne _ _ _ _ (h m (by omega))]
    exact lay_out V p l q m (fun j hj => h j (by omega))
theorem lay_in {V : VS} (hV : V.Ok) (p : Int) (l : List Int) (i : Nat) : ∀ m : Nat, i < m → m ≤ 65536 → (lay V p l m).word (p + i) = if (p + i) % 65536 < 32768 then nth 0 l i % 65536 else 0
  | 0, h, _ => by omega
  | m + 1, h, hm => by
    rw [lay_succ]
    by_cases hi : i = m
    · subst hi
      rw [VS.word_poke_eq _ (lay_ok hV p l i).len _ _ _ rfl]
    · rw [VS.word_poke_ne _ _ _ _ (by omega)]
      exact lay_in hV p l i m (by omega) (by omega)

/-- Words from a place on. -/
def wordsK (V : VS) (p : Int) (n : Nat) : List Int := (List.range n).map fun i : Nat => V.word (p + i)
theorem wordsK_length (V : VS) (p : Int) (n : Nat) : (wordsK V p n).length = n := by simp [wordsK]
theorem nth_wordsK (V : VS) (p : Int) (n i : Nat) (h : i < n) : nth 0 (wordsK V p n) i = V.word (p + i) := by
  rw [nth_lt (by rw [wordsK_length]; exact h)]; simp [wordsK]

/-- Cells of a map: pokes of pairs. -/
def pokes (V : VS) (l : List (Int × Int)) : Nat → VS
  | 0 => V
  | k + 1 => (pokes V l k).poke (nth (0, 0) l k).1 (nth (0, 0) l k).2
theorem pokes_succ (V : VS) (l : List (Int × Int)) (k : Nat) : pokes V l (k + 1) = (pokes V l k).poke (nth (0, 0) l k).1 (nth (0, 0) l k).2 := rfl
theorem pokes_ok {V : VS} (h : V.Ok) (l : List (Int × Int)) : ∀ k, (pokes V l k).Ok
  | 0 => h
  | k + 1 => (pokes_ok h l k).poke _ _

end Go.Proofs.YtnllkgjmoipgbaaGreatDoor
-- Ma
namespace Go.Proofs.YtnllkgjmoipgbaaGreatDoor
open Go Go.RowKit
set_option linter.unusedSimpArgs false
set_option linter.unusedVariables false
set_option maxRecDepth 100000

structure BusV where
  regs : RegsV
  V : VS
  table : List Int
  status : Int
  wait : Bool
  moved : Bool
  pages : Nat
  rom : List Int
  latch : Int
  ram : List Int
  file : List Int
  vce : VceV
  psg : PsgV
  timer : TimerV
  mask : Int
  lines : Int
  port : PortV
  pads : List PadV
  hold : Int
  lag : Int

structure BusV.Ok (B : BusV) : Prop where
  regs : B.regs.Ok
  tableL : B.table.length = 256
  table : ∀ j, 0 ≤ nth 0 B.table j ∧ nth 0 B.table j ≤ 65535
  status : 0 ≤ B.status ∧ B.status ≤ 63
  pages : B.pages = 1 ∨ B.pages = 2 ∨ B.pages = 4 ∨ B.pages = 8
  romL : B.rom.length = 8192 * B.pages
  rom : ∀ j, 0 ≤ nth 0 B.rom j ∧ nth 0 B.rom j ≤ 255
  latch : 0 ≤ B.latch ∧ B.latch ≤ 3
  ramL : B.ram.length = 8192
  ram : ∀ j, 0 ≤ nth 0 B.ram j ∧ nth 0 B.ram j ≤ 255
  fileL : B.file.length = 8
  file : ∀ j, 0 ≤ nth 0 B.file j ∧ nth 0 B.file j ≤ 255
  vce : B.vce.Ok
  psg : B.psg.Ok
  timer : B.timer.Ok
  mask : 0 ≤ B.mask ∧ B.mask ≤ 7
  lines : 0 ≤ B.lines ∧ B.lines ≤ 7
  port : 0 ≤ B.port.index ∧ B.port.index ≤ 5
  padsL : B.pads.length = 5
  pads : ∀ j, 0 ≤ (nth PadV.none B.pads j).keys ∧ (nth PadV.none B.pads j).keys ≤ 65535
  hold : 0 ≤ B.hold ∧ B.hold ≤ 255
  lag : 0 ≤ B.lag

/-- The program's object: its fields. -/
def BusV.fields (B : BusV) (vp cp : Nat) : List (List Value) :=
  [B.regs.cells, [.pointer (some ⟨vp, 0, none⟩)], intsC B.table, [.int .i64 B.status], [.bool B.wait], [.bool B.moved], [.pointer (some ⟨cp, 0, none⟩)], [.int .i64 B.latch], bytesC B.ram, intsC B.file,
    B.vce.cells, B.psg.cells, B.timer.cells, [.int .i64 B.mask, .int .i64 B.lines], B.port.cells, padsC B.pads, [.int .i64 B.hold], [.int .i64 B.lag]]
def busLens : List Nat := [21, 1, 256, 1, 1, 1, 1, 1, 8192, 8, 514, 244, 4, 2, 4, 10, 1, 1]
theorem BusV.lens {B : BusV} (h : B.Ok) (vp cp : Nat) : (B.fields vp cp).map List.length = busLens := by
  unfold BusV.fields busLens
  simp only [List.map_cons, List.map_nil, RegsV.length h.regs.len, intsC_length, bytesC_length, h.tableL, h.ramL, h.fileL, VceV.length h.vce.len, PsgV.length h.psg.len, padsC_length, h.padsL]
  rfl
/-- The reference's: Rom lies in block rg (of capacity rc), Ram in block mg. -/
def BusV.fieldsR (B : BusV) (vp rg ro rc mg : Nat) : List (List Value) :=
  [[.int .i64 B.pages], [.int .i64 B.latch], [.slice (some ⟨rg, ro, none⟩) B.rom.length rc], [.slice (some ⟨mg, 0, none⟩) 8192 8192], intsC B.file, B.regs.cells, [.pointer (some ⟨vp, 0, none⟩)], intsC B.table, [.int .i64 B.status], [.bool B.wait], [.bool B.moved],
    B.vce.cells, B.psg.cells, B.timer.cells, [.int .i64 B.mask], [.int .i64 B.lines], B.port.cells, padsC B.pads, [.int .i64 B.hold]]
def refLens : List Nat := [1, 1, 1, 1, 8, 21, 1, 256, 1, 1, 1, 514, 244, 4, 1, 1, 4, 10, 1]
theorem BusV.lensR {B : BusV} (h : B.Ok) (vp rg ro rc mg : Nat) : (B.fieldsR vp rg ro rc mg).map List.length = refLens := by
  unfold BusV.fieldsR refLens
  simp only [List.map_cons, List.map_nil, RegsV.length h.regs.len, intsC_length, bytesC_length, h.tableL, h.ramL, h.fileL, VceV.length h.vce.len, PsgV.length h.psg.len, padsC_length, h.padsL]
  rfl

/-- Where its blocks lie. -/
structure BusL where
  p : Nat
  vp : Nat
  vg : Nat
  cp : Nat
  cg : Nat
  cc : Nat
structure BusL.Apart (l : BusL) : Prop where
  pv : l.p ≠ l.vp
  pg : l.p ≠ l.vg
  pc : l.p ≠ l.cp
  pr : l.p ≠ l.cg
  vc : l.vp ≠ l.cp
  vr : l.vp ≠ l.cg
  gc : l.vg ≠ l.cp
  gr : l.vg ≠ l.cg
structure BusAt (w : World) (l : BusL) (B : BusV) : Prop where
  obj : Blk w l.p (B.fields l.vp l.cp).flatten.toArray 57
  v : VAt 149 w l.vp l.vg B.V
  card : Blk w l.cp #[.slice (some ⟨l.cg, 0, none⟩) B.rom.length l.cc, .int .i64 0] 27
  rom : SlAt (Value.int .u8) 0 w (some ⟨l.cg, 0, none⟩) B.rom
  cap : B.rom.length ≤ l.cc
  ok : B.Ok
  ap : l.Apart
def BusL.own (l : BusL) : List Nat := [l.p, l.vp, l.vg]
theorem BusL.Apart.cp {l : BusL} (h : l.Apart) : l.cp ∉ l.own := by
  have := h.pc; have := h.vc; have := h.gc
  unfold BusL.own; simp; omega
theorem BusL.Apart.cg {l : BusL} (h : l.Apart) : l.cg ∉ l.own := by
  have := h.pr; have := h.vr; have := h.gr
  unfold BusL.own; simp; omega
theorem SlAt.tr {α : Type} {f : α → Value} {d : α} {S : List Nat} {w w' : World} {g o : Nat} {xs : List α} (h : SlAt f d w (some ⟨g, o, none⟩) xs) (t : Tr S w w') (hn : g ∉ S) : SlAt f d w' (some ⟨g, o, none⟩) xs := by
  intro i hi
  obtain ⟨ad, e, hc⟩ := h i hi
  obtain rfl := Option.some.inj e
  refine ⟨_, rfl, ?_⟩
  have hb : ((⟨g, o, none⟩ : Addr).add i).block = g := add_block _ _
  have hl := World.block_lt_of_cell? w _ hc
  rw [hb] at hl
  have e2 : w'.heap[g]? = w.heap[g]? := t.block g hl hn
  rw [← hc]
  simp only [World.cell?, hb, e2]
theorem BusAt.below {w w' : World} {l : BusL} {B : BusV} (h : BusAt w l B) (hb : Below w.heap.size w w') : BusAt w' l B :=
  ⟨Blk.below h.obj hb, h.v.below hb, Blk.below h.card hb, h.rom.below hb, h.cap, h.ok, h.ap⟩
theorem BusAt.drewN {w : World} {l : BusL} {B : BusV} (h : BusAt w l B) (n : Nat) : BusAt (w.drewN n) l B := h.below (below_drewN (Below.refl _ _) n)
theorem BusAt.tr {S : List Nat} {w w' : World} {l : BusL} {B : BusV} (h : BusAt w l B) (t : Tr S w w') (h1 : l.p ∉ S) (h2 : l.vp ∉ S) (h3 : l.vg ∉ S) (h4 : l.cp ∉ S) (h5 : l.cg ∉ S) : BusAt w' l B :=
  ⟨Blk.tr h.obj t h1, h.v.tr t h2 h3, Blk.tr h.card t h4, h.rom.tr t h5, h.cap, h.ok, h.ap⟩
theorem BusAt.lt {w : World} {l : BusL} {B : BusV} (h : BusAt w l B) : l.p < w.heap.size ∧ l.vp < w.heap.size ∧ l.vg < w.heap.size ∧ l.cp < w.heap.size := ⟨Blk.lt h.obj, h.v.lt.1, h.v.lt.2, Blk.lt h.card⟩

section
variable {w : World} {l : BusL} {B : BusV}
/-- What lies where. -/
theorem BusAt.at (h : BusAt w l B) (i : Nat) {x : List Value} (hi : (B.fields l.vp l.cp)[i]? = some x) {o : Nat} (ho : offL busLens i = o) : w.rangeAt l.p o x := fld_range h.obj (BusV.lens h.ok _ _) i hi ho
theorem BusAt.at1 (h : BusAt w l B) (i : Nat) {v : Value} (hi : (B.fields l.vp l.cp)[i]? = some [v]) {o : Nat} (ho : offL busLens i = o) : w.cell? ⟨l.p, o, none⟩ = some v := fld_cell h.obj (BusV.lens h.ok _ _) i hi ho
theorem BusAt.regs (h : BusAt w l B) : w.rangeAt l.p 0 B.regs.cells := h.at 0 rfl (by decide)
theorem BusAt.vram (h : BusAt w l B) : w.cell? ⟨l.p, 21, none⟩ = some (.pointer (some ⟨l.vp, 0, none⟩)) := h.at1 1 rfl (by decide)
theorem BusAt.table (h : BusAt w l B) : w.rangeAt l.p 22 (intsC B.table) := h.at 2 rfl (by decide)
theorem BusAt.status (h : BusAt w l B) : w.cell? ⟨l.p, 278, none⟩ = some (.int .i64 B.status) := h.at1 3 rfl (by decide)
theorem BusAt.wait (h : BusAt w l B) : w.cell? ⟨l.p, 279, none⟩ = some (.bool B.wait) := h.at1 4 rfl (by decide)
theorem BusAt.moved (h : BusAt w l B) : w.cell? ⟨l.p, 280, none⟩ = some (.bool B.moved) := h.at1 5 rfl (by decide)
theorem BusAt.cardP (h : BusAt w l B) : w.cell? ⟨l.p, 281, none⟩ = some (.pointer (some ⟨l.cp, 0, none⟩)) := h.at1 6 rfl (by decide)
theorem BusAt.latch (h : BusAt w l B) : w.cell? ⟨l.p, 282, none⟩ = some (.int .i64 B.latch) := h.at1 7 rfl (by decide)
theorem BusAt.ram (h : BusAt w l B) : w.rangeAt l.p 283 (bytesC B.ram) := h.at 8 rfl (by decide)
theorem BusAt.file (h : BusAt w l B) : w.rangeAt l.p 8475 (intsC B.file) := h.at 9 rfl (by decide)
theorem BusAt.vce (h : BusAt w l B) : w.rangeAt l.p 8483 B.vce.cells := h.at 10 rfl (by decide)
theorem BusAt.psg (h : BusAt w l B) : w.rangeAt l.p 8997 B.psg.cells := h.at 11 rfl (by decide)
theorem BusAt.timer (h : BusAt w l B) : w.rangeAt l.p 9241 B.timer.cells := h.at 12 rfl (by decide)
theorem BusAt.irq (h : BusAt w l B) : w.rangeAt l.p 9245 [.int .i64 B.mask, .int .i64 B.lines] := h.at 13 rfl (by decide)
theorem BusAt.port (h : BusAt w l B) : w.rangeAt l.p 9247 B.port.cells := h.at 14 rfl (by decide)
theorem BusAt.pads (h : BusAt w l B) : w.rangeAt l.p 9251 (padsC B.pads) := h.at 15 rfl (by decide)
theorem BusAt.hold (h : BusAt w l B) : w.cell? ⟨l.p, 9261, none⟩ = some (.int .i64 B.hold) := h.at1 16 rfl (by decide)
theorem BusAt.lag (h : BusAt w l B) : w.cell? ⟨l.p, 9262, none⟩ = some (.int .i64 B.lag) := h.at1 17 rfl (by decide)
theorem BusAt.free (h : BusAt w l B) (i : Nat) : w.frozen? ⟨l.p, i, none⟩ = false := Blk.free h.obj i
theorem BusAt.there (h : BusAt w l B) (o n : Nat) (hn : o + n ≤ 9263) : w.there l.p o n := fld_there h.obj (BusV.lens h.ok _ _) o n (by show o + n ≤ busLens.sum; exact hn)
/-- A field laid anew. -/
theorem BusAt.put (h : BusAt w l B) (i : Nat) {x vs : List Value} {B' : BusV} (hi : (B.fields l.vp l.cp)[i]? = some x) (hl : vs.length = x.length) {o : Nat} (ho : offL busLens i = o)
    (hB : (B.fields l.vp l.cp).set i vs = B'.fields l.vp l.cp) (hk : B'.Ok) (hV : B'.V = B.V) (hr : B'.rom = B.rom) : BusAt (w.setCells l.p o vs) l B' := by
  have h1 := fld_set h.obj (BusV.lens h.ok _ _) i vs hi hl ho
  rw [hB] at h1
  have T : Tr [l.p] w (w.setCells l.p o vs) := Tr.laid vs o (Tr.refl _ _) (by simp)
  have a := h.ap
  exact ⟨h1, by rw [hV]; exact h.v.tr T (by simpa using Ne.symm a.pv) (by simpa using Ne.symm a.pg), by rw [hr]; exact Blk.tr h.card T (by simpa using Ne.symm a.pc), by rw [hr]; exact h.rom.tr T (by simpa using Ne.symm a.pr), by rw [hr]; exact h.cap, hk, a⟩
theorem BusAt.put1 (h : BusAt w l B) (i : Nat) {x v : Value} {B' : BusV} (hi : (B.fields l.vp l.cp)[i]? = some [x]) {o : Nat} (ho : offL busLens i = o)
    (hB : (B.fields l.vp l.cp).set i [v] = B'.fields l.vp l.cp) (hk : B'.Ok) (hV : B'.V = B.V) (hr : B'.rom = B.rom) : BusAt (w.setCell ⟨l.p, o, none⟩ v) l B' := h.put i (vs := [v]) hi rfl ho hB hk hV hr
theorem BusAt.putV (h : BusAt w l B) {w' : World} {V : VS} (hv : VAt 149 w' l.vp l.vg V) (T : Tr [l.vp, l.vg] w w') : BusAt w' l { B with V := V } := by
  have a := h.ap
  exact ⟨Blk.tr h.obj T (by simp; exact ⟨a.pv, a.pg⟩), hv, Blk.tr h.card T (by simp; exact ⟨Ne.symm a.vc, Ne.symm a.gc⟩), h.rom.tr T (by simp; exact ⟨Ne.symm a.vr, Ne.symm a.gr⟩), h.cap, ⟨h.ok.regs, h.ok.tableL, h.ok.table, h.ok.status, h.ok.pages, h.ok.romL, h.ok.rom, h.ok.latch, h.ok.ramL, h.ok.ram, h.ok.fileL, h.ok.file, h.ok.vce, h.ok.psg, h.ok.timer, h.ok.mask, h.ok.lines, h.ok.port, h.ok.padsL, h.ok.pads, h.ok.hold, h.ok.lag⟩, a⟩
end

/-! ### What it does -/
/-- The timer goes on by what it is behind. -/
def BusV.settle (B : BusV) : BusV := { B with timer := B.timer.adv B.lag, lag := 0, lines := if B.timer.rings B.lag then orBit B.lines 4 else B.lines }
def BusV.tell (B : BusV) (bit : Int) (may : Bool) : BusV := { B with status := orBit B.status bit, lines := if may then orBit B.lines 2 else B.lines }
theorem BusV.Ok.settle {B : BusV} (h : B.Ok) : B.settle.Ok := by
  have hl : 0 ≤ B.settle.lines ∧ B.settle.lines ≤ 7 := by
    unfold BusV.settle
    show 0 ≤ (if B.timer.rings B.lag then orBit B.lines 4 else B.lines) ∧ (if B.timer.rings B.lag then orBit B.lines 4 else B.lines) ≤ 7
    split
    · exact orBit_in _ h.lines 4 (by simp)
    · exact h.lines
  exact ⟨h.regs, h.tableL, h.table, h.status, h.pages, h.romL, h.rom, h.latch, h.ramL, h.ram, h.fileL, h.file, h.vce, h.psg, h.timer.adv _, h.mask, hl, h.port, h.padsL, h.pads, h.hold, Int.le_refl 0⟩
def isBit (b : Int) : Prop := b = 1 ∨ b = 2 ∨ b = 4 ∨ b = 8 ∨ b = 16 ∨ b = 32
theorem orBit_status (s b : Int) (hs : 0 ≤ s ∧ s ≤ 63) (hb : isBit b) : 0 ≤ orBit s b ∧ orBit s b ≤ 63 := by
  unfold orBit
  rcases hb with rfl | rfl | rfl | rfl | rfl | rfl <;> split <;> omega
theorem BusV.Ok.tell {B : BusV} (h : B.Ok) (bit : Int) (hb : isBit bit) (may : Bool) : (B.tell bit may).Ok := by
  have hl : 0 ≤ (B.tell bit may).lines ∧ (B.tell bit may).lines ≤ 7 := by
    unfold BusV.tell
    show 0 ≤ (if may then orBit B.lines 2 else B.lines) ∧ (if may then orBit B.lines 2 else B.lines) ≤ 7
    split
    · exact orBit_in _ h.lines 2 (by simp)
    · exact h.lines
  exact ⟨h.regs, h.tableL, h.table, orBit_status _ _ h.status hb, h.pages, h.romL, h.rom, h.latch, h.ramL, h.ram, h.fileL, h.file, h.vce, h.psg, h.timer, h.mask, hl, h.port, h.padsL, h.pads, h.hold, h.lag⟩
/-- The kind of a place, its page, and where in it. -/
def regKind (a : Int) : Int :=
  if a < 0 ∨ 2097152 ≤ a then 8 else if a / 8192 < 128 then 0 else if 248 ≤ a / 8192 ∧ a / 8192 ≤ 251 then 1 else if a / 8192 = 255 then (if a % 8192 / 1024 ≤ 5 then 2 + a % 8192 / 1024 else 8) else 8
def regPage (a : Int) : Int := if regKind a = 0 then a / 8192 else 0
def regAt (a : Int) : Int :=
  if regKind a ≤ 1 then a % 8192 else if regKind a = 2 ∨ regKind a = 7 then a % 4 else if regKind a = 3 then a % 8 else if regKind a = 4 then a % 16 else if regKind a = 5 then a % 2 else 0
theorem regKind_in (a : Int) : 0 ≤ regKind a ∧ regKind a ≤ 8 := by
  unfold regKind
  split
  · decide
  split
  · decide
  split
  · decide
  split
  · split
    · omega
    · decide
  · decide
/-- What is read of a device. -/
def BusV.rdVdc (B : BusV) (a : Int) : Int := if a = 0 then B.status else if a = 2 then B.V.get false else if a = 3 then B.V.get true else 0
def BusV.goVdc (B : BusV) (a : Int) : BusV := if a = 0 then { B with status := 0, lines := clrBit B.lines 2 } else if a = 2 then { B with V := B.V.got false } else if a = 3 then { B with V := B.V.got true } else B
def BusV.goHeld (B : BusV) (k a : Int) : BusV :=
  if k = 5 then { B.settle with hold := B.hold / 128 * 128 + B.settle.timer.count }
  else if k = 6 then { B with hold := padRead B.port B.pads }
  else if k = 7 ∧ 2 ≤ a then { B.settle with hold := B.hold / 8 * 8 + (if a = 2 then B.settle.mask else B.settle.lines) }
  else B
def BusV.rd (B : BusV) (a : Int) : Int :=
  if regKind a = 0 then nth 0 B.rom (regPage a % B.pages * 8192 + regAt a).toNat
  else if regKind a = 1 then nth 0 B.ram (regAt a).toNat
  else if regKind a = 2 then B.rdVdc (regAt a)
  else if regKind a = 3 then B.vce.read (regAt a)
  else if regKind a = 8 then 255
  else (B.goHeld (regKind a) (regAt a)).hold
def BusV.go (B : BusV) (a : Int) : BusV :=
  if regKind a = 2 then B.goVdc (regAt a)
  else if regKind a = 3 then { B with vce := B.vce.got (regAt a) }
  else if 4 ≤ regKind a ∧ regKind a ≤ 7 then B.goHeld (regKind a) (regAt a)
  else B
/-- Words moved as the registers say. -/
def BusV.move (B : BusV) : BusV :=
  BusV.tell { B with
    V := mv B.V (1 - 2 * bitI (B.regs.reg 15) 2) (1 - 2 * bitI (B.regs.reg 15) 3) (B.regs.reg 16) (B.regs.reg 17) ((B.regs.reg 18).toNat + 1)
    regs := { B.regs with R := ((B.regs.R.set 16 ((B.regs.reg 16 + (1 - 2 * bitI (B.regs.reg 15) 2) * (((B.regs.reg 18).toNat + 1 : Nat) : Int)) % 65536)).set 17 ((B.regs.reg 17 + (1 - 2 * bitI (B.regs.reg 15) 3) * (((B.regs.reg 18).toNat + 1 : Nat) : Int)) % 65536)).set 18 65535 } }
    16 (bitI (B.regs.reg 15) 1 == 1)
/-- What a write brings about. -/
def BusV.bring (B : BusV) (e v : Int) : BusV :=
  if e = 1 then { B with V := B.V.setWr (B.regs.reg 0) }
  else if e = 2 then { B with V := B.V.setRd (B.regs.reg 1) }
  else if e = 3 then { B with V := B.V.put false v }
  else if e = 4 then { B with V := B.V.put true v }
  else if e = 5 then { B with V := B.V.setSt B.regs.far }
  else if e = 6 then B.move
  else if e = 7 then { B with wait := true }
  else B
def BusV.chosen (B : BusV) (a v : Int) : BusV := { B with regs := B.regs.write a v, moved := B.moved || (decide ((B.regs.write a v).sel = 8) && (decide (a = 2) || decide (a = 3))) }
def BusV.draw (B : BusV) (a v : Int) : BusV := (B.chosen a v).bring (B.regs.effect a) v
def BusV.held (B : BusV) (k a v : Int) : BusV :=
  if k = 4 then { B with psg := B.psg.write a v, hold := v }
  else if k = 5 then { B.settle with timer := B.settle.timer.write a v, hold := v }
  else if k = 6 then { B with port := B.port.write v, hold := v }
  else { B.settle with mask := if a = 2 then v % 8 else B.settle.mask, lines := if a = 3 then clrBit B.settle.lines 4 else B.settle.lines, hold := v }
/-- A write of a byte. -/
def BusV.wr8 (B : BusV) (a v : Int) : BusV :=
  if regKind a = 1 then { B with ram := B.ram.set (regAt a).toNat v }
  else if regKind a = 2 then B.draw (regAt a) v
  else if regKind a = 3 then { B with vce := B.vce.write (regAt a) v }
  else if 4 ≤ regKind a ∧ regKind a ≤ 7 then B.held (regKind a) (regAt a) v
  else B
def BusV.wr (B : BusV) (a v : Int) : BusV := B.wr8 a (v % 256)

/-! ### It stays one that may be -/
theorem BusV.Ok.vram {B : BusV} (h : B.Ok) (V : VS) : BusV.Ok { B with V := V } := { h with }
theorem BusV.Ok.goVdc {B : BusV} (h : B.Ok) (a : Int) : (B.goVdc a).Ok := by
  unfold BusV.goVdc
  split
  · exact { h with status := ⟨Int.le_refl 0, by show (0 : Int) ≤ 63; decide⟩, lines := clrBit_in _ h.lines 2 (by simp) }
  split
  · exact { h with }
  split
  · exact { h with }
  · exact h
theorem settle_timer_in {B : BusV} (h : B.Ok) : 0 ≤ B.settle.timer.count ∧ B.settle.timer.count ≤ 127 := h.settle.timer.count
theorem BusV.Ok.goHeld {B : BusV} (h : B.Ok) (k a : Int) : (B.goHeld k a).Ok := by
  have hs := h.settle
  have hh := h.hold
  unfold BusV.goHeld
  split
  · have := hs.timer.count
    exact { hs with hold := by show 0 ≤ B.hold / 128 * 128 + B.settle.timer.count ∧ B.hold / 128 * 128 + B.settle.timer.count ≤ 255; omega }
  split
  · exact { h with hold := padRead_in _ _ }
  split
  · have h1 := hs.mask
    have h2 := hs.lines
    exact { hs with hold := by show 0 ≤ B.hold / 8 * 8 + (if a = 2 then B.settle.mask else B.settle.lines) ∧ B.hold / 8 * 8 + (if a = 2 then B.settle.mask else B.settle.lines) ≤ 255; split <;> omega }
  · exact h
theorem BusV.Ok.go {B : BusV} (h : B.Ok) (a : Int) : (B.go a).Ok := by
  unfold BusV.go
  split
  · exact h.goVdc _
  split
  · exact { h with vce := h.vce.got _ }
  split
  · exact h.goHeld _ _
  · exact h
theorem andI_word (x : Int) (h : 0 ≤ x ∧ x ≤ 65535) : andI x 65535 = x := by
  unfold andI
  have : x.toNat &&& (65535 : Int).toNat = x.toNat % 2 ^ 16 := by
    rw [show (65535 : Int).toNat = 2 ^ 16 - 1 by decide, Nat.and_two_pow_sub_one_eq_mod]
  rw [this]; omega
theorem RegsV.Ok.setW {r : RegsV} (h : r.Ok) (k : Nat) (hk : maskOf k = 65535) (x : Int) (hx : 0 ≤ x ∧ x ≤ 65535) : RegsV.Ok { r with R := r.R.set k x } := h.set k x hx.1 (by rw [hk]; exact andI_word x hx)
theorem BusV.Ok.move {B : BusV} (h : B.Ok) : B.move.Ok := by
  unfold BusV.move
  refine BusV.Ok.tell ?_ 16 (by unfold isBit; simp) _
  exact { h with regs := ((h.regs.setW 16 (by decide) _ (by omega)).setW 17 (by decide) _ (by omega)).setW 18 (by decide) 65535 (by decide) }
theorem BusV.Ok.bring {B : BusV} (h : B.Ok) (e v : Int) : (B.bring e v).Ok := by
  unfold BusV.bring
  split
  · exact { h with }
  split
  · exact { h with }
  split
  · exact { h with }
  split
  · exact { h with }
  split
  · exact { h with }
  split
  · exact h.move
  split
  · exact { h with }
  · exact h
theorem BusV.Ok.chosen {B : BusV} (h : B.Ok) (a v : Int) (hv : 0 ≤ v ∧ v ≤ 255) : (B.chosen a v).Ok := { h with regs := h.regs.write a v hv }
theorem BusV.Ok.draw {B : BusV} (h : B.Ok) (a v : Int) (hv : 0 ≤ v ∧ v ≤ 255) : (B.draw a v).Ok := (h.chosen a v hv).bring _ _
theorem BusV.Ok.held {B : BusV} (h : B.Ok) (k a v : Int) (hv : 0 ≤ v ∧ v ≤ 255) : (B.held k a v).Ok := by
  have hs := h.settle
  unfold BusV.held
  split
  · exact { h with psg := h.psg.write a v hv, hold := hv }
  split
  · exact { hs with timer := hs.timer.write a v, hold := hv }
  split
  · exact { h with port := PortV.write_in _ v h.port, hold := hv }
  · refine { hs with mask := ?_, lines := ?_, hold := hv }
    · have := hs.mask
      show 0 ≤ (if a = 2 then v % 8 else B.settle.mask) ∧ (if a = 2 then v % 8 else B.settle.mask) ≤ 7
      split <;> omega
    · have := hs.lines
      show 0 ≤ (if a = 3 then clrBit B.settle.lines 4 else B.settle.lines) ∧ (if a = 3 then clrBit B.settle.lines 4 else B.settle.lines) ≤ 7
      split
      · exact clrBit_in _ this 4 (by simp)
      · exact this
theorem BusV.Ok.wr8 {B : BusV} (h : B.Ok) (a v : Int) (hv : 0 ≤ v ∧ v ≤ 255) : (B.wr8 a v).Ok := by
  unfold BusV.wr8
  split
  · exact { h with ramL := by simpa using h.ramL, ram := nth_set_in h.ram hv }
  split
  · exact h.draw _ _ hv
  split
  · exact { h with vce := h.vce.write _ _ hv }
  split
  · exact h.held _ _ _ hv
  · exact h
theorem BusV.Ok.wr {B : BusV} (h : B.Ok) (a v : Int) : (B.wr a v).Ok := h.wr8 a _ (by omega)
end Go.Proofs.YtnllkgjmoipgbaaGreatDoor
-- Bw
namespace Go.Proofs.YtnllkgjmoipgbaaGreatDoor
open Go Go.RowKit
set_option linter.unusedSimpArgs false
set_option linter.unusedVariables false

theorem bits_Word (n : Int) (w : World) : Calls Tryz.prog 69 #[.int .i64 n] w fun e w' => e = .returned (.int .i64 (n % 65536)) ∧ w = w' := by
  go_enter Tryz.func69, Tryz.ntmps69
  go_wp2
  go_ret
  exact ⟨rfl, rfl⟩
theorem bits_Byte (n : Int) (w : World) : Calls Tryz.prog 50 #[.int .i64 n] w fun e w' => e = .returned (.int .i64 (n % 256)) ∧ w = w' := by
  go_enter Tryz.func50, Tryz.ntmps50
  go_wp2
  go_ret
  exact ⟨rfl, rfl⟩
theorem bits_Split (n : Int) (w : World) : Calls Tryz.prog 158 #[.int .i64 n] w fun e w' => e = .returned (.tuple #[.int .i64 (n % 256), .int .i64 (n / 256 % 256)]) ∧ w = w' := by
  go_enter Tryz.func158, Tryz.ntmps158
  go_wp2_with fail
  refine (bits_Byte n _).mono ?_; rintro e w' ⟨rfl, rfl⟩
  go_wp2_with fail
  refine (bits_Byte (n / 256) _).mono ?_; rintro e w' ⟨rfl, rfl⟩
  go_wp2
  go_ret2
  exact ⟨rfl, rfl⟩
theorem ref01_Byte (n : Int) (hn : -9223372036854775808 ≤ n ∧ n ≤ 9223372036854775807) (w : World) : Calls Tryz.prog 80 #[.int .i64 n] w fun e w' => e = .returned (.int .i64 (n % 256)) ∧ w = w' := by
  go_enter Tryz.func80, Tryz.ntmps80
  go_wp2_with fail
  refine (ref01_Mod n 256 hn (by decide) (by decide) _).mono ?_; rintro e w' ⟨rfl, rfl⟩
  go_wp2
  go_ret
  exact ⟨rfl, rfl⟩
theorem ref01_Join (a b : Int) (ha : -9223372036854775808 ≤ a ∧ a ≤ 9223372036854775807) (hb : -9223372036854775808 ≤ b ∧ b ≤ 9223372036854775807) (w : World) : Calls Tryz.prog 186 #[.int .i64 a, .int .i64 b] w fun e w' => e = .returned (.int .i64 (a % 256 + 256 * (b % 256))) ∧ w = w' := by
  go_enter Tryz.func186, Tryz.ntmps186
  go_wp2_with fail
  refine (ref01_Byte a ha _).mono ?_; rintro e w' ⟨rfl, rfl⟩
  go_wp2_with fail
  refine (ref01_Byte b hb _).mono ?_; rintro e w' ⟨rfl, rfl⟩
  go_wp2
  go_ret
  exact ⟨rfl, rfl⟩

theorem bits_together (g c : Nat) (a b : Int) (w : World) (t : TypeId) (h : Blk w g #[.int .i64 a, .int .i64 b] t) : Calls Tryz.prog 230 #[.slice (some ⟨g, 0, none⟩) 2 c] w fun e w' => e = .returned (.int .i64 (a % 256 + 256 * (b % 256))) ∧ w = w' := by
  have c0 := h.cell 0; have c1 := h.cell 1
  simp only [List.getElem?_toArray, List.getElem?_cons_zero, List.getElem?_cons_succ] at c0 c1
  have e0 : bits .or .i64 0 (a % 256) = a % 256 := by rw [or_comm64, or_zero64 _ (by omega)]
  have e1 : bits .or .i64 (a % 256) (b % 256 * 256) = a % 256 + 256 * (b % 256) := by
    rw [or_comm64, or_join64 8 _ _ (by omega) (by omega) (by omega) (by simp; omega) (by omega) (by simp)]; omega
  go_enter Tryz.func230, Tryz.ntmps230
  go_wp2
  go_loopw [3, 8] (fun n i wr => ∃ k : Nat, k ≤ 2 ∧ i = .int .i64 k ∧ (k = 0 → n = .int .i64 0) ∧ (k = 1 → n = .int .i64 (a % 256)) ∧ (k = 2 → n = .int .i64 (a % 256 + 256 * (b % 256))) ∧ w = wr) (fun _ i _ => 2 - (intOf i).toNat)
  case atStart => exact ⟨0, by omega, rfl, fun _ => rfl, fun h => by omega, fun h => by omega, rfl⟩
  case round =>
    obtain ⟨k, hk, rfl, hn0, hn1, hn2, rfl⟩ := hrel
    rcases (show k = 0 ∨ k = 1 ∨ k = 2 by omega) with rfl | rfl | rfl
    · obtain rfl := hn0 rfl
      clear hn0 hn1 hn2
      go_wp2_with fail
      refine (bits_Byte a _).mono ?_; rintro e w' ⟨rfl, rfl⟩
      go_wp2
      go_roundw
      case rel => exact ⟨1, by omega, rfl, fun h => by omega, fun _ => rfl, fun h => by omega, trivial⟩
      case measure => simp [intOf]
    · obtain rfl := hn1 rfl
      clear hn0 hn1 hn2
      go_wp2_with fail
      refine (bits_Byte b _).mono ?_; rintro e w' ⟨rfl, rfl⟩
      go_wp2
      go_roundw
      case rel => exact ⟨2, by omega, rfl, fun h => by omega, fun h => by omega, fun _ => rfl, trivial⟩
      case measure => simp [intOf]
    · obtain rfl := hn2 rfl
      clear hn0 hn1 hn2
      go_wp2
      go_ret
      exact ⟨rfl, rfl⟩

theorem bits_Join (a b : Int) (w : World) : Calls Tryz.prog 162 #[.int .i64 a, .int .i64 b] w fun e w' => e = .returned (.int .i64 (a % 256 + 256 * (b % 256))) ∧ Below w.heap.size w w' := by
  go_enter Tryz.func162, Tryz.ntmps162
  go_wp2_with fail
  refine (bits_together _ _ a b _ 3 (Blk.new _ _ _)).mono ?_; rintro e w' ⟨rfl, rfl⟩
  go_wp2
  go_ret
  exact ⟨rfl, (Below.refl _ _).alloc (Nat.le_refl _) _⟩

end Go.Proofs.YtnllkgjmoipgbaaGreatDoor
-- Ret
namespace Go.Proofs.YtnllkgjmoipgbaaGreatDoor
open Go Go.RowKit
set_option linter.unusedSimpArgs false
set_option linter.unusedVariables false
theorem bal {w w' : World} (h : Below w.heap.size w w') {o : Obj} : Below w.heap.size w (w'.alloc o) := h.alloc h.size o
theorem store_row_upon {P : Program} {o : Oper} {a : Act} {D' : World → Prop} {w : World} (ty : TypeId) (x y : Operand) (ho : o.op = .store ty x y) (g : Nat) (cells : Array Value) (hx : a.eval x = .pointer (some ⟨g, 0, none⟩)) (hy : a.eval y = .agg cells)
    (t : TypeId) (old : Array Value) (hg : Blk w g old t) (hsz : (P.info? ty).map (·.size) = some cells.size) (hz : old.size = cells.size) (h1 : cells.all (·.oneCell') = true) (hD : D' (w.setRow g cells)) : lUpon P D' undef ((execOp a.eval o).run P w) := by
  unfold execOp
  simp only [ho, hx, hy, Instr.storeAt, Instr.sureAddr, Sem.run_bind, Sem.run_pure, Result.andThen_ok, run_storeVar_row _ _ t ty old cells hg hsz hz h1, lUpon]
  exact ⟨hD, trivial⟩
theorem load_row_upon {P : Program} {o : Oper} {a : Act} {D' : World → Prop} {w : World} (ty : TypeId) (x : Operand) (ho : o.op = .load ty x) (g : Nat) (hx : a.eval x = .pointer (some ⟨g, 0, none⟩)) (t : TypeId) (cs : Array Value) (d : TypeDesc) (hg : Blk w g cs t)
    (hu : P.underlying ty = some d) (hd : (match d with | .struct _ | .array _ _ => true | _ => false) = true) (hi : (P.info? ty).map (·.size) = some cs.size) (hD : D' w) : lUpon P D' (.agg cs) ((execOp a.eval o).run P w) := by
  unfold execOp
  simp only [ho, hx, Instr.loadAt, Instr.sureAddr, Sem.run_bind, Sem.run_pure, Result.andThen_ok, run_loadVar_row w g t ty cs (0, 0) d hg hu hd hi, lUpon]
  exact ⟨hD, trivial⟩
theorem tup_agg {cs : Array Value} {a b : Int} (h : a = b) : Ending.returned (.tuple #[.agg cs, .int .i64 a]) = .returned (.tuple #[.agg cs, .int .i64 b]) := by rw [h]
theorem bdn {w w' : World} (h : Below w.heap.size w w') {n : Nat} : Below w.heap.size w (w'.drewN n) := below_drewN h n
theorem World.push_set (w : World) (n : Nat) (p : Addr) (v : Value) : (w.drewN n).setCell p v = (w.setCell p v).drewN n := rfl
theorem World.push_alloc (w : World) (n : Nat) (o : Obj) : (w.drewN n).alloc o = (w.alloc o).drewN n := rfl
theorem bdr {w w' : World} (h : Below w.heap.size w w') : Below w.heap.size w w'.drew := below_drewN h 1
theorem bst {w w' : World} (h : Below w.heap.size w w') {g i : Nat} (hg : w.heap.size ≤ g) {v : Value} : Below w.heap.size w (w'.setCell ⟨g, i, none⟩ v) := h.setCell (by simpa using hg) v
theorem ret_row_tmp {P : Program} {fn : Func} {R : Ending → World → Prop} {a : Act} {w : World} {p u : Tmp} {ty t : TypeId} {g : Nat} {cs : Array Value} {d : TypeDesc} {v : Value} (h : fn.results = #[.cell p ty, .tmp u])
    (hp : a.tmps.getD p undef = .pointer (some ⟨g, 0, none⟩)) (hg : Blk w g cs t) (hu : P.underlying ty = some d) (hd : (match d with | .struct _ | .array _ _ => true | _ => false) = true) (hi : (P.info? ty).map (·.size) = some cs.size)
    (hv : a.tmps.getD u undef = v) (hdf : a.defers = []) (hR : R (.returned (.tuple #[.agg cs, v])) w) : bodyPost P fn R .ret a w := by
  refine bodyPost_ret (v := .tuple #[.agg cs, v]) ?_ hdf hR
  rw [results_cell_tmp h, hp, hv]
  simp [asAddr, run_loadVar_row w g t ty cs (0, 0) d hg hu hd hi, Result.andThen]
end Go.Proofs.YtnllkgjmoipgbaaGreatDoor
-- Bui
namespace Go.Proofs.YtnllkgjmoipgbaaGreatDoor
open Go Go.RowKit
set_option linter.unusedSimpArgs false
set_option linter.unusedVariables false
set_option maxRecDepth 100000

/-- A struct is built: its value is known. -/
theorem wpList_built {P : Program} {w : World} {a : Act} {Q : Exit → Act → World → Prop} {ops : Array Oper} {rest : List Oper} {o : Oper} (hg : o.guard = none) (t : TypeId) (parts : Array (Nat × Operand)) (ho : o.op = .build t parts)
    {vs : Array (Nat × Value)} {v : Value} (hc : (Instr.build t vs).run P w = .ok v w) (he : (parts.map fun (i, x) => (i, a.eval x)) = vs)
    (h : wpList P ops Q rest (a.put o.dst v) w) : wpList P ops Q (o :: rest) a w :=
  wpList_plain hg fun _ hK => by
    subst he
    unfold Oper.wp execOp
    simp only [ho, Sem.run_bind, hc, Result.andThen_ok]
    exact hK _ _ h
theorem laidL_cons (x : Value) : ∀ (vs cs : List Value) (o : Nat), laidL (x :: cs) (o + 1) vs = x :: laidL cs o vs
  | [], _, _ => rfl
  | v :: r, cs, o => by rw [laidL, laidL, List.set_cons_succ, laidL_cons x r]
theorem fold_laid : ∀ (l : List Value) (k off : Nat) (cs : List Value), (l.zipIdx k).foldl (fun (cs : Array Value) (p : Value × Nat) => cs.setIfInBounds (off + p.2) p.1) cs.toArray = (laidL cs (off + k) l).toArray
  | [], _, _, _ => rfl
  | v :: r, k, off, cs => by
    rw [List.zipIdx_cons, List.foldl_cons, laidL]
    simp only [List.setIfInBounds_toArray]
    rw [fold_laid r (k + 1) off, Nat.add_assoc]
theorem fill_step {place : Nat → Option (Nat × Nat)} {cs vs : List Value} {i off size : Nat} {v : Value} {rest : List (Nat × Value)} (hp : place i = some (off, size)) (hv : v.cells = vs.toArray) (hs : vs.length = size) (ho : off + size ≤ cs.length) :
    Instr.fill place cs.toArray ((i, v) :: rest) = Instr.fill place (laidL cs off vs).toArray rest := by
  rw [Instr.fill, hp]
  simp only [hv]
  rw [if_neg (by simp [hs]; omega)]
  congr 1
  have := fold_laid vs 0 off cs
  rw [Nat.add_zero] at this
  rw [← this]
  simp
theorem built_struct {P : Program} {t : TypeId} {it : TypeInfo} {fields : Array Field} {z : Value} {places : List (Nat × Nat)} {parts : List (Nat × Value)} (h1 : P.info? t = some it) (h2 : P.underlying t = some (.struct fields)) (h3 : it.zero = some z)
    (h4 : (fields.toList.mapM fun f => (P.info? f.type).map fun i => (f.offset, i.size)) = some places) : P.built t parts = Instr.fill (places.toArray[·]?) z.cells parts := by
  simp [Program.built, h1, h2, h3, h4]
/-- A struct of no parts: its zero. -/
theorem run_build_zero {P : Program} {t : TypeId} {z : Value} (hs : ∃ fs, P.underlying t = some (.struct fs) ∧ ((fs.toList.mapM fun f => (P.info? f.type).map fun i => (f.offset, i.size)).isSome = true)) (hz : (P.info? t).map (·.zero) = some (some z)) (hc : z.cells.size = z.cells.size) {cs : Array Value} (he : z = .agg cs) (w : World) :
    (Instr.build t #[]).run P w = .ok (.agg cs) w := by
  subst he
  refine run_build w _ _ _ ?_
  obtain ⟨it, hi, hz'⟩ := Option.map_eq_some_iff.1 hz
  obtain ⟨fs, h2, h4⟩ := hs
  obtain ⟨pl, hpl⟩ := Option.isSome_iff_exists.1 h4
  rw [built_struct hi h2 hz' hpl]
  rfl
end Go.Proofs.YtnllkgjmoipgbaaGreatDoor
-- SmA
namespace Go.Proofs.YtnllkgjmoipgbaaGreatDoor
open Go Go.RowKit
set_option linter.unusedSimpArgs false
set_option linter.unusedVariables false
set_option maxRecDepth 100000

/-! ### Bits of three, and of a status -/
theorem or7_2 (l : Int) (h : 0 ≤ l ∧ l ≤ 7) : bits .or .i64 l 2 = orBit l 2 := by
  have : ∀ l : Fin 8, bits .or .i64 (l.val : Int) 2 = orBit (l.val : Int) 2 := by decide +kernel
  have := this ⟨l.toNat, by omega⟩
  simpa [Int.toNat_of_nonneg h.1] using this
theorem or7_4 (l : Int) (h : 0 ≤ l ∧ l ≤ 7) : bits .or .i64 l 4 = orBit l 4 := by
  have : ∀ l : Fin 8, bits .or .i64 (l.val : Int) 4 = orBit (l.val : Int) 4 := by decide +kernel
  have := this ⟨l.toNat, by omega⟩
  simpa [Int.toNat_of_nonneg h.1] using this
theorem not7_2 (l : Int) (h : 0 ≤ l ∧ l ≤ 7) : bits .andNot .i64 l 2 = clrBit l 2 := by
  have : ∀ l : Fin 8, bits .andNot .i64 (l.val : Int) 2 = clrBit (l.val : Int) 2 := by decide +kernel
  have := this ⟨l.toNat, by omega⟩
  simpa [Int.toNat_of_nonneg h.1] using this
theorem not7_4 (l : Int) (h : 0 ≤ l ∧ l ≤ 7) : bits .andNot .i64 l 4 = clrBit l 4 := by
  have : ∀ l : Fin 8, bits .andNot .i64 (l.val : Int) 4 = clrBit (l.val : Int) 4 := by decide +kernel
  have := this ⟨l.toNat, by omega⟩
  simpa [Int.toNat_of_nonneg h.1] using this
theorem or63 (s : Int) (h : 0 ≤ s ∧ s ≤ 63) (b : Int) (hb : isBit b) : bits .or .i64 s b = orBit s b := by
  have : ∀ s : Fin 64, bits .or .i64 (s.val : Int) 1 = orBit s.val 1 ∧ bits .or .i64 (s.val : Int) 2 = orBit s.val 2 ∧ bits .or .i64 (s.val : Int) 4 = orBit s.val 4 ∧ bits .or .i64 (s.val : Int) 8 = orBit s.val 8 ∧ bits .or .i64 (s.val : Int) 16 = orBit s.val 16 ∧ bits .or .i64 (s.val : Int) 32 = orBit s.val 32 := by decide +kernel
  have := this ⟨s.toNat, by omega⟩
  simp only [Int.toNat_of_nonneg h.1] at this
  obtain ⟨h1, h2, h4, h8, h16, h32⟩ := this
  rcases hb with rfl | rfl | rfl | rfl | rfl | rfl <;> assumption

theorem irq_three (m l : Int) (w : World) : Calls Tryz.prog 130 #[.agg #[.int .i64 m, .int .i64 l]] w fun e w' => e = .returned (.agg #[.int .i64 (m % 8), .int .i64 (l % 8)]) ∧ w' = (w.alloc (Obj.cells #[.int .i64 m, .int .i64 l] 50)).alloc (Obj.cells #[.int .i64 (m % 8), .int .i64 (l % 8)] 50) := by
  go_enter Tryz.func130, Tryz.ntmps130
  go_wp2
  exact ret_row rfl rfl (Blk.new' _ _ _ (by simp)) Tryz.underlying50 rfl (by kernel_rfl) rfl ⟨rfl, rfl⟩
section
variable {m l : Int} (hm : 0 ≤ m ∧ m ≤ 7) (hl : 0 ≤ l ∧ l ≤ 7)
include hm hl
theorem irq_Raise2 (on : Bool) (w : World) : Calls Tryz.prog 61 #[.agg #[.int .i64 m, .int .i64 l], .int .i64 2, .bool on] w fun e w' => e = .returned (.agg #[.int .i64 m, .int .i64 (if on then orBit l 2 else clrBit l 2)]) ∧ Below w.heap.size w w' := by
  have h1 := or7_2 l hl
  have h2 := not7_2 l hl
  have hm8 : m % 8 = m := by omega
  have hl8 : l % 8 = l := by omega
  cases on
  all_goals
    go_enter Tryz.func61, Tryz.ntmps61
    go_wp2_with fail
    refine (irq_three m l _).mono ?_; rintro e w1 ⟨rfl, rfl⟩
    rw [hm8, hl8]
    go_wp2
    exact ret_row rfl rfl (Blk.alloc (Blk.alloc (Blk.new' _ _ _ (by simp)) _) _) Tryz.underlying50 rfl (by kernel_rfl) rfl ⟨rfl, by repeat' first | exact Below.refl _ _ | refine bal ?_ | refine bdr ?_ | refine bdn ?_⟩
theorem irq_Raise4 (w : World) : Calls Tryz.prog 61 #[.agg #[.int .i64 m, .int .i64 l], .int .i64 4, .bool true] w fun e w' => e = .returned (.agg #[.int .i64 m, .int .i64 (orBit l 4)]) ∧ Below w.heap.size w w' := by
  have h1 := or7_4 l hl
  have hm8 : m % 8 = m := by omega
  have hl8 : l % 8 = l := by omega
  go_enter Tryz.func61, Tryz.ntmps61
  go_wp2_with fail
  refine (irq_three m l _).mono ?_; rintro e w1 ⟨rfl, rfl⟩
  rw [hm8, hl8]
  go_wp2
  exact ret_row rfl rfl (Blk.alloc (Blk.alloc (Blk.new' _ _ _ (by simp)) _) _) Tryz.underlying50 rfl (by kernel_rfl) rfl ⟨rfl, by repeat' first | exact Below.refl _ _ | refine bal ?_ | refine bdr ?_ | refine bdn ?_⟩
theorem irq_Write (a b : Int) (w : World) : Calls Tryz.prog 58 #[.agg #[.int .i64 m, .int .i64 l], .int .i64 a, .int .i64 b] w fun e w' => e = .returned (.agg #[.int .i64 (if a = 2 then b % 8 else m), .int .i64 (if a = 3 then clrBit l 4 else l)]) ∧ Below w.heap.size w w' := by
  have h1 := not7_4 l hl
  have hm8 : m % 8 = m := by omega
  have hl8 : l % 8 = l := by omega
  have hc := clrBit_in l hl 4 (by simp)
  have hc8 : clrBit l 4 % 8 = clrBit l 4 := by omega
  rcases (show a = 2 ∨ (a ≠ 2 ∧ a = 3) ∨ (a ≠ 2 ∧ a ≠ 3) by omega) with rfl | ⟨h2, rfl⟩ | ⟨h2, h3⟩
  · go_enter Tryz.func58, Tryz.ntmps58
    go_wp2_with fail
    refine (irq_three b l _).mono ?_; rintro e w1 ⟨rfl, rfl⟩
    rw [hl8]
    go_wp2
    exact ret_row rfl rfl (Blk.alloc (Blk.alloc (Blk.new' _ _ _ (by simp)) _) _) Tryz.underlying50 rfl (by kernel_rfl) rfl ⟨rfl, by repeat' first | exact Below.refl _ _ | refine bal ?_ | refine bdr ?_ | refine bdn ?_⟩
  · go_enter Tryz.func58, Tryz.ntmps58
    go_wp2_with fail
    refine (irq_three m (clrBit l 4) _).mono ?_; rintro e w1 ⟨rfl, rfl⟩
    rw [hm8, hc8]
    go_wp2
    exact ret_row rfl rfl (Blk.alloc (Blk.alloc (Blk.new' _ _ _ (by simp)) _) _) Tryz.underlying50 rfl (by kernel_rfl) rfl ⟨rfl, by repeat' first | exact Below.refl _ _ | refine bal ?_ | refine bdr ?_ | refine bdn ?_⟩
  · rw [if_neg h2, if_neg h3]
    go_enter Tryz.func58, Tryz.ntmps58
    go_wp2
    exact ret_row rfl rfl (Blk.new' _ _ _ (by simp)) Tryz.underlying50 rfl (by kernel_rfl) rfl ⟨rfl, by repeat' first | exact Below.refl _ _ | refine bal ?_ | refine bdr ?_ | refine bdn ?_⟩
theorem irq_Read (a : Int) (w : World) : Calls Tryz.prog 137 #[.agg #[.int .i64 m, .int .i64 l], .int .i64 a] w fun e w' => e = .returned (.int .i64 (if a = 2 then m else if a = 3 then l else 0)) ∧ Below w.heap.size w w' := by
  have hm8 : m % 8 = m := by omega
  have hl8 : l % 8 = l := by omega
  rcases (show a = 2 ∨ (a ≠ 2 ∧ a = 3) ∨ (a ≠ 2 ∧ a ≠ 3) by omega) with rfl | ⟨h2, rfl⟩ | ⟨h2, h3⟩
  all_goals
    go_enter Tryz.func137, Tryz.ntmps137
    go_wp2
    go_ret
    exact ⟨by first | rfl | simp [h2, h3] | simp [h2], bal (Below.refl _ _)⟩
end
theorem timer_Read (t : TimerV) (w : World) : Calls Tryz.prog 135 #[.agg t.cells.toArray] w fun e w' => e = .returned (.int .i64 t.count) ∧ Below w.heap.size w w' := by
  show Calls Tryz.prog 135 #[.agg #[.int .i64 t.reload, .int .i64 t.count, .bool t.on, .int .i64 t.pre]] w _
  go_enter Tryz.func135, Tryz.ntmps135
  go_wp2
  go_ret
  exact ⟨rfl, bal (Below.refl _ _)⟩
theorem timer_in (n m : Int) (w : World) : Calls Tryz.prog 212 #[.int .i64 n, .int .i64 m] w fun e w' => e = .returned (.bool (decide (0 ≤ n ∧ n ≤ m))) ∧ w = w' := by
  rcases (show n < 0 ∨ (0 ≤ n ∧ n ≤ m) ∨ (0 ≤ n ∧ m < n) by omega) with h | h | h
  all_goals
    go_enter Tryz.func212, Tryz.ntmps212
    go_wp2
    go_ret
    exact ⟨ret_bool (by simp; omega), rfl⟩
set_option maxHeartbeats 2000000 in
theorem timer_Valid {t : TimerV} (h : t.Ok) (w : World) : Calls Tryz.prog 131 #[.agg #[.int .i64 t.reload, .int .i64 t.count, .bool t.on, .int .i64 t.pre]] w fun e w' => e = .returned (.bool true) ∧
    w' = (w.alloc (Obj.cells #[.int .i64 t.reload, .int .i64 t.count, .bool t.on, .int .i64 t.pre] 48)).alloc (Obj.cells #[.int .i64 t.reload, .int .i64 t.count, .bool false, .int .i64 0] 48) := by
  obtain ⟨h1, h2, h3, h4⟩ := h
  obtain ⟨r, c, on, p⟩ := t
  simp only at h1 h2 h3 h4 ⊢
  have e1 : decide (0 ≤ r ∧ r ≤ 127) = true := by simpa using h1
  have e2 : decide (0 ≤ c ∧ c ≤ 127) = true := by simpa using h2
  have e3 : decide (0 ≤ p ∧ p ≤ 3071) = true := by simpa using h3
  have H1 := Lib.hid e1
  have H2 := Lib.hid e2
  have H3 := Lib.hid e3
  clear h1 h2 h3 e1 e2 e3
  cases on
  · obtain rfl := h4 rfl
    clear h4
    go_enter Tryz.func131, Tryz.ntmps131
    go_wp2_with fail
    refine (timer_in _ _ _).mono ?_; rintro e w1 ⟨rfl, rfl⟩
    rw [H1.out]
    go_wp2_with fail
    refine (timer_in _ _ _).mono ?_; rintro e w1 ⟨rfl, rfl⟩
    rw [H2.out]
    go_wp2_with fail
    refine (timer_in _ _ _).mono ?_; rintro e w1 ⟨rfl, rfl⟩
    rw [H3.out]
    go_wp2
    go_ret
    exact ⟨rfl, rfl⟩
  · clear h4
    go_enter Tryz.func131, Tryz.ntmps131
    go_wp2_with fail
    refine (timer_in _ _ _).mono ?_; rintro e w1 ⟨rfl, rfl⟩
    rw [H1.out]
    go_wp2_with fail
    refine (timer_in _ _ _).mono ?_; rintro e w1 ⟨rfl, rfl⟩
    rw [H2.out]
    go_wp2_with fail
    refine (timer_in _ _ _).mono ?_; rintro e w1 ⟨rfl, rfl⟩
    rw [H3.out]
    go_wp2
    go_ret
    exact ⟨rfl, rfl⟩
set_option maxHeartbeats 2000000 in
theorem timer_Advance {t : TimerV} (h : t.Ok) (n : Int) (hn : 0 ≤ n ∧ n ≤ 1099511627776) (w : World) : Calls Tryz.prog 60 #[.agg t.cells.toArray, .int .i64 n] w fun e w' => e = .returned (.tuple #[.agg (t.adv n).cells.toArray, .int .i64 (t.around n)]) ∧ Below w.heap.size w w' := by
  have hv := timer_Valid h
  have hr := h.reload; have hc := h.count; have hp := h.pre
  have HV := Lib.hid hv
  clear hv h
  show Calls Tryz.prog 60 #[.agg #[.int .i64 t.reload, .int .i64 t.count, .bool t.on, .int .i64 t.pre], .int .i64 n] w _
  by_cases ho : t.on = true ∧ 1 ≤ n
  · have e1 : t.adv n = if (t.pre + n) / 3072 ≤ t.count then { t with pre := (t.pre + n) % 3072, count := t.count - (t.pre + n) / 3072 } else { t with pre := (t.pre + n) % 3072, count := t.reload - ((t.pre + n) / 3072 - (t.count + 1)) % (t.reload + 1) } := by unfold TimerV.adv; rw [if_pos ho]
    have e2 : t.around n = if (t.pre + n) / 3072 ≤ t.count then 0 else 1 + ((t.pre + n) / 3072 - (t.count + 1)) / (t.reload + 1) := by unfold TimerV.around; rw [if_pos ho]
    rw [e1, e2]
    clear e1 e2
    obtain ⟨r, c, on, p⟩ := t
    obtain ⟨rfl, hn1⟩ := ho
    simp only at hr hc hp HV ⊢
    have q0 : 0 ≤ (p + n) / 3072 := by omega
    have q1 : (p + n) / 3072 ≤ 1099511627776 := by omega
    have q2 : 0 ≤ (p + n) % 3072 ∧ (p + n) % 3072 < 3072 := by omega
    have qn : 0 ≤ p + n := by omega
    by_cases hs : (p + n) / 3072 ≤ c
    · rw [if_pos hs, if_pos hs]
      have d1 : decide ((p + n) / 3072 ≤ c) = true := by simpa using hs
      go_enter Tryz.func60, Tryz.ntmps60
      go_wp2_with fail
      refine (HV.out _).mono ?_; rintro e w1 ⟨rfl, rfl⟩
      go_wp2
      exact ret_row_tmp rfl rfl (Blk.alloc (Blk.alloc (Blk.new' _ _ _ (by simp)) _) _) Tryz.underlying48 rfl (by kernel_rfl) rfl rfl ⟨rfl, by repeat' first | exact Below.refl _ _ | refine bal ?_ | refine bdr ?_ | refine bdn ?_⟩
    · rw [if_neg hs, if_neg hs]
      have d1 : decide ((p + n) / 3072 ≤ c) = false := by simpa using hs
      have w1 : wrap64 ((p + n) / 3072 - (c + 1)) = (p + n) / 3072 - (c + 1) := w64_in (by omega)
      have w2 : wrap64 (r + 1) = r + 1 := w64_in (by omega)
      have w3 : wrap64 (c + 1) = c + 1 := w64_in (by omega)
      have g1 : 0 ≤ (p + n) / 3072 - (c + 1) := by omega
      have g2 : 0 < r + 1 := by omega
      have w4 : wrap64 (1 + ((p + n) / 3072 - (c + 1)) / (r + 1)) = 1 + ((p + n) / 3072 - (c + 1)) / (r + 1) := by
        have k1 : 0 ≤ ((p + n) / 3072 - (c + 1)) / (r + 1) := Int.ediv_nonneg (by omega) (by omega)
        have k2 := Int.ediv_le_self (b := r + 1) (show 0 ≤ (p + n) / 3072 - (c + 1) by omega)
        exact w64_in (by omega)
      have g3 : r + 1 ≠ 0 := by omega
      have g4 : 0 ≤ ((p + n) / 3072 - (c + 1)) % (r + 1) := Int.emod_nonneg _ g3
      have g5 : ((p + n) / 3072 - (c + 1)) % (r + 1) < r + 1 := Int.emod_lt_of_pos _ g2
      go_enter Tryz.func60, Tryz.ntmps60
      go_wp2_with fail
      refine (HV.out _).mono ?_; rintro e w1 ⟨rfl, rfl⟩
      go_wp2_with fail
      go_region
      go_wp2_with fail
      go_region
      go_wp2
      exact ret_row_tmp rfl rfl (Blk.alloc (Blk.alloc (Blk.new' _ _ _ (by simp)) _) _) Tryz.underlying48 rfl (by kernel_rfl) rfl rfl ⟨tup_agg w4, by repeat' first | exact Below.refl _ _ | refine bal ?_ | refine bdr ?_ | refine bdn ?_⟩
  · have e1 : t.adv n = t := by unfold TimerV.adv; rw [if_neg ho]
    have e2 : t.around n = 0 := by unfold TimerV.around; rw [if_neg ho]
    rw [e1, e2]
    clear e1 e2
    obtain ⟨r, c, on, p⟩ := t
    simp only at hr hc hp HV ho ⊢
    have hcase : on = false ∨ (on = true ∧ n < 1) := by cases on <;> simp at ho ⊢ <;> omega
    rcases hcase with rfl | ⟨rfl, hn1⟩
    all_goals
      go_enter Tryz.func60, Tryz.ntmps60
      go_wp2_with fail
      refine (HV.out _).mono ?_; rintro e w1 ⟨rfl, rfl⟩
      go_wp2
      exact ret_row_tmp rfl rfl (Blk.alloc (Blk.alloc (Blk.new' _ _ _ (by simp)) _) _) Tryz.underlying48 rfl (by kernel_rfl) rfl rfl ⟨rfl, by repeat' first | exact Below.refl _ _ | refine bal ?_ | refine bdr ?_ | refine bdn ?_⟩
theorem timer_Write (t : TimerV) (a b : Int) (hb : 0 ≤ b ∧ b ≤ 255) (w : World) : Calls Tryz.prog 56 #[.agg t.cells.toArray, .int .i64 a, .int .i64 b] w fun e w' => e = .returned (.agg (t.write a b).cells.toArray) ∧ Below w.heap.size w w' := by
  show Calls Tryz.prog 56 #[.agg #[.int .i64 t.reload, .int .i64 t.count, .bool t.on, .int .i64 t.pre], .int .i64 a, .int .i64 b] w _
  have hbit : bitI b 0 = b % 2 := by unfold bitI; rw [if_pos (by decide)]; simp
  have hB := fun w => bits_Bit b 0 w
  rw [hbit] at hB
  have HB := Lib.hid hB
  clear hB hbit
  have hm : b % 128 = b % 128 := rfl
  obtain ⟨r, c, on, p⟩ := t
  rcases (show a = 0 ∨ (a ≠ 0 ∧ a = 1) ∨ (a ≠ 0 ∧ a ≠ 1) by omega) with rfl | ⟨h0, rfl⟩ | ⟨h0, h1⟩
  · rcases (show b % 2 = 0 ∨ b % 2 = 1 by omega) with hb2 | hb2
    all_goals
      rw [hb2] at HB
      go_enter Tryz.func56, Tryz.ntmps56
      go_wp2_with fail
      refine (HB.out _).mono ?_; rintro e w1 ⟨rfl, rfl⟩
      go_wp2
      exact ret_row rfl rfl (Blk.new' _ _ _ (by simp)) Tryz.underlying48 rfl (by kernel_rfl) rfl ⟨rfl, by repeat' first | exact Below.refl _ _ | refine bal ?_ | refine bdr ?_ | refine bdn ?_⟩
  · rcases (show b % 2 = 0 ∨ b % 2 = 1 by omega) with hb2 | hb2
    · have e1 : TimerV.write ⟨r, c, on, p⟩ 1 b = ⟨r, c, false, 0⟩ := by unfold TimerV.write; rw [if_neg (by decide), if_pos rfl, if_neg (by omega)]
      rw [e1]
      rw [hb2] at HB
      clear e1 hb2
      go_enter Tryz.func56, Tryz.ntmps56
      go_wp2_with fail
      refine (HB.out _).mono ?_; rintro e w1 ⟨rfl, rfl⟩
      go_wp2
      exact ret_row rfl rfl (Blk.new' _ _ _ (by simp)) Tryz.underlying48 rfl (by kernel_rfl) rfl ⟨rfl, by repeat' first | exact Below.refl _ _ | refine bal ?_ | refine bdr ?_ | refine bdn ?_⟩
    · have e1 : TimerV.write ⟨r, c, on, p⟩ 1 b = if on then ⟨r, c, on, p⟩ else ⟨r, r, true, 0⟩ := by unfold TimerV.write; rw [if_neg (by decide), if_pos rfl, if_pos hb2]
      rw [e1]
      rw [hb2] at HB
      clear e1 hb2
      cases on
      all_goals
        go_enter Tryz.func56, Tryz.ntmps56
        go_wp2_with fail
        refine (HB.out _).mono ?_; rintro e w1 ⟨rfl, rfl⟩
        go_wp2
        exact ret_row rfl rfl (Blk.new' _ _ _ (by simp)) Tryz.underlying48 rfl (by kernel_rfl) rfl ⟨rfl, by repeat' first | exact Below.refl _ _ | refine bal ?_ | refine bdr ?_ | refine bdn ?_⟩
  · have e1 : TimerV.write ⟨r, c, on, p⟩ a b = ⟨r, c, on, p⟩ := by unfold TimerV.write; rw [if_neg h0, if_neg h1]
    rw [e1]
    clear e1
    rcases (show b % 2 = 0 ∨ b % 2 = 1 by omega) with hb2 | hb2
    all_goals
      rw [hb2] at HB
      go_enter Tryz.func56, Tryz.ntmps56
      go_wp2_with fail
      refine (HB.out _).mono ?_; rintro e w1 ⟨rfl, rfl⟩
      go_wp2
      exact ret_row rfl rfl (Blk.new' _ _ _ (by simp)) Tryz.underlying48 rfl (by kernel_rfl) rfl ⟨rfl, by repeat' first | exact Below.refl _ _ | refine bal ?_ | refine bdr ?_ | refine bdn ?_⟩
theorem region_Held (k : Int) (w : World) : Calls Tryz.prog 59 #[.int .i64 k] w fun e w' => e = .returned (.bool (decide (4 ≤ k ∧ k ≤ 7))) ∧ w = w' := by
  rcases (show k < 4 ∨ (4 ≤ k ∧ k ≤ 7) ∨ (4 ≤ k ∧ 7 < k) by omega) with h | h | h
  all_goals
    go_enter Tryz.func59, Tryz.ntmps59
    go_wp2
    go_ret
    exact ⟨ret_bool (by simp; omega), rfl⟩
end Go.Proofs.YtnllkgjmoipgbaaGreatDoor
-- SmB
namespace Go.Proofs.YtnllkgjmoipgbaaGreatDoor
open Go Go.RowKit
set_option linter.unusedSimpArgs false
set_option linter.unusedVariables false
set_option maxRecDepth 100000

def portK (a : Int) : Int := if a / 1024 ≤ 5 then 2 + a / 1024 else 8
def portAt (a : Int) : Int := if a / 1024 = 0 ∨ a / 1024 = 5 then a % 4 else if a / 1024 = 1 then a % 8 else if a / 1024 = 2 then a % 16 else if a / 1024 = 3 then a % 2 else 0
theorem region_port (a : Int) (ha : 0 ≤ a ∧ a < 8192) (w : World) : Calls Tryz.prog 116 #[.int .i64 a] w fun e w' => e = .returned (.agg #[.int .i64 (portK a), .int .i64 0, .int .i64 (portAt a)]) ∧ w' = (w.alloc (Obj.cells #[.int .i64 (portK a), .int .i64 0, .int .i64 (portAt a)] 131)).alloc (Obj.cells #[.int .i64 (portK a), .int .i64 0, .int .i64 (portAt a)] 131) := by
  have hk : a / 1024 = 0 ∨ a / 1024 = 1 ∨ a / 1024 = 2 ∨ a / 1024 = 3 ∨ a / 1024 = 4 ∨ a / 1024 = 5 ∨ a / 1024 = 6 ∨ a / 1024 = 7 := by omega
  unfold portK portAt
  rcases hk with hk | hk | hk | hk | hk | hk | hk | hk
  all_goals
    rw [hk]
    go_enter Tryz.func116, Tryz.ntmps116
    go_wp2
    exact ret_row rfl rfl (Blk.alloc (Blk.new' _ _ _ (by simp)) _) Tryz.underlying131 rfl (by kernel_rfl) rfl ⟨rfl, rfl⟩
theorem portK_in (a : Int) (ha : 0 ≤ a ∧ a < 8192) : 2 ≤ portK a ∧ portK a ≤ 8 := by unfold portK; split <;> omega
theorem reg_of {a k p t : Int} (hk : regKind a = k) (hp : (if k = 0 then a / 8192 else 0) = p) (ht : (if k ≤ 1 then a % 8192 else if k = 2 ∨ k = 7 then a % 4 else if k = 3 then a % 8 else if k = 4 then a % 16 else if k = 5 then a % 2 else 0) = t) :
    regKind a = k ∧ regPage a = p ∧ regAt a = t := by
  subst hp ht
  unfold regPage regAt
  rw [hk]; exact ⟨rfl, rfl, rfl⟩
set_option maxHeartbeats 4000000 in
theorem region_Where (a : Int) (w : World) : Calls Tryz.prog 51 #[.int .i64 a] w fun e w' => e = .returned (.agg #[.int .i64 (regKind a), .int .i64 (regPage a), .int .i64 (regAt a)]) ∧ Below w.heap.size w w' := by
  rcases (show a < 0 ∨ (0 ≤ a ∧ 2097152 ≤ a) ∨ (0 ≤ a ∧ a < 2097152) by omega) with h | h | h
  · obtain ⟨e1, e2, e3⟩ := reg_of (a := a) (k := 8) (by unfold regKind; rw [if_pos (by omega)]) rfl rfl
    rw [e1, e2, e3]
    clear e1 e2 e3
    go_enter Tryz.func51, Tryz.ntmps51
    go_wp2
    exact ret_row rfl rfl (Blk.alloc (Blk.alloc (Blk.new' _ _ _ (by simp)) _) _) Tryz.underlying131 rfl (by kernel_rfl) rfl ⟨rfl, by repeat' first | exact Below.refl _ _ | refine bal ?_ | refine bdr ?_ | refine bdn ?_⟩
  · obtain ⟨e1, e2, e3⟩ := reg_of (a := a) (k := 8) (by unfold regKind; rw [if_pos (by omega)]) rfl rfl
    rw [e1, e2, e3]
    clear e1 e2 e3
    go_enter Tryz.func51, Tryz.ntmps51
    go_wp2
    exact ret_row rfl rfl (Blk.alloc (Blk.alloc (Blk.new' _ _ _ (by simp)) _) _) Tryz.underlying131 rfl (by kernel_rfl) rfl ⟨rfl, by repeat' first | exact Below.refl _ _ | refine bal ?_ | refine bdr ?_ | refine bdn ?_⟩
  rcases (show a / 8192 < 128 ∨ (128 ≤ a / 8192 ∧ a / 8192 < 248) ∨ (248 ≤ a / 8192 ∧ a / 8192 ≤ 251) ∨ (251 < a / 8192 ∧ a / 8192 ≠ 255) ∨ a / 8192 = 255 by omega) with hp | hp | hp | hp | hp
  · obtain ⟨e1, e2, e3⟩ := reg_of (a := a) (k := 0) (by unfold regKind; rw [if_neg (by omega), if_pos (by omega)]) rfl rfl
    rw [e1, e2, e3]
    clear e1 e2 e3
    go_enter Tryz.func51, Tryz.ntmps51
    go_wp2
    exact ret_row rfl rfl (Blk.alloc (Blk.alloc (Blk.new' _ _ _ (by simp)) _) _) Tryz.underlying131 rfl (by kernel_rfl) rfl ⟨rfl, by repeat' first | exact Below.refl _ _ | refine bal ?_ | refine bdr ?_ | refine bdn ?_⟩
  · obtain ⟨e1, e2, e3⟩ := reg_of (a := a) (k := 8) (by unfold regKind; rw [if_neg (by omega), if_neg (by omega), if_neg (by omega), if_neg (by omega)]) rfl rfl
    rw [e1, e2, e3]
    clear e1 e2 e3
    go_enter Tryz.func51, Tryz.ntmps51
    go_wp2
    exact ret_row rfl rfl (Blk.alloc (Blk.alloc (Blk.new' _ _ _ (by simp)) _) _) Tryz.underlying131 rfl (by kernel_rfl) rfl ⟨rfl, by repeat' first | exact Below.refl _ _ | refine bal ?_ | refine bdr ?_ | refine bdn ?_⟩
  · obtain ⟨e1, e2, e3⟩ := reg_of (a := a) (k := 1) (by unfold regKind; rw [if_neg (by omega), if_neg (by omega), if_pos (by omega)]) rfl rfl
    rw [e1, e2, e3]
    clear e1 e2 e3
    go_enter Tryz.func51, Tryz.ntmps51
    go_wp2
    exact ret_row rfl rfl (Blk.alloc (Blk.alloc (Blk.new' _ _ _ (by simp)) _) _) Tryz.underlying131 rfl (by kernel_rfl) rfl ⟨rfl, by repeat' first | exact Below.refl _ _ | refine bal ?_ | refine bdr ?_ | refine bdn ?_⟩
  · obtain ⟨e1, e2, e3⟩ := reg_of (a := a) (k := 8) (by unfold regKind; rw [if_neg (by omega), if_neg (by omega), if_neg (by omega), if_neg (by omega)]) rfl rfl
    rw [e1, e2, e3]
    clear e1 e2 e3
    go_enter Tryz.func51, Tryz.ntmps51
    go_wp2
    exact ret_row rfl rfl (Blk.alloc (Blk.alloc (Blk.new' _ _ _ (by simp)) _) _) Tryz.underlying131 rfl (by kernel_rfl) rfl ⟨rfl, by repeat' first | exact Below.refl _ _ | refine bal ?_ | refine bdr ?_ | refine bdn ?_⟩
  · have ek : regKind a = portK (a % 8192) := by unfold regKind portK; rw [if_neg (by omega), if_neg (by omega), if_neg (by omega), if_pos hp]
    have ep : regPage a = 0 := by
      unfold regPage; rw [ek, if_neg]
      have := portK_in (a % 8192) (by omega); omega
    have et : regAt a = portAt (a % 8192) := by
      unfold regAt portAt
      rw [ek]
      have hc : a % 8192 / 1024 = 0 ∨ a % 8192 / 1024 = 1 ∨ a % 8192 / 1024 = 2 ∨ a % 8192 / 1024 = 3 ∨ a % 8192 / 1024 = 4 ∨ a % 8192 / 1024 = 5 ∨ a % 8192 / 1024 = 6 ∨ a % 8192 / 1024 = 7 := by omega
      unfold portK
      rcases hc with hc | hc | hc | hc | hc | hc | hc | hc <;> rw [hc] <;> simp <;> omega
    rw [ek, ep, et]
    clear ek ep et
    have hin := portK_in (a % 8192) (by omega)
    have hP := fun w => region_port (a % 8192) (by omega) w
    have HP := Lib.hid hP
    clear hP
    by_cases h8 : portK (a % 8192) = 8
    · have ht : portAt (a % 8192) = 0 := by
        unfold portK at h8
        unfold portAt
        split at h8
        · omega
        · rw [if_neg (by omega), if_neg (by omega), if_neg (by omega), if_neg (by omega)]
      rw [h8, ht] at HP ⊢
      clear h8 ht hin
      go_enter Tryz.func51, Tryz.ntmps51
      go_wp2_with fail
      refine (HP.out _).mono ?_; rintro e w1 ⟨rfl, rfl⟩
      go_wp2
      exact ret_row rfl rfl (Blk.alloc (Blk.alloc (Blk.alloc (Blk.alloc (Blk.new' _ _ _ (by simp)) _) _) _) _) Tryz.underlying131 rfl (by kernel_rfl) rfl ⟨rfl, by repeat' first | exact Below.refl _ _ | refine bal ?_ | refine bdr ?_ | refine bdn ?_⟩
    · generalize portK (a % 8192) = k at *
      generalize portAt (a % 8192) = t at *
      have h8b : (k == 8) = false := by simpa using h8
      have h8d : decide (k = 8) = false := by simpa using h8
      go_enter Tryz.func51, Tryz.ntmps51
      go_wp2_with fail
      refine (HP.out _).mono ?_; rintro e w1 ⟨rfl, rfl⟩
      go_wp2
      exact ret_row rfl rfl (Blk.alloc (Blk.alloc (Blk.alloc (Blk.alloc (Blk.new' _ _ _ (by simp)) _) _) _) _) Tryz.underlying131 rfl (by kernel_rfl) rfl ⟨rfl, by repeat' first | exact Below.refl _ _ | refine bal ?_ | refine bdr ?_ | refine bdn ?_⟩
end Go.Proofs.YtnllkgjmoipgbaaGreatDoor
-- As
namespace Go.Proofs.YtnllkgjmoipgbaaGreatDoor
open Go Go.RowKit
set_option linter.unusedSimpArgs false
set_option linter.unusedVariables false

def Dn (W w' : World) : Prop := ∃ n, w' = W.drewN n
theorem Dn.more (W w : World) (n : Nat) (h : Dn W w) : Dn W (w.drewN n) := let ⟨m, h⟩ := h; ⟨m + n, by rw [h, World.drewN_drewN]⟩
theorem callD {P : Program} {f : FuncId} {args : Array Value} {W : World} {n : Nat} {v : Value} (h : Calls P f args (W.drewN n) fun e w' => e = .returned v ∧ W.drewN n = w') : Calls P f args (W.drewN n) fun e w' => e = .returned v ∧ ∃ m, w' = W.drewN (n + m) :=
  h.mono fun _ _ ⟨he, hw⟩ => ⟨he, 0, hw.symm⟩
section
variable {P : Program} {ops : Array Oper} {md : Region.Mode} {k s i : Nat} {o : Oper} {a : Act} {W : World} {z c : Array Value} {T : TypeId}
theorem wp_region_made {id : Nat} {Q : Exit → Act → World → Prop} {w : World} {l : List Oper} (k s : Nat) (z c : Array Value) (T : TypeId) (hm : P.follows .mixedOrders = true) (hB : Region.lexB .any l.toArray = true) (hE : edgesB .any l.toArray = true)
    (hs : s < l.length)
    (h : wpL P .any l.toArray (Ph .any l.toArray k s (Dn w) (Dn (w.alloc (.cells z T))) (Dn (w.alloc (.cells c T)))) (fun a' => ∀ n, Q .normal a' ((w.alloc (.cells c T)).drewN n)) l 0 a) : (Code.region id l.toArray true).wp P Q a w := by
  refine wp_region_alloc_store k s (Dn w) (Dn (w.alloc (.cells z T))) (Dn (w.alloc (.cells c T))) hm hB hE hs ⟨1, rfl⟩ ?_
  have hmono : ∀ (K K' : Act → Prop), (∀ a, K a → K' a) → ∀ (l' : List Oper) (j : Nat) (a : Act), wpL P .any l.toArray (Ph .any l.toArray k s (Dn w) (Dn (w.alloc (.cells z T))) (Dn (w.alloc (.cells c T)))) K l' j a → wpL P .any l.toArray (Ph .any l.toArray k s (Dn w) (Dn (w.alloc (.cells z T))) (Dn (w.alloc (.cells c T)))) K' l' j a := by
    intro K K' hK l'
    induction l' with
    | nil => intro j a h; exact hK _ h
    | cons o l' ih => intro j a ⟨v, h1, h2⟩; exact ⟨v, h1, ih _ _ h2⟩
  exact hmono _ _ (fun a' ha w' ⟨n, hw⟩ => by rw [hw]; exact ha n) _ _ _ h
theorem as_head {Q : Act → Prop} {rest : List Oper} (hg : Region.wanted o (yielded ops a.tmps) = true) (hk : i ≠ k) (hs : i ≠ s)
    (h : ∀ K : Act → Prop, (∀ a, wpL P md ops (Ph md ops k s (Dn W) (Dn (W.alloc (.cells z T))) (Dn (W.alloc (.cells c T)))) Q rest (i + 1) a → K a) → ∃ v, (∀ w, (Dn W w ∨ Dn (W.alloc (.cells z T)) w) → hUpon P w v ((execOp a.eval o).run P w)) ∧ K (a.put o.dst v)) :
    wpL P md ops (Ph md ops k s (Dn W) (Dn (W.alloc (.cells z T))) (Dn (W.alloc (.cells c T)))) Q (o :: rest) i a :=
  wpL_head hg hk hs (fun w n h => Dn.more _ w n h) (fun w n h => Dn.more _ w n h) h
theorem as_alloc {Q : Act → Prop} {rest : List Oper} (hg : Region.wanted o (yielded ops a.tmps) = true) (hks : k ≠ s)
    (h : ∀ K : Act → Prop, (∀ a, wpL P md ops (Ph md ops k s (Dn W) (Dn (W.alloc (.cells z T))) (Dn (W.alloc (.cells c T)))) Q rest (k + 1) a → K a) → (∀ n, lUpon P (Dn (W.alloc (.cells z T))) (.pointer (some ⟨W.heap.size, 0, none⟩)) ((execOp a.eval o).run P (W.drewN n))) ∧ K (a.put o.dst (.pointer (some ⟨W.heap.size, 0, none⟩)))) :
    wpL P md ops (Ph md ops k s (Dn W) (Dn (W.alloc (.cells z T))) (Dn (W.alloc (.cells c T)))) Q (o :: rest) k a :=
  wpL_alloc hg hks fun K hK => let ⟨h1, h2⟩ := h K hK; ⟨_, fun w ⟨n, hw⟩ => by rw [hw]; exact h1 n, h2⟩
theorem as_last {Q : Act → Prop} (ty : TypeId) (x y : Operand) (ho : o.op = .store ty x y) (hx : a.eval x = .pointer (some ⟨W.heap.size, 0, none⟩)) (hy : a.eval y = .agg c) (hsz : (P.info? ty).map (·.size) = some c.size) (hzc : z.size = c.size) (h1 : c.all (·.oneCell') = true)
    (hg : Region.wanted o (yielded ops a.tmps) = true) (hks : k < s) (hs : s + 1 = ops.size) (hsink : Region.sinkB md ops s = true) (hchain : Region.chainB md ops s = true)
    (h : Q (a.put o.dst undef)) : wpL P md ops (Ph md ops k s (Dn W) (Dn (W.alloc (.cells z T))) (Dn (W.alloc (.cells c T)))) Q [o] s a := by
  refine wpL_last hg hks hs hsink hchain ⟨undef, fun w ⟨n, hw⟩ => ?_, h⟩
  subst hw
  have hb : Blk ((W.alloc (.cells z T)).drewN n) W.heap.size z T := Blk.drewN (Blk.new W z T) n
  have e : ((W.alloc (.cells z T)).drewN n).setRow W.heap.size c = (W.alloc (.cells c T)).drewN n := by
    have h1 : (W.heap.push (Obj.cells z T)).modify W.heap.size (fun | .cells _ e f => .cells c e f | o => o) = W.heap.push (Obj.cells c T) := by
      apply Array.ext
      · simp
      · intro i h1 h2
        simp only [Array.size_modify, Array.size_push] at h1
        rw [Array.getElem_modify]
        by_cases hi : W.heap.size = i
        · subst hi; simp
        · rw [if_neg hi, Array.getElem_push_lt (by omega), Array.getElem_push_lt (by omega)]
    unfold World.setRow World.alloc World.drewN
    simp only
    congr 1
  unfold execOp
  simp only [ho, hx, hy, Instr.storeAt, Instr.sureAddr, Sem.run_bind, Sem.run_pure, Result.andThen_ok, run_storeVar_row _ _ T ty z c hb hsz hzc h1, lUpon]
  exact ⟨⟨n, e⟩, trivial⟩
end
end Go.Proofs.YtnllkgjmoipgbaaGreatDoor
-- Vram
set_option maxRecDepth 100000
namespace Go.Proofs.YtnllkgjmoipgbaaGreatDoor
open Go Go.RowKit
set_option linter.unusedSimpArgs false
set_option linter.unusedVariables false

theorem still0 {P : Program} {f : FuncId} {args : Array Value} {w : World} {v : Value} (h : Calls P f args w fun e w' => e = .returned v ∧ w = w') : Calls P f args w fun e w' => e = .returned v ∧ w' = w :=
  h.mono fun _ _ ⟨he, hw⟩ => ⟨he, hw.symm⟩

section
variable {w : World} {p g : Nat} {V : VS}

theorem vram_none (h : VAt 149 w p g V) : Calls Tryz.prog 70 #[.pointer (some ⟨p, 0, none⟩)] w fun e w' => e = .returned (.bool false) ∧ w = w' := by
  obtain ⟨cp, hcp, c0, c1, c2, c3, c4, c5⟩ := h.c
  have qS : ∀ w : World, (binOp .eql 66 (.slice (some ⟨g, 0, none⟩) 32768 cp) (.slice none 0 0)).run Tryz.prog w = .ok (.bool false) w := fun w => Lib.run_eql_slice_nil w 66 3 (some ⟨g, 0, none⟩) 32768 cp 0 0 Tryz.underlying66
  go_enter Tryz.func70, Tryz.ntmps70
  go_wp2
  go_ret
  exact ⟨rfl, rfl⟩

theorem vram_Word (h : VAt 149 w p g V) (n : Int) : Calls Tryz.prog 28 #[.pointer (some ⟨p, 0, none⟩), .int .i64 n] w fun e w' => e = .returned (.int .i64 (V.word n)) ∧ w = w' := by
  obtain ⟨cp, hcp, c0, c1, c2, c3, c4, c5⟩ := h.c
  unfold VS.word
  by_cases hlt : n % 65536 < 32768
  · have cw := h.wordAt (i := (n % 65536).toNat) (by omega)
    rw [if_pos hlt]
    go_enter Tryz.func28, Tryz.ntmps28
    go_wp2_with fail
    refine (bits_Word n _).mono ?_; rintro e w' ⟨rfl, rfl⟩
    go_wp2_with fail
    refine (vram_none h).mono ?_; rintro e w' ⟨rfl, rfl⟩
    go_wp2
    go_ret
    exact ⟨rfl, rfl⟩
  · rw [if_neg hlt]
    go_enter Tryz.func28, Tryz.ntmps28
    go_wp2_with fail
    refine (bits_Word n _).mono ?_; rintro e w' ⟨rfl, rfl⟩
    go_wp2_with fail
    refine (vram_none h).mono ?_; rintro e w' ⟨rfl, rfl⟩
    go_wp2
    go_ret
    exact ⟨rfl, rfl⟩

theorem ref13_Word (h : VAt 155 w p g V) (n : Int) (hn : -9223372036854775808 ≤ n ∧ n ≤ 9223372036854775807) : Calls Tryz.prog 35 #[.pointer (some ⟨p, 0, none⟩), .int .i64 n] w fun e w' => e = .returned (.int .i64 (V.word n)) ∧ w = w' := by
  obtain ⟨cp, hcp, c0, c1, c2, c3, c4, c5⟩ := h.c
  unfold VS.word
  by_cases hlt : n % 65536 < 32768
  · have cw := h.wordAt (i := (n % 65536).toNat) (by omega)
    rw [if_pos hlt]
    go_enter Tryz.func35, Tryz.ntmps35
    go_wp2_with fail
    refine (ref01_Word n hn _).mono ?_; rintro e w' ⟨rfl, rfl⟩
    go_wp2
    go_ret
    exact ⟨rfl, rfl⟩
  · rw [if_neg hlt]
    go_enter Tryz.func35, Tryz.ntmps35
    go_wp2_with fail
    refine (ref01_Word n hn _).mono ?_; rintro e w' ⟨rfl, rfl⟩
    go_wp2
    go_ret
    exact ⟨rfl, rfl⟩

theorem vram_Poke (h : VAt 149 w p g V) (n x : Int) : Calls Tryz.prog 206 #[.pointer (some ⟨p, 0, none⟩), .int .i64 n, .int .i64 x] w fun e w' =>
    e = .returned (.tuple #[]) ∧ VAt 149 w' p g (V.poke n x) ∧ Tr [g] w w' := by
  obtain ⟨cp, hcp, c0, c1, c2, c3, c4, c5⟩ := h.c
  by_cases hlt : n % 65536 < 32768
  · have cw := h.wordAt (i := (n % 65536).toNat) (by omega)
    have fw := h.freeW (n % 65536).toNat
    go_enter Tryz.func206, Tryz.ntmps206
    go_wp2_with fail
    refine (bits_Word n _).mono ?_; rintro e w' ⟨rfl, rfl⟩
    go_wp2_with fail
    refine (vram_none h).mono ?_; rintro e w' ⟨rfl, rfl⟩
    go_wp2_with fail
    go_still_tail 7, (by kernel_rfl)
    still_call (still0 (bits_Word x _))
    repeat still_step
    refine wpStill_nil ?_
    have h2 : VAt 149 w.drew p g V := h.drewN 1
    change wpList _ _ _ _ _ w.drew
    have T2 : Tr [g] w w.drew := (Tr.refl _ _).drew
    clear cw fw h
    have cw := h2.wordAt (i := (n % 65536).toNat) (by omega)
    have fw := h2.freeW (n % 65536).toNat
    generalize w.drew = w2 at *
    go_wp2
    exact ⟨rfl, .tuple #[], by first | exact rfl | (unfold results; rfl) | kernel_rfl, rfl, h2.setW n x hlt, T2.setCell _ (by simp) _⟩
  · have e : V.poke n x = V := by unfold VS.poke; rw [if_neg hlt]
    rw [e]
    go_enter Tryz.func206, Tryz.ntmps206
    go_wp2_with fail
    refine (bits_Word n _).mono ?_; rintro e w' ⟨rfl, rfl⟩
    go_wp2_with fail
    refine (vram_none h).mono ?_; rintro e w' ⟨rfl, rfl⟩
    go_wp2
    exact ⟨rfl, .tuple #[], by first | exact rfl | (unfold results; rfl) | kernel_rfl, rfl, h, Tr.refl _ _⟩
end

end Go.Proofs.YtnllkgjmoipgbaaGreatDoor
-- VramB
namespace Go.Proofs.YtnllkgjmoipgbaaGreatDoor
open Go Go.RowKit
set_option linter.unusedSimpArgs false
set_option linter.unusedVariables false
set_option maxRecDepth 100000

section
variable {w : World} {p g : Nat} {V : VS}

theorem ref13_Poke (h : VAt 155 w p g V) (n x : Int) (hn : -9223372036854775808 ≤ n ∧ n ≤ 9223372036854775807) (hx : -9223372036854775808 ≤ x ∧ x ≤ 9223372036854775807) : Calls Tryz.prog 224 #[.pointer (some ⟨p, 0, none⟩), .int .i64 n, .int .i64 x] w fun e w' =>
    e = .returned (.tuple #[]) ∧ VAt 155 w' p g (V.poke n x) ∧ Tr [g] w w' := by
  obtain ⟨cp, hcp, c0, c1, c2, c3, c4, c5⟩ := h.c
  by_cases hlt : n % 65536 < 32768
  · have cw := h.wordAt (i := (n % 65536).toNat) (by omega)
    have fw := h.freeW (n % 65536).toNat
    go_enter Tryz.func224, Tryz.ntmps224
    go_wp2_with fail
    refine (ref01_Word n hn _).mono ?_; rintro e w' ⟨rfl, rfl⟩
    go_wp2_with fail
    go_still_tail 7, (by kernel_rfl)
    still_call (still0 (ref01_Word x hx _))
    repeat still_step
    refine wpStill_nil ?_
    have h2 : VAt 155 w.drew p g V := h.drewN 1
    change wpList _ _ _ _ _ w.drew
    have T2 : Tr [g] w w.drew := (Tr.refl _ _).drew
    clear cw fw h
    have cw := h2.wordAt (i := (n % 65536).toNat) (by omega)
    have fw := h2.freeW (n % 65536).toNat
    generalize w.drew = w2 at *
    go_wp2
    exact ⟨rfl, .tuple #[], by first | exact rfl | (unfold results; rfl) | kernel_rfl, rfl, h2.setW n x hlt, T2.setCell _ (by simp) _⟩
  · have e : V.poke n x = V := by unfold VS.poke; rw [if_neg hlt]
    rw [e]
    go_enter Tryz.func224, Tryz.ntmps224
    go_wp2_with fail
    refine (ref01_Word n hn _).mono ?_; rintro e w' ⟨rfl, rfl⟩
    go_wp2
    exact ⟨rfl, .tuple #[], by first | exact rfl | (unfold results; rfl) | kernel_rfl, rfl, h, Tr.refl _ _⟩

theorem vram_SetWrite (h : VAt 149 w p g V) (n : Int) : Calls Tryz.prog 119 #[.pointer (some ⟨p, 0, none⟩), .int .i64 n] w fun e w' =>
    e = .returned (.tuple #[]) ∧ VAt 149 w' p g (V.setWr n) ∧ Tr [p] w w' := by
  obtain ⟨cp, hcp, c0, c1, c2, c3, c4, c5⟩ := h.c
  have f1 := h.f 1
  go_enter Tryz.func119, Tryz.ntmps119
  go_wp2_with fail
  refine (vram_none h).mono ?_; rintro e w' ⟨rfl, rfl⟩
  go_wp2_with fail
  refine (bits_Word n _).mono ?_; rintro e w' ⟨rfl, rfl⟩
  go_wp2
  exact ⟨rfl, .tuple #[], by first | exact rfl | (unfold results; rfl) | kernel_rfl, rfl, h.setWr n, (Tr.refl _ _).setCell _ (by simp) _⟩
theorem vram_SetStep (h : VAt 149 w p g V) (n : Int) : Calls Tryz.prog 122 #[.pointer (some ⟨p, 0, none⟩), .int .i64 n] w fun e w' =>
    e = .returned (.tuple #[]) ∧ VAt 149 w' p g (V.setSt n) ∧ Tr [p] w w' := by
  obtain ⟨cp, hcp, c0, c1, c2, c3, c4, c5⟩ := h.c
  have f1 := h.f 3
  go_enter Tryz.func122, Tryz.ntmps122
  go_wp2_with fail
  refine (vram_none h).mono ?_; rintro e w' ⟨rfl, rfl⟩
  go_wp2_with fail
  refine (bits_Word n _).mono ?_; rintro e w' ⟨rfl, rfl⟩
  go_wp2
  exact ⟨rfl, .tuple #[], by first | exact rfl | (unfold results; rfl) | kernel_rfl, rfl, h.setSt n, (Tr.refl _ _).setCell _ (by simp) _⟩
theorem vram_SetRead (h : VAt 149 w p g V) (n : Int) : Calls Tryz.prog 120 #[.pointer (some ⟨p, 0, none⟩), .int .i64 n] w fun e w' =>
    e = .returned (.tuple #[]) ∧ VAt 149 w' p g (V.setRd n) ∧ Tr [p] w w' := by
  obtain ⟨cp, hcp, c0, c1, c2, c3, c4, c5⟩ := h.c
  have f2 := h.f 2
  have f5 := h.f 5
  go_enter Tryz.func120, Tryz.ntmps120
  go_wp2_with fail
  refine (vram_none h).mono ?_; rintro e w' ⟨rfl, rfl⟩
  go_wp2_with fail
  refine (bits_Word n _).mono ?_; rintro e w' ⟨rfl, rfl⟩
  go_wp2_with fail
  refine (vram_Word (h.rd1 n) (n % 65536)).mono ?_; rintro e w' ⟨rfl, rfl⟩
  go_wp2
  rw [VS.word_mod]
  exact ⟨rfl, .tuple #[], by first | exact rfl | (unfold results; rfl) | kernel_rfl, rfl, h.setRd n, ((Tr.refl _ _).setCell _ (by simp) _).setCell _ (by simp) _⟩
end

end Go.Proofs.YtnllkgjmoipgbaaGreatDoor
-- VramC
namespace Go.Proofs.YtnllkgjmoipgbaaGreatDoor
open Go Go.RowKit
set_option linter.unusedSimpArgs false
set_option linter.unusedVariables false
set_option maxRecDepth 100000

section
variable {w : World} {p g : Nat} {V : VS}

theorem vram_Ports (h : VAt 149 w p g V) : Calls Tryz.prog 72 #[.pointer (some ⟨p, 0, none⟩)] w fun e w' =>
    e = .returned (.tuple #[.int .i64 V.wr, .int .i64 V.rd, .int .i64 V.st, .int .i64 V.lo, .int .i64 V.bu]) ∧ Below w.heap.size w w' := by
  obtain ⟨cp, hcp, c0, c1, c2, c3, c4, c5⟩ := h.c
  go_enter Tryz.func72, Tryz.ntmps72
  go_wp2_with fail
  refine (vram_none h).mono ?_; rintro e w' ⟨rfl, rfl⟩
  go_wp2_with fail
  go_quiet (fail)
  go_wp2
  exact ⟨rfl, _, by first | exact rfl | (unfold results; rfl) | kernel_rfl, rfl, below_drewN (Below.refl _ _) _⟩

theorem vram_Put_low (h : VAt 149 w p g V) (b : Int) : Calls Tryz.prog 121 #[.pointer (some ⟨p, 0, none⟩), .bool false, .int .i64 b] w fun e w' =>
    e = .returned (.tuple #[]) ∧ VAt 149 w' p g (V.putLo b) ∧ Tr [p, g] w w' := by
  obtain ⟨cp, hcp, c0, c1, c2, c3, c4, c5⟩ := h.c
  have f4 := h.f 4
  go_enter Tryz.func121, Tryz.ntmps121
  go_wp2_with fail
  refine (vram_none h).mono ?_; rintro e w' ⟨rfl, rfl⟩
  go_wp2_with fail
  refine (bits_Byte b _).mono ?_; rintro e w' ⟨rfl, rfl⟩
  go_wp2
  exact ⟨rfl, .tuple #[], by first | exact rfl | (unfold results; rfl) | kernel_rfl, rfl, h.putLo b, (Tr.refl _ _).setCell _ (by simp) _⟩

theorem vram_Put_high (h : VAt 149 w p g V) (b : Int) : Calls Tryz.prog 121 #[.pointer (some ⟨p, 0, none⟩), .bool true, .int .i64 b] w fun e w' =>
    e = .returned (.tuple #[]) ∧ VAt 149 w' p g (V.putHi b) ∧ Tr [p, g] w w' := by
  have elo : V.lo % 256 = V.lo := by have := h.ok.lo; omega
  have ews : IntKind.i64.wrap (V.wr + V.st) = V.wr + V.st := IntWalk.i64_in _ (by have := h.ok.wr; have := h.ok.st; omega)
  have e1 : (V.poke V.wr (V.lo % 256 + 256 * (b % 256))).setWr (V.wr + V.st) = V.putHi b := by rw [elo]; rfl
  have E1 := Lib.hid e1; clear e1
  clear elo
  go_enter Tryz.func121, Tryz.ntmps121
  go_wp2_with fail
  refine (vram_none h).mono ?_; rintro e w' ⟨rfl, rfl⟩
  go_wp2_with fail
  refine wp_region_last 11 (fun w' => VAt 149 w' p g (V.poke V.wr (V.lo % 256 + 256 * (b % 256))) ∧ Tr [p, g] w w') (by kernel_rfl) (by kernel_rfl) (by kernel_rfl) (by decide) ?_
  iterate 11
    (refine wpP_head rfl (by decide) (fun K hK => ?_)
     apply Exists.intro
     refine ⟨fun wq hq => ?_, hK _ ?_⟩
     · obtain ⟨_, _, _, c1, c2, c3, c4, c5⟩ := (h.below hq).c
       go_simp
       first | exact rfl | exact ⟨hq, rfl⟩ | exact calls_under hq (bits_Join _ _ wq)
     clear hK K
     simp only [Act.put, List.setIfInBounds_toArray, List.set_cons_zero, List.set_cons_succ])
  refine wpP_last rfl (by decide) (by kernel_rfl) (by kernel_rfl) ⟨.tuple #[], fun wq hq => ?_, ?_⟩
  · go_simp
    exact (vram_Poke (h.below hq) _ _).mono (fun _ _ ⟨he, hv, ht⟩ => ⟨he, hv, (Tr.of_below0 hq).trans (ht.mono (by simp))⟩)
  simp only [Act.put, List.setIfInBounds_toArray, List.set_cons_zero, List.set_cons_succ]
  rintro w1 ⟨h1, t1⟩
  go_wp2_with fail
  refine wp_region_last 10 (fun w' => VAt 149 w' p g ((V.poke V.wr (V.lo % 256 + 256 * (b % 256))).setWr (V.wr + V.st)) ∧ Tr [p, g] w1 w') (by kernel_rfl) (by kernel_rfl) (by kernel_rfl) (by decide) ?_
  have ew : (V.poke V.wr (V.lo % 256 + 256 * (b % 256))).wr = V.wr := by unfold VS.poke; split <;> rfl
  have es : (V.poke V.wr (V.lo % 256 + 256 * (b % 256))).st = V.st := by unfold VS.poke; split <;> rfl
  have hc : ∀ wq, Below w1.heap.size w1 wq → wq.cell? ⟨p, 1, none⟩ = some (.int .i64 V.wr) ∧ wq.cell? ⟨p, 3, none⟩ = some (.int .i64 V.st) := fun wq hq => by
    obtain ⟨_, _, _, c1, c2, c3, c4, c5⟩ := (h1.below hq).c
    rw [ew] at c1; rw [es] at c3; exact ⟨c1, c3⟩
  have HC := Lib.hid hc
  clear hc ew es
  iterate 10
    (refine wpP_head rfl (by decide) (fun K hK => ?_)
     apply Exists.intro
     refine ⟨fun wq hq => ?_, hK _ ?_⟩
     · obtain ⟨c1, c3⟩ := HC.out wq hq
       go_simp
       first | exact rfl | exact ⟨hq, rfl⟩
     clear hK K
     simp only [Act.put, List.setIfInBounds_toArray, List.set_cons_zero, List.set_cons_succ])
  refine wpP_last rfl (by decide) (by kernel_rfl) (by kernel_rfl) ⟨.tuple #[], fun wq hq => ?_, ?_⟩
  · go_simp
    exact (vram_SetWrite (h1.below hq) _).mono (fun _ _ ⟨he, hv, ht⟩ => ⟨he, hv, (Tr.of_below0 hq).trans (ht.mono (by simp))⟩)
  simp only [Act.put, List.setIfInBounds_toArray, List.set_cons_zero, List.set_cons_succ]
  rintro w2 ⟨h2, t2⟩
  rw [E1.out] at h2
  go_wp2
  exact ⟨rfl, .tuple #[], by first | exact rfl | (unfold results; rfl) | kernel_rfl, rfl, h2, t1.trans t2⟩

theorem vram_Get_low (h : VAt 149 w p g V) : Calls Tryz.prog 132 #[.pointer (some ⟨p, 0, none⟩), .bool false] w fun e w' =>
    e = .returned (.int .i64 (V.bu % 256)) ∧ w = w' := by
  obtain ⟨cp, hcp, c0, c1, c2, c3, c4, c5⟩ := h.c
  go_enter Tryz.func132, Tryz.ntmps132
  go_wp2_with fail
  refine (vram_none h).mono ?_; rintro e w' ⟨rfl, rfl⟩
  go_wp2_with fail
  refine (bits_Split V.bu _).mono ?_; rintro e w' ⟨rfl, rfl⟩
  go_wp2
  go_ret
  exact ⟨rfl, rfl⟩

theorem vram_Get_high (h : VAt 149 w p g V) : Calls Tryz.prog 132 #[.pointer (some ⟨p, 0, none⟩), .bool true] w fun e w' =>
    e = .returned (.int .i64 (V.bu / 256)) ∧ VAt 149 w' p g (V.setRd (V.rd + V.st)) ∧ Tr [p, g] w w' := by
  have ebu : V.bu / 256 % 256 = V.bu / 256 := by have := h.ok.bu; omega
  have ews : IntKind.i64.wrap (V.rd + V.st) = V.rd + V.st := IntWalk.i64_in _ (by have := h.ok.rd; have := h.ok.st; omega)
  obtain ⟨cp, hcp, c0, c1, c2, c3, c4, c5⟩ := h.c
  have E1 := Lib.hid ebu; clear ebu
  go_enter Tryz.func132, Tryz.ntmps132
  go_wp2_with fail
  refine (vram_none h).mono ?_; rintro e w' ⟨rfl, rfl⟩
  go_wp2_with fail
  refine (bits_Split V.bu _).mono ?_; rintro e w' ⟨rfl, rfl⟩
  rw [E1.out]
  clear E1
  go_wp2_with fail
  clear c0 c1 c2 c3 c4 c5
  refine wp_region_last 10 (fun w' => VAt 149 w' p g (V.setRd (V.rd + V.st)) ∧ Tr [p, g] w w') (by kernel_rfl) (by kernel_rfl) (by kernel_rfl) (by decide) ?_
  iterate 10
    (refine wpP_head rfl (by decide) (fun K hK => ?_)
     apply Exists.intro
     refine ⟨fun wq hq => ?_, hK _ ?_⟩
     · obtain ⟨_, _, _, c1, c2, c3, c4, c5⟩ := (h.below hq).c
       go_simp
       first | exact rfl | exact ⟨hq, rfl⟩
     clear hK K
     simp only [Act.put, List.setIfInBounds_toArray, List.set_cons_zero, List.set_cons_succ])
  refine wpP_last rfl (by decide) (by kernel_rfl) (by kernel_rfl) ⟨.tuple #[], fun wq hq => ?_, ?_⟩
  · go_simp
    exact (vram_SetRead (h.below hq) _).mono (fun _ _ ⟨he, hv, ht⟩ => ⟨he, hv, (Tr.of_below0 hq).trans (ht.mono (by simp))⟩)
  simp only [Act.put, List.setIfInBounds_toArray, List.set_cons_zero, List.set_cons_succ]
  rintro w1 ⟨h1, t1⟩
  go_wp2
  go_ret
  exact ⟨rfl, h1, t1⟩

theorem ref13_add (a b : Int) (h : -9223372036854775808 ≤ a + b ∧ a + b ≤ 9223372036854775807) (w : World) : Calls Tryz.prog 220 #[.int .i64 a, .int .i64 b] w fun e w' => e = .returned (.int .i64 ((a + b) % 65536)) ∧ w = w' := by
  go_enter Tryz.func220, Tryz.ntmps220
  go_wp2_with fail
  refine (ref01_Word (a + b) h _).mono ?_; rintro e w' ⟨rfl, rfl⟩
  go_wp2
  go_ret
  exact ⟨rfl, rfl⟩

theorem ref13_SetRead (h : VAt 155 w p g V) (n : Int) (hn : -9223372036854775808 ≤ n ∧ n ≤ 9223372036854775807) : Calls Tryz.prog 148 #[.pointer (some ⟨p, 0, none⟩), .int .i64 n] w fun e w' =>
    e = .returned (.tuple #[]) ∧ VAt 155 w' p g (V.setRd n) ∧ Tr [p] w w' := by
  obtain ⟨cp, hcp, c0, c1, c2, c3, c4, c5⟩ := h.c
  have f2 := h.f 2
  have f5 := h.f 5
  go_enter Tryz.func148, Tryz.ntmps148
  go_wp2_with fail
  refine (ref01_Word n hn _).mono ?_; rintro e w' ⟨rfl, rfl⟩
  go_wp2_with fail
  refine (ref13_Word (h.rd1 n) (n % 65536) (by omega)).mono ?_; rintro e w' ⟨rfl, rfl⟩
  go_wp2
  rw [VS.word_mod]
  exact ⟨rfl, .tuple #[], by first | exact rfl | (unfold results; rfl) | kernel_rfl, rfl, h.setRd n, ((Tr.refl _ _).setCell _ (by simp) _).setCell _ (by simp) _⟩

theorem ref13_Get_low (h : VAt 155 w p g V) : Calls Tryz.prog 144 #[.pointer (some ⟨p, 0, none⟩), .bool false] w fun e w' =>
    e = .returned (.int .i64 (V.bu % 256)) ∧ w = w' := by
  have h5 := h.ok.bu
  obtain ⟨cp, hcp, c0, c1, c2, c3, c4, c5⟩ := h.c
  go_enter Tryz.func144, Tryz.ntmps144
  go_wp2
  go_ret
  exact ⟨rfl, rfl⟩

theorem ref13_Get_high (h : VAt 155 w p g V) : Calls Tryz.prog 144 #[.pointer (some ⟨p, 0, none⟩), .bool true] w fun e w' =>
    e = .returned (.int .i64 (V.bu / 256)) ∧ VAt 155 w' p g (V.setRd (V.rd + V.st)) ∧ Tr [p, g] w w' := by
  have h5 := h.ok.bu
  have hrs : -9223372036854775808 ≤ V.rd + V.st ∧ V.rd + V.st ≤ 9223372036854775807 := by have := h.ok.rd; have := h.ok.st; omega
  obtain ⟨cp, hcp, c0, c1, c2, c3, c4, c5⟩ := h.c
  go_enter Tryz.func144, Tryz.ntmps144
  go_wp2_with fail
  clear c0 c1 c2 c3 c4 c5
  refine wp_region_last 10 (fun w' => VAt 155 w' p g (V.setRd (V.rd + V.st)) ∧ Tr [p, g] w w') (by kernel_rfl) (by kernel_rfl) (by kernel_rfl) (by decide) ?_
  iterate 10
    (refine wpP_head rfl (by decide) (fun K hK => ?_)
     apply Exists.intro
     refine ⟨fun wq hq => ?_, hK _ ?_⟩
     · obtain ⟨_, _, _, c1, c2, c3, c4, c5⟩ := (h.below hq).c
       go_simp
       first | exact rfl | exact ⟨hq, rfl⟩ | exact calls_under_same hq (ref13_add _ _ hrs wq)
     clear hK K
     simp only [Act.put, List.setIfInBounds_toArray, List.set_cons_zero, List.set_cons_succ])
  refine wpP_last rfl (by decide) (by kernel_rfl) (by kernel_rfl) ⟨.tuple #[], fun wq hq => ?_, ?_⟩
  · go_simp
    exact (ref13_SetRead (h.below hq) _ (by omega)).mono (fun _ _ ⟨he, hv, ht⟩ => ⟨he, by rw [← VS.setRd_mod]; exact hv, (Tr.of_below0 hq).trans (ht.mono (by simp))⟩)
  simp only [Act.put, List.setIfInBounds_toArray, List.set_cons_zero, List.set_cons_succ]
  rintro w1 ⟨h1, t1⟩
  go_wp2
  go_ret
  exact ⟨rfl, h1, t1⟩

theorem ref13_Put_low (h : VAt 155 w p g V) (b : Int) (hb : -9223372036854775808 ≤ b ∧ b ≤ 9223372036854775807) : Calls Tryz.prog 149 #[.pointer (some ⟨p, 0, none⟩), .bool false, .int .i64 b] w fun e w' =>
    e = .returned (.tuple #[]) ∧ VAt 155 w' p g (V.putLo b) ∧ Tr [p, g] w w' := by
  obtain ⟨cp, hcp, c0, c1, c2, c3, c4, c5⟩ := h.c
  have f4 := h.f 4
  go_enter Tryz.func149, Tryz.ntmps149
  go_wp2_with fail
  refine (ref01_Byte b hb _).mono ?_; rintro e w' ⟨rfl, rfl⟩
  go_wp2
  exact ⟨rfl, .tuple #[], by first | exact rfl | (unfold results; rfl) | kernel_rfl, rfl, h.putLo b, (Tr.refl _ _).setCell _ (by simp) _⟩

theorem ref13_Put_high (h : VAt 155 w p g V) (b : Int) (hb : -9223372036854775808 ≤ b ∧ b ≤ 9223372036854775807) : Calls Tryz.prog 149 #[.pointer (some ⟨p, 0, none⟩), .bool true, .int .i64 b] w fun e w' =>
    e = .returned (.tuple #[]) ∧ VAt 155 w' p g (V.putHi b) ∧ Tr [p, g] w w' := by
  have hlo := h.ok.lo
  have hlo' : -9223372036854775808 ≤ V.lo ∧ V.lo ≤ 9223372036854775807 := by omega
  have hws : -9223372036854775808 ≤ V.wr + V.st ∧ V.wr + V.st ≤ 9223372036854775807 := by have := h.ok.wr; have := h.ok.st; omega
  have hwr := h.ok.wr
  have hwr' : -9223372036854775808 ≤ V.wr ∧ V.wr ≤ 9223372036854775807 := by omega
  have hj : -9223372036854775808 ≤ V.lo % 256 + 256 * (b % 256) ∧ V.lo % 256 + 256 * (b % 256) ≤ 9223372036854775807 := by omega
  have elo : V.lo % 256 = V.lo := by omega
  have e1 : (V.poke V.wr (V.lo % 256 + 256 * (b % 256))).setWr (V.wr + V.st) = V.putHi b := by rw [elo]; rfl
  have E1 := Lib.hid e1
  clear elo e1 hlo hwr
  go_enter Tryz.func149, Tryz.ntmps149
  go_wp2_with fail
  refine wp_region_last 11 (fun w' => VAt 155 w' p g (V.poke V.wr (V.lo % 256 + 256 * (b % 256))) ∧ Tr [p, g] w w') (by kernel_rfl) (by kernel_rfl) (by kernel_rfl) (by decide) ?_
  iterate 11
    (refine wpP_head rfl (by decide) (fun K hK => ?_)
     apply Exists.intro
     refine ⟨fun wq hq => ?_, hK _ ?_⟩
     · obtain ⟨_, _, _, c1, c2, c3, c4, c5⟩ := (h.below hq).c
       go_simp
       first | exact rfl | exact ⟨hq, rfl⟩ | exact calls_under_same hq (ref01_Join _ _ hlo' hb wq)
     clear hK K
     simp only [Act.put, List.setIfInBounds_toArray, List.set_cons_zero, List.set_cons_succ])
  refine wpP_last rfl (by decide) (by kernel_rfl) (by kernel_rfl) ⟨.tuple #[], fun wq hq => ?_, ?_⟩
  · go_simp
    exact (ref13_Poke (h.below hq) _ _ hwr' hj).mono (fun _ _ ⟨he, hv, ht⟩ => ⟨he, hv, (Tr.of_below0 hq).trans (ht.mono (by simp))⟩)
  simp only [Act.put, List.setIfInBounds_toArray, List.set_cons_zero, List.set_cons_succ]
  rintro w1 ⟨h1, t1⟩
  go_wp2_with fail
  refine wp_region_last 12 (fun w' => VAt 155 w' p g ((V.poke V.wr (V.lo % 256 + 256 * (b % 256))).setWr (V.wr + V.st)) ∧ Tr [p, g] w1 w') (by kernel_rfl) (by kernel_rfl) (by kernel_rfl) (by decide) ?_
  have ew : (V.poke V.wr (V.lo % 256 + 256 * (b % 256))).wr = V.wr := by unfold VS.poke; split <;> rfl
  have es : (V.poke V.wr (V.lo % 256 + 256 * (b % 256))).st = V.st := by unfold VS.poke; split <;> rfl
  have hc : ∀ wq, Below w1.heap.size w1 wq → wq.cell? ⟨p, 1, none⟩ = some (.int .i64 V.wr) ∧ wq.cell? ⟨p, 3, none⟩ = some (.int .i64 V.st) ∧ wq.frozen? ⟨p, 1, none⟩ = false := fun wq hq => by
    obtain ⟨_, _, _, c1, c2, c3, c4, c5⟩ := (h1.below hq).c
    rw [ew] at c1; rw [es] at c3; exact ⟨c1, c3, (h1.below hq).f 1⟩
  have HC := Lib.hid hc
  clear hc ew es
  iterate 12
    (refine wpP_head rfl (by decide) (fun K hK => ?_)
     apply Exists.intro
     refine ⟨fun wq hq => ?_, hK _ ?_⟩
     · obtain ⟨c1, c3, f1⟩ := HC.out wq hq
       go_simp
       first | exact rfl | exact ⟨hq, rfl⟩ | exact calls_under_same hq (ref13_add _ _ hws wq)
     clear hK K
     simp only [Act.put, List.setIfInBounds_toArray, List.set_cons_zero, List.set_cons_succ])
  refine wpP_last rfl (by decide) (by kernel_rfl) (by kernel_rfl) ⟨undef, fun wq hq => ?_, ?_⟩
  · obtain ⟨c1, c3, f1⟩ := HC.out wq hq
    have hs := (h1.below hq).setWr (V.wr + V.st)
    have ht : Tr [p, g] w1 (wq.setCell ⟨p, 1, none⟩ (.int .i64 ((V.wr + V.st) % 65536))) := (Tr.of_below0 hq).setCell _ (by simp) _
    go_simp
  simp only [Act.put, List.setIfInBounds_toArray, List.set_cons_zero, List.set_cons_succ]
  rintro w2 ⟨h2, t2⟩
  rw [E1.out] at h2
  go_wp2
  exact ⟨rfl, .tuple #[], by first | exact rfl | (unfold results; rfl) | kernel_rfl, rfl, h2, t1.trans t2⟩
end

end Go.Proofs.YtnllkgjmoipgbaaGreatDoor
-- VramD
namespace Go.Proofs.YtnllkgjmoipgbaaGreatDoor
open Go Go.RowKit
set_option linter.unusedSimpArgs false
set_option linter.unusedVariables false
set_option maxRecDepth 100000

theorem Tryz.infoInt : (Tryz.prog.info? 3).map (fun i => (i.zero, i.size, i.bytes)) = some (some (.int .i64 0), 1, 8) := by kernel_rfl
theorem make_ints (n : Nat) (hn : n ≤ 1000000000) (w : World) : (Instr.makeSlice 66 (.int .i64 (n : Int)) (.int .i64 (n : Int))).run Tryz.prog w = .ok (.slice (some ⟨w.heap.size, 0, none⟩) n n) (w.alloc (.cells (madeCells #[.int .i64 0] n) 3)) :=
  run_make_row' 66 3 _ 8 Tryz.underlying66 Tryz.infoInt rfl .i64 .i64 n (by omega) (by omega) w

theorem vat_new (t : TypeId) (w : World) : VAt t ((w.alloc (.cells (madeCells #[.int .i64 0] 32768) 3)).alloc (.cells (VS.new.cells w.heap.size 32768) t)) (w.heap.size + 1) w.heap.size VS.new :=
  ⟨⟨[], Blk.new' _ _ _ (by simp), by rw [List.append_nil]; exact Blk.alloc (BlkL.made (f := Value.int .i64) w 0 32768 3 rfl) _⟩, VS.Ok.new, by omega⟩
theorem below_new (w : World) (o o' : Obj) : Below w.heap.size w ((w.alloc o).alloc o') := ((Below.refl _ _).alloc (Nat.le_refl _) _).alloc (by simp) _

theorem vram_New (w : World) : Calls Tryz.prog 46 #[] w fun e w' => ∃ p g, e = .returned (.pointer (some ⟨p, 0, none⟩)) ∧ VAt 149 w' p g VS.new ∧ Below w.heap.size w w' ∧ w.heap.size ≤ p ∧ w.heap.size ≤ g := by
  have hm : ∀ w : World, (Instr.makeSlice 66 (.int .i64 32768) (.int .i64 32768)).run Tryz.prog w = .ok (.slice (some ⟨w.heap.size, 0, none⟩) 32768 32768) (w.alloc (.cells (madeCells #[.int .i64 0] 32768) 3)) := fun w => make_ints 32768 (by omega) w
  have N := Lib.hid (vat_new 149 w)
  generalize madeCells #[Value.int .i64 0] 32768 = cs at *
  go_enter Tryz.func46, Tryz.ntmps46
  go_wp2
  go_ret
  exact ⟨_, _, rfl, N.out, below_new w _ _, by omega, by omega⟩
theorem ref13_New (w : World) : Calls Tryz.prog 141 #[] w fun e w' => ∃ p g, e = .returned (.pointer (some ⟨p, 0, none⟩)) ∧ VAt 155 w' p g VS.new ∧ Below w.heap.size w w' ∧ w.heap.size ≤ p ∧ w.heap.size ≤ g := by
  have hm : ∀ w : World, (Instr.makeSlice 66 (.int .i64 32768) (.int .i64 32768)).run Tryz.prog w = .ok (.slice (some ⟨w.heap.size, 0, none⟩) 32768 32768) (w.alloc (.cells (madeCells #[.int .i64 0] 32768) 3)) := fun w => make_ints 32768 (by omega) w
  have N := Lib.hid (vat_new 155 w)
  generalize madeCells #[Value.int .i64 0] 32768 = cs at *
  go_enter Tryz.func141, Tryz.ntmps141
  go_wp2
  go_ret
  exact ⟨_, _, rfl, N.out, below_new w _ _, by omega, by omega⟩

end Go.Proofs.YtnllkgjmoipgbaaGreatDoor
-- VramE
namespace Go.Proofs.YtnllkgjmoipgbaaGreatDoor
open Go Go.RowKit
set_option linter.unusedSimpArgs false
set_option linter.unusedVariables false
set_option maxRecDepth 100000

/-- A row of n words, of which the first k are laid. -/
def RowK (V : VS) (p : Int) (n k : Nat) (cur : List Int) : Prop := cur.length = n ∧ ∀ j, j < n → nth 0 cur j = if j < k then V.word (p + j) else 0
theorem RowK.zero (V : VS) (p : Int) (n : Nat) : RowK V p n 0 (List.replicate n 0) := ⟨by simp, fun j hj => by rw [if_neg (by omega)]; exact nth_zeros n j⟩
theorem RowK.done {V : VS} {p : Int} {n k : Nat} {cur : List Int} (h : RowK V p n k cur) (hk : n ≤ k) : cur = wordsK V p n := by
  refine nth_ext 0 (by rw [h.1, wordsK_length]) fun i hi => ?_
  rw [h.1] at hi
  rw [h.2 i hi, if_pos (by omega), nth_wordsK V p n i hi]
theorem RowK.skip {V : VS} {p : Int} {n k m : Nat} {cur : List Int} (h : RowK V p n k cur) (hp : 32768 ≤ (p + k) % 65536) (hm : (m : Int) = 65536 - (p + k) % 65536) : RowK V p n (k + m) cur := by
  refine ⟨h.1, fun j hj => ?_⟩
  rw [h.2 j hj]
  by_cases h1 : j < k
  · rw [if_pos h1, if_pos (by omega)]
  · rw [if_neg h1]
    by_cases h2 : j < k + m
    · rw [if_pos h2]; unfold VS.word; rw [if_neg (by omega)]
    · rw [if_neg h2]
/-- The words that go over. -/
def segK (V : VS) (p : Int) (k n : Nat) : List Int := (V.W.drop ((p + k) % 65536).toNat).take (n - k)
theorem segK_length {V : VS} (hV : V.Ok) (p : Int) (k n : Nat) (hp : (p + k) % 65536 < 32768) : (segK V p k n).length = min (32768 - ((p + k) % 65536).toNat) (n - k) := by
  unfold segK; rw [List.length_take, List.length_drop, hV.len]; exact Nat.min_comm _ _
theorem nth_segK {V : VS} (hV : V.Ok) (p : Int) (k n j : Nat) (hp : (p + k) % 65536 < 32768) (hj : j < (segK V p k n).length) : nth 0 (segK V p k n) j = V.word (p + k + j) := by
  rw [segK_length hV p k n hp] at hj
  have h1 : j < 32768 - ((p + k) % 65536).toNat := Nat.lt_of_lt_of_le hj (Nat.min_le_left _ _)
  have h2 : j < n - k := Nat.lt_of_lt_of_le hj (Nat.min_le_right _ _)
  unfold VS.word
  rw [if_pos (by omega), show ((p + k + j) % 65536).toNat = ((p + k) % 65536).toNat + j by omega]
  unfold segK nth
  simp only [List.getD_eq_getElem?_getD, List.getElem?_take, List.getElem?_drop]
  rw [if_pos h2]
theorem RowK.copy {V : VS} (hV : V.Ok) {p : Int} {n k : Nat} {cur : List Int} (h : RowK V p n k cur) (hk : k < n) (hp : (p + k) % 65536 < 32768) : RowK V p n (k + (segK V p k n).length) (splice cur k (segK V p k n)) := by
  have hl := segK_length hV p k n hp
  have hle : (segK V p k n).length ≤ n - k := by rw [hl]; exact Nat.min_le_right _ _
  have h1 := h.1
  refine ⟨by rw [length_splice _ _ _ (by omega)]; exact h1, fun j hj => ?_⟩
  have hs : nth 0 (splice cur k (segK V p k n)) j = if j < k then nth 0 cur j else if j < k + (segK V p k n).length then nth 0 (segK V p k n) (j - k) else nth 0 cur j := by
    unfold splice nth
    simp only [List.getD_eq_getElem?_getD]
    by_cases a : j < k
    · rw [if_pos a, List.getElem?_append_left (by simp; omega), List.getElem?_take, if_pos a]
    · rw [if_neg a, List.getElem?_append_right (by simp; omega)]
      rw [show (List.take k cur).length = k by simp; omega]
      by_cases b : j < k + (segK V p k n).length
      · rw [if_pos b, List.getElem?_append_left (by omega)]
      · rw [if_neg b, List.getElem?_append_right (by omega), List.getElem?_drop]
        congr 2; omega
  rw [hs]
  by_cases a : j < k
  · rw [if_pos a, if_pos (by omega), h.2 j hj, if_pos a]
  · rw [if_neg a]
    by_cases b : j < k + (segK V p k n).length
    · rw [if_pos b, if_pos b, nth_segK hV p k n (j - k) hp (by omega)]
      congr 1; omega
    · rw [if_neg b, if_neg b, h.2 j hj, if_neg a]

theorem splice_map {α β : Type} (f : α → β) (L cs : List α) (k : Nat) : (splice L k cs).map f = splice (L.map f) k (cs.map f) := by
  simp [splice]

end Go.Proofs.YtnllkgjmoipgbaaGreatDoor
-- DmaLaws
namespace Go.Proofs.YtnllkgjmoipgbaaGreatDoor
open Go Go.RowKit
set_option linter.unusedSimpArgs false
set_option linter.unusedVariables false

def db0 (l : List Int) (p : Int) (m : Nat) : VS := lay VS.new p l m
def db1 (l : List Int) (p : Int) (m : Nat) : VS := mv (db0 l p m) 1 1 p (p + 1000) m
def db2 (l : List Int) (p : Int) (m : Nat) : VS := mv (db1 l p m) 1 (-1) (p + 1000) (p + 2000 + ((m : Int) - 1)) m
def db3 (l : List Int) (p : Int) (m k : Nat) : VS := lay (db2 l p m) p (zeros m) k
def db4 (l : List Int) (p : Int) (m : Nat) : VS := mv (db3 l p m m) 1 1 (p + 1000) p m
theorem db0_ok (l : List Int) (p : Int) (m : Nat) : (db0 l p m).Ok := lay_ok VS.Ok.new _ _ _
theorem db1_ok (l : List Int) (p : Int) (m : Nat) : (db1 l p m).Ok := mv_ok (lay_ok VS.Ok.new _ _ _) _ _ _ _ _
theorem db2_ok (l : List Int) (p : Int) (m : Nat) : (db2 l p m).Ok := mv_ok (db1_ok l p m) _ _ _ _ _
theorem db3_ok (l : List Int) (p : Int) (m k : Nat) : (db3 l p m k).Ok := lay_ok (db2_ok l p m) _ _ _
theorem db3_out (l : List Int) (p : Int) (m : Nat) (k : Nat) (q : Int) (hq : ∀ j : Nat, j < k → (p + j) % 65536 ≠ q % 65536) : (db3 l p m k).word q = (db2 l p m).word q := lay_out _ _ _ _ k hq
section
variable {l : List Int} {p : Int} {m : Nat} (h0 : 0 ≤ p) (h1 : p < 16384) (hm : m ≤ 60)
include h0 h1 hm
theorem db0_a (i : Nat) (hi : i < m) : (db0 l p m).word (p + i) = nth 0 l i % 65536 := by
  unfold db0; rw [lay_in VS.Ok.new p l i m hi (by omega), if_pos (by omega)]
theorem db1_a (i : Nat) (hi : i < m) : (db1 l p m).word (p + i) = nth 0 l i % 65536 := by
  unfold db1; rw [mv_out _ _ _ _ _ _ m (fun j hj => by omega)]; exact db0_a h0 h1 hm i hi
theorem db1_b (i : Nat) (hi : i < m) : (db1 l p m).word (p + 1000 + i) = nth 0 l i % 65536 := by
  have := mv_in (db0_ok l p m) 1 1 p (p + 1000) i (by omega) m hi (fun j hj hn => by omega) (fun j hj => by omega)
  unfold db1; rw [show p + 1000 + (i : Int) = p + 1000 + 1 * (i : Int) by omega, this, show p + 1 * (i : Int) = p + i by omega]; exact db0_a h0 h1 hm i hi
theorem db2_a (i : Nat) (hi : i < m) : (db2 l p m).word (p + i) = nth 0 l i % 65536 := by
  unfold db2; rw [mv_out _ _ _ _ _ _ m (fun j hj => by omega)]; exact db1_a h0 h1 hm i hi
theorem db2_b (i : Nat) (hi : i < m) : (db2 l p m).word (p + 1000 + i) = nth 0 l i % 65536 := by
  unfold db2; rw [mv_out _ _ _ _ _ _ m (fun j hj => by omega)]; exact db1_b h0 h1 hm i hi
theorem db2_c (i : Nat) (hi : i < m) : (db2 l p m).word (p + 2000 + ((m : Int) - 1) - i) = nth 0 l i % 65536 := by
  have := mv_in (db1_ok l p m) 1 (-1) (p + 1000) (p + 2000 + ((m : Int) - 1)) i (by omega) m hi (fun j hj hn => by omega) (fun j hj => by omega)
  unfold db2; rw [show p + 2000 + ((m : Int) - 1) - (i : Int) = p + 2000 + ((m : Int) - 1) + (-1) * (i : Int) by omega, this, show p + 1000 + 1 * (i : Int) = p + 1000 + i by omega]; exact db1_b h0 h1 hm i hi
theorem db3_a (i : Nat) (hi : i < m) : (db3 l p m i).word (p + i) = nth 0 l i % 65536 := by
  rw [db3_out l p m i _ (fun j hj => by omega)]; exact db2_a h0 h1 hm i hi
theorem db3_b (k : Nat) (hk : k ≤ m) (i : Nat) (hi : i < m) : (db3 l p m k).word (p + 1000 + i) = nth 0 l i % 65536 := by
  rw [db3_out l p m k _ (fun j hj => by omega)]; exact db2_b h0 h1 hm i hi
theorem db3_c (k : Nat) (hk : k ≤ m) (i : Nat) (hi : i < m) : (db3 l p m k).word (p + 2000 + ((m : Int) - 1) - i) = nth 0 l i % 65536 := by
  rw [db3_out l p m k _ (fun j hj => by omega)]; exact db2_c h0 h1 hm i hi
theorem db4_a (i : Nat) (hi : i < m) : (db4 l p m).word (p + i) = nth 0 l i % 65536 := by
  have := mv_in (db3_ok l p m m) 1 1 (p + 1000) p i (by omega) m hi (fun j hj hn => by omega) (fun j hj => by omega)
  unfold db4; rw [show p + (i : Int) = p + 1 * (i : Int) by omega, this, show p + 1000 + 1 * (i : Int) = p + 1000 + i by omega]; exact db3_b h0 h1 hm m (Nat.le_refl _) i hi
end

/-- Filled. -/
theorem fill_in {V : VS} (hV : V.Ok) (p w : Int) (h0 : 0 ≤ p) (h1 : p < 16384) : ∀ (k : Nat), k ≤ 300 → ∀ j : Nat, j ≤ k → (mv (V.poke p w) 1 1 p (p + 1) k).word (p + j) = w % 65536
  | 0, _, j, hj => by
    obtain rfl : j = 0 := by omega
    show (V.poke p w).word (p + (0 : Nat)) = _
    rw [VS.word_poke_eq _ hV.len _ _ _ (by simp), if_pos (by simp; omega)]
  | k + 1, hk, j, hj => by
    rw [mv_succ]
    by_cases h : j = k + 1
    · subst h
      have e : (p + 1 + 1 * (k : Int)) % 65536 = (p + ((k + 1 : Nat) : Int)) % 65536 := by omega
      rw [VS.word_poke_eq _ (mv_ok (hV.poke _ _) _ _ _ _ k).len _ _ _ e, if_pos (by omega)]
      rw [show p + 1 * (k : Int) = p + (k : Nat) by omega, fill_in hV p w h0 h1 k (by omega) k (Nat.le_refl _)]; omega
    · rw [VS.word_poke_ne _ _ _ _ (by omega)]
      exact fill_in hV p w h0 h1 k (by omega) j (by omega)
theorem fill_out (p w : Int) (h0 : 0 ≤ p) (h1 : p < 16384) (k : Nat) (hk : k ≤ 300) : (mv (VS.new.poke p w) 1 1 p (p + 1) k).word (p + (k : Int) + 1) = 0 := by
  rw [mv_out _ _ _ _ _ _ k (fun j hj => by omega), VS.word_poke_ne _ _ _ _ (by omega)]; exact VS.word_new _

end Go.Proofs.YtnllkgjmoipgbaaGreatDoor
-- Dma
namespace Go.Proofs.YtnllkgjmoipgbaaGreatDoor
open Go Go.RowKit
set_option linter.unusedSimpArgs false
set_option linter.unusedVariables false
set_option maxRecDepth 100000

theorem vram_none_nil (w : World) : Calls Tryz.prog 70 #[.pointer none] w fun e w' => e = .returned (.bool true) ∧ w = w' := by
  go_enter Tryz.func70, Tryz.ntmps70
  go_wp2
  go_ret
  exact ⟨rfl, rfl⟩
theorem vram_Word_nil (n : Int) (w : World) : Calls Tryz.prog 28 #[.pointer none, .int .i64 n] w fun e w' => e = .returned (.int .i64 0) ∧ w = w' := by
  go_enter Tryz.func28, Tryz.ntmps28
  go_wp2_with fail
  refine (bits_Word n _).mono ?_; rintro e w' ⟨rfl, rfl⟩
  go_wp2_with fail
  refine (vram_none_nil _).mono ?_; rintro e w' ⟨rfl, rfl⟩
  go_wp2
  go_ret
  exact ⟨rfl, rfl⟩
theorem vram_Poke_nil (n x : Int) (w : World) : Calls Tryz.prog 206 #[.pointer none, .int .i64 n, .int .i64 x] w fun e w' => e = .returned (.tuple #[]) ∧ w = w' := by
  go_enter Tryz.func206, Tryz.ntmps206
  go_wp2_with fail
  refine (bits_Word n _).mono ?_; rintro e w' ⟨rfl, rfl⟩
  go_wp2_with fail
  refine (vram_none_nil _).mono ?_; rintro e w' ⟨rfl, rfl⟩
  go_wp2
  exact ⟨rfl, .tuple #[], by first | exact rfl | (unfold results; rfl) | kernel_rfl, rfl, rfl⟩
theorem dma_way (k c : Int) (g : Nat) (w : World) (hc : w.cell? ⟨g, 0, none⟩ = some (.int .i64 c)) : Calls Tryz.prog 253 #[.int .i64 k, .pointer (some ⟨g, 0, none⟩)] w fun e w' => e = .returned (.int .i64 (1 - 2 * bitI c k)) ∧ w = w' := by
  have hb := bitI_range c k
  go_enter Tryz.func253, Tryz.ntmps253
  go_wp2_with fail
  refine (bits_Bit c k _).mono ?_; rintro e w' ⟨rfl, rfl⟩
  go_wp2
  go_ret
  exact ⟨rfl, rfl⟩

theorem VAt.setRow {t : TypeId} {w : World} {p g b : Nat} {V : VS} (h : VAt t w p g V) (cs : Array Value) (hp : p ≠ b) (hg : g ≠ b) : VAt t (w.setRow b cs) p g V :=
  let ⟨R, h1, h2⟩ := h.obj
  ⟨⟨R, Blk.setRow_other h1 cs hp, Blk.setRow_other h2 cs hg⟩, h.ok, h.ne⟩

theorem mv_step (f a : Int) (k : Nat) : ((f + a * k) % 65536 + a) % 65536 = (f + a * ((k + 1 : Nat) : Int)) % 65536 := by
  have : a * ((k + 1 : Nat) : Int) = a * k + a := by push_cast; rw [Int.mul_add, Int.mul_one]
  rw [this]; omega

theorem dma_Move {w : World} {p g : Nat} {V : VS} (h : VAt 149 w p g V) (f t n c : Int) (m : Nat) (hm : n % 65536 = (m : Int)) : Calls Tryz.prog 207 #[.pointer (some ⟨p, 0, none⟩), .agg #[.int .i64 f, .int .i64 t], .int .i64 n, .int .i64 c] w fun e w' =>
    e = .returned (.agg #[.int .i64 ((f + (1 - 2 * bitI c 2) * ((m + 1 : Nat) : Int)) % 65536), .int .i64 ((t + (1 - 2 * bitI c 3) * ((m + 1 : Nat) : Int)) % 65536)]) ∧
      VAt 149 w' p g (mv V (1 - 2 * bitI c 2) (1 - 2 * bitI c 3) f t (m + 1)) ∧ Tr [g] w w' := by
  have hb2 := bitI_range c 2
  have hb3 := bitI_range c 3
  go_enter Tryz.func207, Tryz.ntmps207
  go_wp2_with fail
  have hv3 : VAt 149 (((w.alloc (Obj.cells #[Value.int IntKind.i64 f, Value.int IntKind.i64 t] 109)).alloc (Obj.cells #[Value.int IntKind.i64 c] 3)).alloc (Obj.cells #[Value.int IntKind.i64 0, Value.int IntKind.i64 0] 109)) p g V := h.below ((((Below.refl _ _).alloc (Nat.le_refl _) _).alloc (by simp) _).alloc (by simp; omega) _)
  have A5 : Blk (((w.alloc (Obj.cells #[Value.int IntKind.i64 f, Value.int IntKind.i64 t] 109)).alloc (Obj.cells #[Value.int IntKind.i64 c] 3)).alloc (Obj.cells #[Value.int IntKind.i64 0, Value.int IntKind.i64 0] 109)) w.heap.size _ _ := (Blk.alloc (Blk.alloc (Blk.new w #[Value.int IntKind.i64 f, Value.int IntKind.i64 t] 109) _) _)
  have A7 : Blk (((w.alloc (Obj.cells #[Value.int IntKind.i64 f, Value.int IntKind.i64 t] 109)).alloc (Obj.cells #[Value.int IntKind.i64 c] 3)).alloc (Obj.cells #[Value.int IntKind.i64 0, Value.int IntKind.i64 0] 109)) (w.heap.size + 1) _ _ := Blk.alloc (Blk.new' (w.alloc (Obj.cells #[Value.int IntKind.i64 f, Value.int IntKind.i64 t] 109)) #[Value.int IntKind.i64 c] 3 (by simp)) _
  have A8 : Blk (((w.alloc (Obj.cells #[Value.int IntKind.i64 f, Value.int IntKind.i64 t] 109)).alloc (Obj.cells #[Value.int IntKind.i64 c] 3)).alloc (Obj.cells #[Value.int IntKind.i64 0, Value.int IntKind.i64 0] 109)) (w.heap.size + 1 + 1) _ _ := Blk.new' ((w.alloc (Obj.cells #[Value.int IntKind.i64 f, Value.int IntKind.i64 t] 109)).alloc (Obj.cells #[Value.int IntKind.i64 c] 3)) #[Value.int IntKind.i64 0, Value.int IntKind.i64 0] 109 (by simp)
  have T3 : Tr [g] w (((w.alloc (Obj.cells #[Value.int IntKind.i64 f, Value.int IntKind.i64 t] 109)).alloc (Obj.cells #[Value.int IntKind.i64 c] 3)).alloc (Obj.cells #[Value.int IntKind.i64 0, Value.int IntKind.i64 0] 109)) := (((Tr.refl _ _).alloc _).alloc _).alloc _
  have l1 := h.lt
  generalize (((w.alloc (Obj.cells #[Value.int IntKind.i64 f, Value.int IntKind.i64 t] 109)).alloc (Obj.cells #[Value.int IntKind.i64 c] 3)).alloc (Obj.cells #[Value.int IntKind.i64 0, Value.int IntKind.i64 0] 109)) = w3 at *
  generalize hg5 : w.heap.size = g5 at *
  refine (dma_way 2 c _ _ (A7.cell 0)).mono ?_; rintro e w' ⟨rfl, rfl⟩
  go_wp2_with fail
  refine (dma_way 3 c _ _ (A7.cell 0)).mono ?_; rintro e w' ⟨rfl, rfl⟩
  generalize hA : 1 - 2 * bitI c 2 = sa at *
  generalize hB : 1 - 2 * bitI c 3 = sb at *
  have ha : -1 ≤ sa ∧ sa ≤ 1 := by omega
  have hb : -1 ≤ sb ∧ sb ≤ 1 := by omega
  have HA := Lib.hid hA
  have HB := Lib.hid hB
  clear hA hB hb2 hb3
  have a50 := A5.cell 0
  have a51 := A5.cell 1
  simp only [List.getElem?_toArray, List.getElem?_cons_zero, List.getElem?_cons_succ] at a50 a51
  go_wp2_with fail
  go_quiet ((go_at_call 69; exact quiet_same (bits_Word _ _)))
  have hv4 := hv3.drewN nq
  have A9 := Blk.drewN A8 nq
  have T4 := T3.drewN nq
  generalize w3.drewN nq = w4 at *
  clear A5 A7 A8 T3 hv3 a50 a51
  go_wp2_with fail
  refine (bits_Word n _).mono ?_; rintro e w' ⟨rfl, rfl⟩
  rw [hm]
  have hm6 : m < 65536 := by omega
  clear hm
  go_wp2_with fail
  go_loopw [12, 13, 28] (fun x y i wr => ∃ k : Nat, k ≤ m + 1 ∧ i = .int .i64 k ∧ x = .int .i64 ((f + sa * (k : Int)) % 65536) ∧ y = .int .i64 ((t + sb * (k : Int)) % 65536) ∧ VAt 149 wr p g (mv V sa sb f t k) ∧ Blk wr (g5 + 1 + 1) #[Value.int IntKind.i64 0, Value.int IntKind.i64 0] 109 ∧ Tr [g] w wr) (fun _ _ i _ => m + 1 - (intOf i).toNat)
  case atStart => exact ⟨0, by omega, rfl, by simp, by simp, hv4, A9, T4⟩
  case round =>
    obtain ⟨k, hk, rfl, rfl, rfl, hv, A, T⟩ := hrel
    by_cases hlt : k < m + 1
    · have d1 : decide ((k : Int) < (m : Int) + 1) = true := by simp; omega
      have hx := mv_step f sa k
      have hy := mv_step t sb k
      have HX := Lib.hid hx
      have HY := Lib.hid hy
      clear hx hy
      go_wp2_with fail
      refine (vram_Word hv _).mono ?_; rintro e w' ⟨rfl, rfl⟩
      go_wp2_with fail
      refine (vram_Poke hv _ _).mono ?_; rintro e w' ⟨rfl, hv', T'⟩
      have A' := Blk.tr A T' (by simp; omega)
      have T2 := T.trans T'
      have hv2 : VAt 149 w' p g (mv V sa sb f t (k + 1)) := by
        rw [mv_succ, ← VS.poke_mod, ← VS.word_mod]; exact hv'
      clear hv hv' A T T'
      have x0 : 0 ≤ (f + sa * (k : Int)) % 65536 ∧ (f + sa * (k : Int)) % 65536 < 65536 := by omega
      have y0 : 0 ≤ (t + sb * (k : Int)) % 65536 ∧ (t + sb * (k : Int)) % 65536 < 65536 := by omega
      generalize (f + sa * (k : Int)) % 65536 = x at *
      generalize (t + sb * (k : Int)) % 65536 = y at *
      go_wp2_with fail
      refine (bits_Word (x + sa) _).mono ?_; rintro e w' ⟨rfl, rfl⟩
      go_wp2_with fail
      refine (bits_Word (y + sb) _).mono ?_; rintro e w' ⟨rfl, rfl⟩
      rw [HX.out, HY.out]
      clear HX HY
      go_wp2
      go_roundw
      case rel => exact ⟨k + 1, by omega, rfl, rfl, rfl, hv2, A', T2⟩
      case measure => simp [intOf]; omega
    · obtain rfl : k = m + 1 := by omega
      have d1 : decide (((m + 1 : Nat) : Int) < (m : Int) + 1) = false := by simp
      go_wp2_with (first
        | (refine wpList_store_row rfl 109 _ _ rfl (g5 + 1 + 1) (#[Value.int IntKind.i64 ((f + sa * ((m + 1 : Nat) : Int)) % 65536), Value.int IntKind.i64 ((t + sb * ((m + 1 : Nat) : Int)) % 65536)]) rfl rfl 109 _ A (by kernel_rfl) rfl (by simp [Value.oneCell']) ?_))
      refine ret_row rfl rfl (Blk.setRow A _) Tryz.underlying109 rfl rfl rfl ?_
      rw [HA.out, HB.out]
      exact ⟨rfl, hv.setRow _ (by omega) (by omega), T.setRow (by omega) _⟩

end Go.Proofs.YtnllkgjmoipgbaaGreatDoor
