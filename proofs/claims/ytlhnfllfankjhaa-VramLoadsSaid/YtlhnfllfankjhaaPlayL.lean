/- Contracts: a call, played. -/
import Derived.Test.YtlhnfllfankjhaaDuo
import Derived.Test.YtlhnfllfankjhaaLoad
namespace Go.Proofs.Ytlhnfllfankjhaa
open Go Go.RowKit
set_option linter.unusedSimpArgs false
set_option linter.unusedVariables false
set_option maxRecDepth 100000

/-- What a played call tells. -/
def VS.tell (V : VS) (a : ActV) : Int := if a.k = 4 then V.get a.hi else (V.act a).word a.n

set_option maxHeartbeats 8000000 in
theorem loads_play {w : World} {p g : Nat} {V : VS} (h0 : VAt 69 w p g V) (ac : ActV) : Calls Try.prog 48 #[.pointer (some ⟨p, 0, none⟩), .agg ac.cells] w fun e w' =>
    e = .returned (.int .i64 (V.tell ac)) ∧ VAt 69 w' p g (V.act ac) ∧ Tr [p, g] w w' := by
  obtain ⟨ka, na, wa, hi⟩ := ac
  unfold ActV.cells
  simp only
  have lx := h0.lt
  have C0 := Blk.new w #[Value.int .i64 ka, Value.int .i64 na, Value.int .i64 wa, Value.bool hi] 64
  have h := h0.below ((Below.refl _ _).alloc (Nat.le_refl _) (Obj.cells #[Value.int .i64 ka, Value.int .i64 na, Value.int .i64 wa, Value.bool hi] 64))
  have T0 := (Tr.refl [p, g] w).alloc (Obj.cells #[Value.int .i64 ka, Value.int .i64 na, Value.int .i64 wa, Value.bool hi] 64)
  have k0 := C0.cell 0
  have k1 := C0.cell 1
  have k2 := C0.cell 2
  have k3 := C0.cell 3
  simp only [List.getElem?_toArray, List.getElem?_cons_zero, List.getElem?_cons_succ] at k0 k1 k2 k3
  rcases (show ka = 0 ∨ ka = 1 ∨ ka = 2 ∨ ka = 3 ∨ ka = 5 ∨ ka = 4 ∨ ¬ (ka = 0 ∨ ka = 1 ∨ ka = 2 ∨ ka = 3 ∨ ka = 4 ∨ ka = 5) by omega) with rfl | rfl | rfl | rfl | rfl | rfl | hka
  · go_enter Try.func48, Try.ntmps48
    go_wp2_with fail
    generalize w.alloc (Obj.cells #[Value.int .i64 0, Value.int .i64 na, Value.int .i64 wa, Value.bool hi] 64) = w3 at *
    refine (vram_SetWrite h na).mono ?_; rintro e w4 ⟨rfl, hx4, t4⟩
    have C4 := C0.tr t4 (by simp; omega)
    have T4 := T0.trans (t4.mono (S' := [p, g]) (by simp))
    have k1 := C4.cell 1
    simp only [List.getElem?_toArray, List.getElem?_cons_zero, List.getElem?_cons_succ] at k1
    go_wp2_with fail
    refine (vram_Word hx4 na).mono ?_; rintro e w5 ⟨rfl, rfl⟩
    go_wp2
    go_ret
    exact ⟨rfl, hx4, T4⟩
  · go_enter Try.func48, Try.ntmps48
    go_wp2_with fail
    generalize w.alloc (Obj.cells #[Value.int .i64 1, Value.int .i64 na, Value.int .i64 wa, Value.bool hi] 64) = w3 at *
    refine (vram_SetRead h na).mono ?_; rintro e w4 ⟨rfl, hx4, t4⟩
    have C4 := C0.tr t4 (by simp; omega)
    have T4 := T0.trans (t4.mono (S' := [p, g]) (by simp))
    have k1 := C4.cell 1
    simp only [List.getElem?_toArray, List.getElem?_cons_zero, List.getElem?_cons_succ] at k1
    go_wp2_with fail
    refine (vram_Word hx4 na).mono ?_; rintro e w5 ⟨rfl, rfl⟩
    go_wp2
    go_ret
    exact ⟨rfl, hx4, T4⟩
  · go_enter Try.func48, Try.ntmps48
    go_wp2_with fail
    generalize w.alloc (Obj.cells #[Value.int .i64 2, Value.int .i64 na, Value.int .i64 wa, Value.bool hi] 64) = w3 at *
    refine (vram_SetStep h na).mono ?_; rintro e w4 ⟨rfl, hx4, t4⟩
    have C4 := C0.tr t4 (by simp; omega)
    have T4 := T0.trans (t4.mono (S' := [p, g]) (by simp))
    have k1 := C4.cell 1
    simp only [List.getElem?_toArray, List.getElem?_cons_zero, List.getElem?_cons_succ] at k1
    go_wp2_with fail
    refine (vram_Word hx4 na).mono ?_; rintro e w5 ⟨rfl, rfl⟩
    go_wp2
    go_ret
    exact ⟨rfl, hx4, T4⟩
  · go_enter Try.func48, Try.ntmps48
    go_wp2_with fail
    generalize w.alloc (Obj.cells #[Value.int .i64 3, Value.int .i64 na, Value.int .i64 wa, Value.bool hi] 64) = w3 at *
    refine (vram_Put h hi na).mono ?_; rintro e w4 ⟨rfl, hx4, t4⟩
    have C4 := C0.tr t4 (by simp; omega)
    have T4 := T0.trans (t4.mono (S' := [p, g]) (by simp))
    have k1 := C4.cell 1
    simp only [List.getElem?_toArray, List.getElem?_cons_zero, List.getElem?_cons_succ] at k1
    go_wp2_with fail
    refine (vram_Word hx4 na).mono ?_; rintro e w5 ⟨rfl, rfl⟩
    go_wp2
    go_ret
    exact ⟨rfl, hx4, T4⟩
  · go_enter Try.func48, Try.ntmps48
    go_wp2_with fail
    generalize w.alloc (Obj.cells #[Value.int .i64 5, Value.int .i64 na, Value.int .i64 wa, Value.bool hi] 64) = w3 at *
    refine (vram_Poke h na wa).mono ?_; rintro e w4 ⟨rfl, hx4, t4⟩
    have C4 := C0.tr t4 (by simp; omega)
    have T4 := T0.trans (t4.mono (S' := [p, g]) (by simp))
    have k1 := C4.cell 1
    simp only [List.getElem?_toArray, List.getElem?_cons_zero, List.getElem?_cons_succ] at k1
    go_wp2_with fail
    refine (vram_Word hx4 na).mono ?_; rintro e w5 ⟨rfl, rfl⟩
    go_wp2
    go_ret
    exact ⟨rfl, hx4, T4⟩
  · go_enter Try.func48, Try.ntmps48
    go_wp2_with fail
    generalize w.alloc (Obj.cells #[Value.int .i64 4, Value.int .i64 na, Value.int .i64 wa, Value.bool hi] 64) = w3 at *
    refine (vram_Get h hi).mono ?_; rintro e w4 ⟨rfl, hx4, t4⟩
    have T4 := T0.trans (t4.mono (S' := [p, g]) (by simp))
    go_wp2
    go_ret
    exact ⟨rfl, hx4, T4⟩
  · have b0 : (ka == 0) = false := by simp; omega
    have b1 : (ka == 1) = false := by simp; omega
    have b2 : (ka == 2) = false := by simp; omega
    have b3 : (ka == 3) = false := by simp; omega
    have b4 : (ka == 4) = false := by simp; omega
    have b5 : (ka == 5) = false := by simp; omega
    have hV : V.act ⟨ka, na, wa, hi⟩ = V := by
      unfold VS.act
      simp only
      rw [if_neg (by omega), if_neg (by omega), if_neg (by omega), if_neg (by omega), if_neg (by omega), if_neg (by omega)]
    have hT : V.tell ⟨ka, na, wa, hi⟩ = V.word na := by
      unfold VS.tell
      simp only
      rw [if_neg (by omega), hV]
    rw [hV, hT]
    clear hka hV hT
    go_enter Try.func48, Try.ntmps48
    go_wp2_with fail
    generalize w.alloc (Obj.cells #[Value.int .i64 ka, Value.int .i64 na, Value.int .i64 wa, Value.bool hi] 64) = w3 at *
    refine (vram_Word h na).mono ?_; rintro e w5 ⟨rfl, rfl⟩
    go_wp2
    go_ret
    exact ⟨rfl, h, T0⟩
end Go.Proofs.Ytlhnfllfankjhaa
