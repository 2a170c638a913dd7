/- The law LineOrder, walked. -/
import Derived.Test.YtbjjjgmcdabkhaaLineC
import Derived.Deep.RegionHeld3
import Derived.Deep.DrawnRows
import Derived.Deep.OwnRows
namespace Go.Proofs.Ytbjjjgmcdabkhaa
open Go Go.RowKit
set_option linter.unusedSimpArgs false
set_option linter.unusedVariables false

theorem Try.infoBool : (Try.prog.info? 4).map (fun i => (i.zero, i.size, i.bytes)) = some (some (.bool false), 1, 1) := by kernel_rfl

/-- What LineOrder makes: a picture of n pixels, in three new blocks. -/
def PicAt (w : World) (s7 : Value) (g g1 g2 n : Nat) (cols : List Int) (front : List Bool) (wx : World) : Prop :=
  s7 = .pointer (some ⟨g, 0, none⟩) ∧ Blk wx g #[.slice (some ⟨g1, 0, none⟩) n n, .slice (some ⟨g2, 0, none⟩) n n] 28 ∧ BlkL (Value.int .i64) wx g1 cols 3 ∧ BlkL Value.bool wx g2 front 4 ∧
    g1 ≠ g2 ∧ g ≠ g1 ∧ g ≠ g2 ∧ w.heap.size ≤ g ∧ w.heap.size ≤ g1 ∧ w.heap.size ≤ g2 ∧ Below w.heap.size w wx

/-- The first k of n are y, the others d. -/
def fill {α : Type} (n k : Nat) (y d : α) : List α := (List.range n).map fun i => if i < k then y else d
theorem fill_length {α : Type} (n k : Nat) (y d : α) : (fill n k y d).length = n := by simp [fill]
theorem fill_zero {α : Type} (n : Nat) (y d : α) : fill n 0 y d = List.replicate n d := by
  apply List.ext_getElem <;> simp [fill]
theorem fill_all {α : Type} (n : Nat) (y d : α) : fill n n y d = List.replicate n y := by
  apply List.ext_getElem
  · simp [fill]
  · intro i h1 h2; simp [fill] at h1 ⊢; intro h; omega
theorem fill_set {α : Type} (n k : Nat) (y d : α) : (fill n k y d).set k y = fill n (k + 1) y d := by
  apply List.ext_getElem
  · simp [fill]
  · intro i h1 h2
    simp [fill, List.getElem_set] at h1 ⊢
    by_cases h : k = i
    · subst h; simp
    · rw [if_neg h]
      by_cases h' : i < k
      · rw [if_pos h', if_pos (by omega)]
      · rw [if_neg h', if_neg (by omega)]

set_option maxRecDepth 100000 in
set_option maxHeartbeats 4000000 in
theorem order_walk (a : Option Addr) (c0 : Nat) (back : List Int) (colour : Int) (front : Bool) (w : World) (hc0 : back.length ≤ c0) (hcm : c0 ≤ maxLen) (S0 : SlAt (Value.int .i64) 0 w a back) :
    Calls Try.prog 5 #[.slice a back.length c0, .int .i64 colour, .bool front] w fun e w' => e = .returned (.bool true) ∧ Below w.heap.size w w' := by
  unfold maxLen at hcm
  go_enter Try.func5, Try.ntmps5
  go_upto_if 15 with (fail)
  go_cut [0] (fun s0 wx => w = wx ∧ ∃ (xs : List Int) (c : Nat), s0 = .slice a xs.length c ∧ xs.length ≤ 500 ∧ SlAt (Value.int .i64) 0 w a xs)
  case first =>
    by_cases h5 : (500 : Int) < back.length
    · go_wp2_with fail
      go_meet
      exact ⟨rfl, back.take 500, c0, by rw [show (back.take 500).length = 500 from by simp; omega], by simp; omega, S0.take 500⟩
    · go_wp2_with fail
      go_meet
      exact ⟨rfl, back, c0, rfl, by omega, S0⟩
  case rest =>
    obtain ⟨rfl, xs, c, rfl, hx5, S⟩ := hcut
    have hq := and_range colour 254 (by omega) (by omega)
    have hmk1 : ∀ wx, (Instr.makeSlice 25 (.int .i64 (xs.length : Int)) (.int .i64 (xs.length : Int))).run Try.prog wx = .ok (.slice (some ⟨wx.heap.size, 0, none⟩) xs.length xs.length) (wx.alloc (.cells (madeCells #[.int .i64 0] xs.length) 3)) :=
      run_make_row' 25 3 _ 8 Try.underlying25 Try.infoInt rfl .i64 .i64 xs.length (by omega) (by omega)
    have hmk2 : ∀ wx, (Instr.makeSlice 26 (.int .i64 (xs.length : Int)) (.int .i64 (xs.length : Int))).run Try.prog wx = .ok (.slice (some ⟨wx.heap.size, 0, none⟩) xs.length xs.length) (wx.alloc (.cells (madeCells #[.bool false] xs.length) 4)) :=
      run_make_row' 26 4 _ 1 Try.underlying26 Try.infoBool rfl .i64 .i64 xs.length (by omega) (by omega)
    go_upto_region 4 with (fail)
    go_cut [7] (fun s7 wx => ∃ g g1 g2, PicAt w s7 g g1 g2 xs.length (List.replicate xs.length 0) (List.replicate xs.length false) wx)
    case first =>
      go_region
      all_goals go_wp2_with fail
      all_goals
        go_meet
        first
          | (refine ⟨w.heap.size + 1 + 1, w.heap.size, w.heap.size + 1, rfl, Blk.drew ?_, BlkL.of_made (Blk.drew ?_), BlkL.of_made (Blk.drew ?_), ?_, ?_, ?_, ?_, ?_, ?_, ((((Below.refl _ _).alloc (Nat.le_refl _) _).alloc ?_ _).alloc ?_ _).drew⟩ <;> first | omega | (simp; done) | (simp; omega) | ((repeat (first | (refine Blk.new' _ _ _ ?_; (simp; done)) | refine Blk.alloc ?_ _)); done))
          | (refine ⟨w.heap.size + 1 + 1, w.heap.size + 1, w.heap.size, rfl, Blk.drew ?_, BlkL.of_made (Blk.drew ?_), BlkL.of_made (Blk.drew ?_), ?_, ?_, ?_, ?_, ?_, ?_, ((((Below.refl _ _).alloc (Nat.le_refl _) _).alloc ?_ _).alloc ?_ _).drew⟩ <;> first | omega | (simp; done) | (simp; omega) | ((repeat (first | (refine Blk.new' _ _ _ ?_; (simp; done)) | refine Blk.alloc ?_ _)); done))
          | (refine ⟨w.heap.size + 1, w.heap.size, w.heap.size + 1 + 1, rfl, Blk.drew ?_, BlkL.of_made (Blk.drew ?_), BlkL.of_made (Blk.drew ?_), ?_, ?_, ?_, ?_, ?_, ?_, ((((Below.refl _ _).alloc (Nat.le_refl _) _).alloc ?_ _).alloc ?_ _).drew⟩ <;> first | omega | (simp; done) | (simp; omega) | ((repeat (first | (refine Blk.new' _ _ _ ?_; (simp; done)) | refine Blk.alloc ?_ _)); done))
          | (refine ⟨w.heap.size + 1, w.heap.size + 1 + 1, w.heap.size, rfl, Blk.drew ?_, BlkL.of_made (Blk.drew ?_), BlkL.of_made (Blk.drew ?_), ?_, ?_, ?_, ?_, ?_, ?_, ((((Below.refl _ _).alloc (Nat.le_refl _) _).alloc ?_ _).alloc ?_ _).drew⟩ <;> first | omega | (simp; done) | (simp; omega) | ((repeat (first | (refine Blk.new' _ _ _ ?_; (simp; done)) | refine Blk.alloc ?_ _)); done))
          | (refine ⟨w.heap.size, w.heap.size + 1, w.heap.size + 1 + 1, rfl, Blk.drew ?_, BlkL.of_made (Blk.drew ?_), BlkL.of_made (Blk.drew ?_), ?_, ?_, ?_, ?_, ?_, ?_, ((((Below.refl _ _).alloc (Nat.le_refl _) _).alloc ?_ _).alloc ?_ _).drew⟩ <;> first | omega | (simp; done) | (simp; omega) | ((repeat (first | (refine Blk.new' _ _ _ ?_; (simp; done)) | refine Blk.alloc ?_ _)); done))
          | (refine ⟨w.heap.size, w.heap.size + 1 + 1, w.heap.size + 1, rfl, Blk.drew ?_, BlkL.of_made (Blk.drew ?_), BlkL.of_made (Blk.drew ?_), ?_, ?_, ?_, ?_, ?_, ?_, ((((Below.refl _ _).alloc (Nat.le_refl _) _).alloc ?_ _).alloc ?_ _).drew⟩ <;> first | omega | (simp; done) | (simp; omega) | ((repeat (first | (refine Blk.new' _ _ _ ?_; (simp; done)) | refine Blk.alloc ?_ _)); done))
    case rest =>
      clear hmk1 hmk2
      obtain ⟨g, g1, g2, rfl, hg, hg1, hg2, n1, n2, n3, l0, l1, l2, hb⟩ := hcut
      generalize bits BinOp.and IntKind.i64 colour 254 = q at *
      have d0 : _ = some _ := hg.cell 0
      have d1 := hg.cell 1
      simp only [List.getElem?_toArray, List.getElem?_cons_zero, List.getElem?_cons_succ] at d0 d1
      go_wp2
      clear d0 d1
      go_loopw [31] (fun i wr => ∃ k : Nat, k ≤ xs.length ∧ i = .int .i64 k ∧ PicAt w (.pointer (some ⟨g, 0, none⟩)) g g1 g2 xs.length (fill xs.length k (1 + q) 0) (fill xs.length k front false) wr) (fun i _ => xs.length - (intOf i).toNat)
      case atStart => exact ⟨0, by omega, rfl, rfl, hg, by rw [fill_zero]; exact hg1, by rw [fill_zero]; exact hg2, n1, n2, n3, l0, l1, l2, hb⟩
      case round =>
        obtain ⟨k, hk, rfl, -, hg, hg1, hg2, -, -, -, -, -, -, hb⟩ := hrel
        have d0 : wr.cell? ⟨g, 0, none⟩ = some (.slice (some ⟨g1, 0, none⟩) xs.length xs.length) := hg.cell 0
        have d1 : wr.cell? ⟨g, 1, none⟩ = some (.slice (some ⟨g2, 0, none⟩) xs.length xs.length) := hg.cell 1
        by_cases hlt : k < xs.length
        · have e1 := hg1.cell (0 : Int) (i := k) (by rw [fill_length]; exact hlt)
          have e2 := hg2.cell false (i := k) (by rw [fill_length]; exact hlt)
          have r1 := Blk.free hg1 k
          have r2 := Blk.free hg2 k
          have i1 : (k : Int) < (xs.length : Int) := by omega
          have n1' := Ne.symm n1; have n2' := Ne.symm n2; have n3' := Ne.symm n3
          go_wp2_with fail
          go_region_held3 (fun w' => w'.cell? ⟨g, 0, none⟩ = some (.slice (some ⟨g1, 0, none⟩) xs.length xs.length) ∧ w'.cell? ⟨g, 1, none⟩ = some (.slice (some ⟨g2, 0, none⟩) xs.length xs.length)) (go_keep) (fail)
          clear d0 d1 e1 e2 r1 r2
          go_wp2
          go_roundw
          case rel =>
            refine ⟨k + 1, by omega, by go_num, rfl, Blk.drew ((hg.other _ n2).other _ n3), ?_, ?_, n1, n2, n3, l0, l1, l2, ((hb.setCell l1 _).setCell l2 _).drew⟩
            · rw [← fill_set]; exact Blk.drew (Blk.other (hg1.set (1 + q)) _ n1)
            · rw [← fill_set]; exact Blk.drew (BlkL.set (Blk.other hg2 _ n1') front)
          case measure => simp [intOf]; omega
        · obtain rfl : k = xs.length := by omega
          rw [fill_all] at hg1 hg2
          have Sb := S.below hb
          have S1 : SlAt (Value.int .i64) 0 wr (some ⟨g1, 0, none⟩) (List.replicate xs.length (1 + q)) := SlAt.of_blkL hg1
          have S2 : SlAt Value.bool false wr (some ⟨g2, 0, none⟩) (List.replicate xs.length front) := SlAt.of_blkL hg2
          have k1 : (List.replicate xs.length (1 + q)).length = xs.length := by simp
          have k2 : (List.replicate xs.length front).length = xs.length := by simp
          clear hg1 hg2
          go_wp2_with fail
          have C1 := line_Mix a (some ⟨g1, 0, none⟩) (some ⟨g2, 0, none⟩) c xs.length xs.length xs (List.replicate xs.length (1 + q)) (List.replicate xs.length front) wr (by omega) (by rw [k1]; unfold maxLen; omega) (by rw [k2]; unfold maxLen; omega) Sb S1 S2
          rw [k1, k2] at C1
          refine C1.mono ?_; clear C1; rintro e w1 ⟨v1, rfl, ho1, hb1⟩
          obtain ⟨s1, p1, rfl, -, -, hs1⟩ := ho1.sl (d := 0)
          clear ho1 d0 d1 hg k1 k2
          go_wp2_with fail
          refine (line_Mix a none none c 0 0 xs [] [] w1 (by omega) (by simp) (by simp) (Sb.below hb1) SlAt.nil SlAt.nil).mono ?_; rintro e w2 ⟨v2, rfl, ho2, hb2⟩
          obtain ⟨s2, p2, rfl, -, -, hs2⟩ := ho2.sl (d := 0)
          clear ho2
          have m1 : (((mixL xs (List.replicate xs.length (1 + q)) (List.replicate xs.length front) xs.length).length : Int) != (xs.length : Int)) = false := by rw [mixL_length]; simp
          have m2 : (((mixL xs [] [] xs.length).length : Int) != (xs.length : Int)) = false := by rw [mixL_length]; simp
          have hbb : Below w.heap.size w w2 := by
            have z0 := hb.size; have z1 := hb1.size
            exact (hb.trans (hb1.mono (by omega))).trans (hb2.mono (by omega))
          have T0 := (Sb.below hb1).below hb2
          have T1 := hs1.below hb2
          clear hb hb1 hb2 Sb S1 S2 hs1
          have hgen1 : (mixL xs (List.replicate xs.length (1 + q)) (List.replicate xs.length front) xs.length).length = xs.length := mixL_length ..
          have hgen2 : (mixL xs [] [] xs.length).length = xs.length := mixL_length ..
          have hat1 : ∀ i, i < xs.length → nth 0 (mixL xs (List.replicate xs.length (1 + q)) (List.replicate xs.length front) xs.length) i = (if front = true ∨ nth 0 xs i = 0 then 256 + (1 + q) else nth 0 xs i) := by
            intro i hi
            rw [nth_lt (by rw [mixL_length]; exact hi)]
            simp only [mixL, List.getElem_map, List.getElem_range, mixAt]
            have a1 : nth 0 (List.replicate xs.length (1 + q)) i = 1 + q := by rw [nth_lt (by simpa using hi)]; simp
            have a2 : nth false (List.replicate xs.length front) i = front := by rw [nth_lt (by simpa using hi)]; simp
            rw [a1, a2, w64_in (by omega)]
            simp only [List.length_replicate, Nat.min_self]
            by_cases hc : front = true ∨ nth 0 xs i = 0
            · rw [if_pos ⟨hi, by omega, hc⟩, if_pos hc]
            · rw [if_neg (fun h => hc h.2.2), if_neg hc]
          have hat2 : ∀ i, i < xs.length → nth 0 (mixL xs [] [] xs.length) i = nth 0 xs i := by
            intro i hi
            rw [nth_lt (by rw [mixL_length]; exact hi)]
            simp [mixL, mixAt]
          generalize mixL xs (List.replicate xs.length (1 + q)) (List.replicate xs.length front) xs.length = L1 at *
          generalize mixL xs [] [] xs.length = L2 at *
          have HG1 := Lib.hid hgen1; have HG2 := Lib.hid hgen2; have HA1 := Lib.hid hat1; have HA2 := Lib.hid hat2
          clear hgen1 hgen2 hat1 hat2
          go_wp2_with fail
          clear m1 m2
          go_loopw [11] (fun i wr => ∃ k : Nat, k ≤ xs.length ∧ i = .int .i64 k ∧ ∃ nq, wr = w2.drewN nq) (fun i _ => xs.length - (intOf i).toNat)
          case atStart => exact ⟨0, by omega, rfl, 0, rfl⟩
          case round =>
            obtain ⟨k, hk, rfl, nq, rfl⟩ := hrel
            by_cases hlt : k < xs.length
            · obtain ⟨ad, rfl, t0⟩ := T0.atN k hlt
              obtain ⟨ad1, rfl, t1⟩ := T1.atN k (by rw [HG1.out]; exact hlt)
              obtain ⟨ad2, rfl, t2⟩ := hs2.atN k (by rw [HG2.out]; exact hlt)
              rw [HA1.out k hlt] at t1
              rw [HA2.out k hlt] at t2
              have i0 : (k : Int) < (xs.length : Int) := by omega
              have i1 : (k : Int) < (L1.length : Int) := by rw [HG1.out]; omega
              have i2 : (k : Int) < (L2.length : Int) := by rw [HG2.out]; omega
              cases front
              · by_cases hz : nth 0 xs k = 0
                · rw [if_pos (.inr hz)] at t1
                  have hz' : (nth 0 xs k == 0) = true := by simp [hz]
                  have hz2 : (nth 0 xs k != nth 0 xs k) = false := by simp
                  clear hz
                  go_wp2_with fail
                  go_quiet (fail)
                  go_wp2
                  go_roundw
                  case rel => exact ⟨k + 1, by omega, by go_num, _, by first | rfl | rw [World.drewN_drewN]⟩
                  case measure => simp [intOf]; omega
                · rw [if_neg (by simp [hz])] at t1
                  have hz' : (nth 0 xs k == 0) = false := by simpa using hz
                  have hz2 : (nth 0 xs k != nth 0 xs k) = false := by simp
                  clear hz
                  go_wp2_with fail
                  go_quiet (fail)
                  go_wp2
                  go_roundw
                  case rel => exact ⟨k + 1, by omega, by go_num, _, by first | rfl | rw [World.drewN_drewN]⟩
                  case measure => simp [intOf]; omega
              · rw [if_pos (.inl rfl)] at t1
                have hz2 : (nth 0 xs k != nth 0 xs k) = false := by simp
                go_wp2_with fail
                go_quiet (fail)
                go_wp2
                go_roundw
                case rel => exact ⟨k + 1, by omega, by go_num, _, by first | rfl | rw [World.drewN_drewN]⟩
                case measure => simp [intOf]; omega
            · go_wp2_with fail
              refine (line_Mix _ none none _ 0 0 [0] [] [] _ (by decide) (by simp) (by simp) (SlAt.of_blkL (t := 3) (Blk.new' _ _ _ (by simp))) SlAt.nil SlAt.nil).mono ?_; rintro e w3 ⟨v3, rfl, ho3, hb3⟩
              obtain ⟨s3, p3, rfl, -, -, hs3⟩ := ho3.sl (d := 0)
              have em : (((mixL [0] [] [] (List.length [(0 : Int)])).length : Int) == 1) = true := by decide
              go_wp2
              go_ret
              have z := hbb.size
              simp only [World.size_alloc] at hb3
              exact ⟨rfl, ((below_drewN hbb _).alloc (by simpa using z) _).trans (hb3.mono (by simp; omega))⟩

end Go.Proofs.Ytbjjjgmcdabkhaa
