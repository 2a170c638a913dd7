/- The law ReportSums, walked. -/
import Derived.Test.YtbjjjgmcdabkhaaRepC
import Derived.Test.YtbjjjgmcdabkhaaPureStateSums
namespace Go.Proofs.Ytbjjjgmcdabkhaa
open Go Go.RowKit Go.Proofs.Ytbjjjgmcdabkhaa.PStateSums Go.Proofs.YtbjjjgmcdabkhaaW.PrintWords Go.Proofs.YtbjjjgmcdabkhaaW.PrintLast Go.Proofs.YtbjjjgmcdabkhaaW.PrintMore
set_option linter.unusedSimpArgs false
set_option linter.unusedVariables false

theorem C_of_sl {w : World} {A : Option Addr} {xs : List Int} (h : SlAt (Value.int .u8) 0 w A xs) (hm : xs.length ≤ 9223372036854775807) : Kd.C (Kd.int .u8) w A xs.length xs := by
  refine ⟨rfl, hm, fun h0 => ?_⟩
  obtain ⟨ad, e, _⟩ := h 0 h0
  refine ⟨ad, e, fun j p hp => ⟨[.int .u8 p], rfl, rfl, fun i u hu => ?_⟩⟩
  have hj : j < xs.length := (List.getElem?_eq_some_iff.1 hp).1
  obtain ⟨ad', e', hc⟩ := h j hj
  obtain rfl : ad = ad' := by rw [e] at e'; exact Option.some.inj e'
  rcases i with _ | i
  · have hp' : nth 0 xs j = p := by rw [nth_lt hj]; rw [List.getElem?_eq_getElem hj] at hp; exact Option.some.inj hp
    simp at hu
    show w.cell? (ad.add (j * 1 + 0)) = some u
    rw [Nat.mul_one, Nat.add_zero, hc, ← hu, hp']
  · simp at hu

/-- The two sums of bytes are one number. -/
theorem sums_agree (l : List Int) (hb : ∀ x ∈ l, (Lit.int .u8 x).wf = true) (hn : l.length ≤ 100000000) : ∃ r,
    (∀ (g : Option Addr) (cp : Nat) (wx : World), l.length ≤ cp → SlAt (Value.int .u8) 0 wx g l → Calls Try.prog 11 #[.slice g l.length cp] wx fun e w' => e = .returned (.int .i64 r) ∧ ∃ n, w' = wx.drewN n) ∧
    (∀ (g : Option Addr) (cp : Nat) (wx : World), l.length ≤ cp → SlAt (Value.int .u8) 0 wx g l → Calls Try.prog 12 #[.slice g l.length cp] wx fun e w' => e = .returned (.int .i64 r) ∧ ∃ n, w' = wx.drewN n) := by
  obtain ⟨r, h1, h2⟩ := Pure.two_sums l hb (by omega) l.length (l.length + 1) 1 0 0 (by omega) (by omega) (by omega) (by omega) (by omega) (by omega) (by omega) (by omega)
  refine ⟨r, fun g cp wx hc S => ?_, fun g cp wx hc S => ?_⟩
  · exact (state_Sum.calls _ g cp l r wx (C_of_sl S (by omega)) hc h1).mono fun e w' ⟨he, hd⟩ => ⟨he, hd.out⟩
  · exact (phosphorref27_Sum.calls _ g cp l r wx (C_of_sl S (by omega)) hc h2).mono fun e w' ⟨he, hd⟩ => ⟨he, hd.out⟩
theorem sum_none (g : Option Addr) (cp : Nat) (wx : World) (hc : ([] : List Int).length ≤ cp) (S : SlAt (Value.int .u8) 0 wx g []) : Calls Try.prog 11 #[.slice g ([] : List Int).length cp] wx fun e w' => e = .returned (.int .i64 1) ∧ ∃ n, w' = wx.drewN n := by
  have he : state_Sum.f 1 [] = some 1 := by
    unfold state_Sum.f; simp only [state_Sum.l0]; rw [if_neg (by simp), w64_in (by omega), or_comm64, Int.zero_mul, or_zero64 _ (by omega)]
  exact (state_Sum.calls 1 g cp [] 1 wx (C_of_sl S (by simp)) hc he).mono fun e w' ⟨he, hd⟩ => ⟨he, hd.out⟩

theorem bytesN_wf (n : Int) (k : Nat) : ∀ x ∈ bytesN n k, (Lit.int .u8 x).wf = true := by
  intro x hx
  simp only [bytesN, List.mem_map] at hx
  obtain ⟨i, _, rfl⟩ := hx
  generalize n / 2 ^ (8 * i) = y
  show (decide (IntKind.u8.min ≤ y % 256) && decide (y % 256 ≤ IntKind.u8.max)) = true
  have e1 : IntKind.u8.min = 0 := by decide
  have e2 : IntKind.u8.max = 255 := by decide
  rw [e1, e2, Bool.and_eq_true, decide_eq_true_eq, decide_eq_true_eq]
  omega
theorem frameBytes_wf (ls : List LineV) (ss : List (Int × Int)) : ∀ x ∈ frameBytes ls ss, (Lit.int .u8 x).wf = true := by
  intro x hx
  simp only [frameBytes, linesBytes, lineBytes, sampBytes, List.mem_append, List.mem_flatMap] at hx
  rcases hx with ⟨l, _, c, _, h⟩ | ⟨s, _, h | h⟩
  · exact bytesN_wf _ _ _ h
  · exact bytesN_wf _ _ _ h
  · exact bytesN_wf _ _ _ h

def count (ls : List LineV) : Nat := (ls.map (·.2.2.length)).sum
theorem count_succ (d : LineV) (ls : List LineV) (k : Nat) (h : k < ls.length) : count (ls.take (k + 1)) = count (ls.take k) + (nth d ls k).2.2.length := by
  rw [take_succ_nth (d := d) h]; simp [count]
theorem linesBytes_length (ls : List LineV) : (linesBytes ls).length = 2 * count ls := by
  induction ls with
  | nil => rfl
  | cons x xs ih =>
    have : linesBytes (x :: xs) = lineBytes x.2.2 ++ linesBytes xs := by simp [linesBytes]
    rw [this, List.length_append, lineBytes_length, ih]; simp [count]; omega

set_option maxRecDepth 100000 in
set_option maxHeartbeats 4000000 in
theorem reportSums_walk (a a2 : Option Addr) (c c2 : Nat) (ls : List LineV) (ss : List (Int × Int)) (w : World) (F : FrameAt w a ls a2 ss) (hl1 : ls.length ≤ 140737488355328) (hl2 : ss.length ≤ 140737488355328) :
    Calls Try.prog 9 #[.slice a ls.length c, .slice a2 ss.length c2] w fun e w' => e = .returned (.bool true) ∧ Below w.heap.size w w' := by
  have e1 : IntKind.i64.wrap ((ls.length : Int) + (ss.length : Int)) = (ls.length : Int) + (ss.length : Int) := IntWalk.i64_in _ (by omega)
  go_enter Try.func9, Try.ntmps9
  go_wp2
  go_loopw [5, 6] (fun v i wr => ∃ k : Nat, k ≤ ls.length ∧ i = .int .i64 k ∧ ∃ n : Nat, v = .int .i64 n ∧ n = ls.length + ss.length + count (ls.take k) ∧ n ≤ 562949953421312 ∧ wr = w) (fun _ i _ => ls.length - (intOf i).toNat)
  case atStart => exact ⟨0, by omega, rfl, ls.length + ss.length, by go_num, by simp [count], by omega, rfl⟩
  case round =>
    obtain ⟨k, hk, rfl, n, rfl, hn, hn2, rfl⟩ := hrel
    have HN := Lib.hid hn; clear hn
    by_cases hlt : k < ls.length
    · have d1 : decide (k < ls.length) = true := by simpa using hlt
      by_cases h9 : n < 9000
      · have d2 : decide (n < 9000) = true := by simpa using h9
        obtain ⟨ad, rfl, g0⟩ := F.lines.atN k hlt
        unfold encL at g0
        have hlen := F.long _ (nth_mem hlt (d := (none, 0, [])))
        have hc := count_succ (none, 0, []) ls k hlt
        have i1 : (k : Int) < (ls.length : Int) := by omega
        generalize nth ((none, 0, []) : LineV) ls k = L at *
        obtain ⟨al, cl, xs⟩ := L
        simp only at g0 hlen hc
        have e2 : IntKind.i64.wrap ((n : Int) + (xs.length : Int)) = (n : Int) + (xs.length : Int) := IntWalk.i64_in _ (by omega)
        have HC := Lib.hid hc; clear hc
        go_wp2
        go_roundw
        case rel => exact ⟨k + 1, by omega, by go_num, n + xs.length, by go_num, by have := HN.out; rw [HC.out]; omega, by omega, trivial⟩
        case measure => simp [intOf]; omega
      · have d2 : decide (n < 9000) = false := by simpa using h9
        have d3 : decide (9000 ≤ n) = true := by simp; omega
        go_wp2
        exact ⟨rfl, .bool true, by first | exact rfl | kernel_rfl, rfl, Below.refl _ _⟩
    · obtain rfl : k = ls.length := by omega
      have d1 : decide (ls.length < ls.length) = false := by simp
      by_cases h9 : n < 9000
      · have d2 : decide (n < 9000) = true := by simpa using h9
        have d3 : decide (9000 ≤ n) = false := by simp; omega
        have hT : (frameBytes ls ss).length ≤ 90000 := by have hn := HN.out; rw [List.take_length] at hn; unfold frameBytes; rw [List.length_append, sampBytes_length, linesBytes_length]; omega
        obtain ⟨r, s1, s2⟩ := sums_agree (frameBytes ls ss) (frameBytes_wf _ _) (by omega)
        have hls : ls.length ≤ 90000 := by have hn := HN.out; omega
        have F0 : FrameAt wr none [] none [] := ⟨fun i hi => by simp at hi, fun l hl => by simp at hl, fun l hl => by simp at hl, fun i hi => by simp at hi⟩
        go_wp2_with fail
        refine (report_Picture_bytes a a2 c c2 ls ss _ F hT hls r s1).mono ?_
        rintro e w1 ⟨rfl, hb1⟩
        go_wp2_with fail
        refine (ref28_Picture_bytes a a2 c c2 ls ss _ (F.below hb1) hT hls r s2).mono ?_
        rintro e w2 ⟨rfl, hb2⟩
        replace hb2 := hb1.trans (hb2.mono hb1.size)
        go_wp2_with fail
        refine (report_Picture_bytes none none 0 0 [] [] _ (F0.below hb2) (by decide) (by decide) 1 (fun g cp wx hc S => sum_none g cp wx hc S)).mono ?_
        rintro e w3 ⟨rfl, hb3⟩
        replace hb3 := hb2.trans (hb3.mono hb2.size)
        go_wp2
        exact ⟨rfl, .bool true, by first | exact rfl | kernel_rfl, rfl, hb3⟩
      · have d2 : decide (n < 9000) = false := by simpa using h9
        have d3 : decide (9000 ≤ n) = true := by simp; omega
        go_wp2
        exact ⟨rfl, .bool true, by first | exact rfl | kernel_rfl, rfl, Below.refl _ _⟩

end Go.Proofs.Ytbjjjgmcdabkhaa
