/- What fits into the longest run is given, what does not is not: the law PoolFits. No condition. -/
import Derived.Test.YtlhgdcimchmldaaMd
set_option linter.unusedVariables false
set_option linter.unusedSimpArgs false
namespace Go.Proofs.Ytlhgdcimchmldaa.LawFits
open Go.RowKit
open Pl Rn Ov Lf Wl Ct Nn Pw Md
theorem cn_le (fs : List Int) : ∀ d, cn fs d ≤ d
  | 0 => Nat.le_refl _
  | d + 1 => by
    have := cn_le fs d
    simp only [cn]
    split <;> omega
theorem sumR_small (fs : List Int) (h : fs.length ≤ 4096) : sumR (runsFrom fs 0) ≤ 4096 := by
  rw [sum_cn]
  have := cn_le fs (fs.length - 0)
  omega
set_option maxRecDepth 100000 in
set_option maxHeartbeats 8000000 in
theorem law (W : World) (n : Nat) (hn : n ≤ 255) (A : Option Addr) (len cap : Nat) (L : Nat → List Int) (R : Ag.Rows W A len [.i64, .i64] L) (m : Int) (hm : m ≤ 9223372036854775807) :
    Calls Try.prog 3 #[.int .u8 n, .slice A len cap, .int .i64 m] W fun e W' => e = .returned (.bool true) ∧ Below W.heap.size W W' := by
  have MD := Lib.hid (made_it W n hn A len cap L R)
  have AW := Lib.hid awake_it
  clear R
  go_enter Try.func3, Try.ntmps3
  go_wp2_with fail
  refine MD.out.mono ?_
  rintro e w1 ⟨g, a, b, rfl, ⟨fs, ms, P, WF, hl⟩, own, b1⟩
  have P1 := Lib.hid P
  have B1 := Lib.hid b1
  have HW := Lib.hid WF
  have OW := Lib.hid own
  have lm := P.len
  clear P b1 WF own MD
  go_wp2_with fail
  refine (AW.out _).mono ?_
  rintro e w2 ⟨rfl, b2⟩
  have P2 := Lib.hid (P1.out.keepB b2)
  have B2 := Lib.hid (Kit.stepB B1.out b2)
  have LO := Lib.hid (longest_it w2 g a b fs ms HW.out P2.out)
  clear b2 P1 B1 AW
  go_wp2_with fail
  refine LO.out.mono ?_
  rintro e w3 ⟨rfl, b3⟩
  have P3 := Lib.hid (P2.out.keepB b3)
  have B3 := Lib.hid (Kit.stepB B2.out b3)
  have LE := Lib.hid (left_it w3 g a b fs ms HW.out P3.out)
  clear b3 P2 B2 LO
  go_wp2_with fail
  refine LE.out.mono ?_
  rintro e w4 ⟨rfl, b4⟩
  have P4 := Lib.hid (P3.out.keepB b4)
  have B4 := Lib.hid (Kit.stepB B3.out b4)
  clear b4 P3 B3 LE
  have MG := Lib.hid (fun r h => max_ge (fs := fs) r h)
  have ML := Lib.hid (fun N h1 h => max_lt (fs := fs) N h1 h)
  by_cases h1 : m < 1
  · have d1 : decide (m < 1) = true := decide_eq_true h1
    have AS := Lib.hid (alloc_small w4 g m h1)
    go_wp2_with fail
    refine AS.out.mono ?_
    rintro e w5 ⟨rfl, b5⟩
    have LE := Lib.hid (left_it w5 g a b fs ms HW.out (P4.out.keepB b5))
    have B5 := Lib.hid (Kit.stepB B4.out b5)
    clear b5 AS
    generalize sumR (runsFrom fs 0) = s at *
    generalize maxR (runsFrom fs 0) = x at *
    go_wp2_with fail
    refine LE.out.mono ?_
    rintro e w6 ⟨rfl, b6⟩
    go_wp2_with fail
    go_ret
    exact ⟨rfl, Kit.stepB B5.out b6⟩
  · obtain ⟨N, rfl⟩ : ∃ N : Nat, m = N := ⟨m.toNat, by omega⟩
    have d1 : decide ((N : Int) < 1) = false := decide_eq_false h1
    have AL := Lib.hid (Al.alloc_all w4 g a b fs ms N HW.out P4.out (by omega) (by omega))
    go_wp2_with fail
    refine AL.out.mono ?_
    rintro e w5 (⟨rfl, hlt, b5⟩ | ⟨ini, p, k, post, hr, _, hk, rfl, P5, m5⟩)
    · have d2 : decide (maxR (runsFrom fs 0) < N) = true := decide_eq_true (ML.out N (by omega) (fun r h => by have := hlt r h; omega))
      have LE := Lib.hid (left_it w5 g a b fs ms HW.out (P4.out.keepB b5))
      have B5 := Lib.hid (Kit.stepB B4.out b5)
      clear b5 hlt AL MG ML
      generalize sumR (runsFrom fs 0) = s at *
      generalize maxR (runsFrom fs 0) = x at *
      go_wp2_with fail
      refine LE.out.mono ?_
      rintro e w6 ⟨rfl, b6⟩
      go_wp2_with fail
      go_ret
      exact ⟨rfl, Kit.stepB B5.out b6⟩
    · have d2 : decide (maxR (runsFrom fs 0) < N) = false := decide_eq_false (by
        have := MG.out (p, k) (by rw [hr]; simp)
        simp at this
        omega)
      obtain ⟨WF5, hp, hneg⟩ := wf_alloc_run HW.out lm hr (by omega) (by omega : N ≤ k)
      have hsum := sum_alloc p N hp hneg
      have HB := Lib.hid (fill_back HW.out p N hp hneg)
      have L5 := fill_length fs p N p hp
      have G5 := Lib.hid (fill_get fs p N p hp)
      have S5 := Lib.hid (fun j v => set_get ms p j v (by omega))
      have B5 := Lib.hid (Kit.step B4.out m5 (by have := OW.out; simp; omega))
      have HP5 := Lib.hid P5
      have HW5 := Lib.hid WF5
      clear P5 WF5 m5 AL MG ML hr hk hneg
      have Z := Lib.hid (And.intro OW.out.1 OW.out.2)
      generalize hs : sumR (runsFrom fs 0) = s at *
      generalize hx : maxR (runsFrom fs 0) = x at *
      have HSX := Lib.hid (And.intro hs hx)
      clear hs hx
      have hsm := HP5.out.small
      have HSUM := Lib.hid hsum
      clear hsum
      go_wp2_with fail
      go_loopg [13] N (fun q c wr => ∃ j : Nat, (j ≤ N ∧ q = N - j) ∧ c = .int .i64 ((p + j : Nat) : Int) ∧ Hid (Pool wr g a b (fill fs p N p) (ms.set p (N : Int)) ∧ Below W.heap.size W wr))
      case atStart => exact ⟨0, by omega, by simp, HP5.out, B5.out⟩
      case round =>
        obtain ⟨j, ⟨hj, rfl⟩, rfl, H⟩ := hrel
        have s1 : IntKind.i64.wrap ((p : Int) + N) = (p : Int) + N := IntWalk.i64_in _ (by omega)
        have s2 : IntKind.i64.wrap (((p + j : Nat) : Int) + 1) = ((p + j : Nat) : Int) + 1 := IntWalk.i64_in _ (by omega)
        by_cases hlt : j < N
        · have d3 : decide (((p + j : Nat) : Int) < (p : Int) + N) = true := decide_eq_true (by omega)
          have GI := Lib.hid (group_it H.out.1 (p + j) p N (by rw [L5]; omega) (by rw [G5.out, if_pos (by omega)]) (by rw [S5.out, if_pos rfl]) (by rw [L5]; omega))
          have BW := Lib.hid H.out
          clear H
          go_wp2_with fail
          refine GI.out.mono ?_
          rintro e w6 ⟨rfl, q, rfl⟩
          have BW2 := Lib.hid (And.intro (BW.out.1.heap (w' := wr.drewN q) rfl) (Kit.drawB BW.out.2 q))
          clear BW GI
          go_wp2_with fail
          go_roundg (N - (j + 1))
          case measure => omega
          case rel => exact ⟨j + 1, ⟨by omega, rfl⟩, by simp; omega, BW2⟩
        · obtain rfl : N = j := by omega
          have d3 : decide (((p + N : Nat) : Int) < (p : Int) + N) = false := decide_eq_false (by omega)
          have LE := Lib.hid (left_it wr g a b _ _ HW5.out H.out.1)
          have hsum := HSUM.out
          have s3 : IntKind.i64.wrap ((s : Int) - N) = ((sumR (runsFrom (fill fs p N p) 0) : Nat) : Int) := by
            rw [IntWalk.i64_in _ (by have := sumR_small (fill fs p N p) (by rw [L5]; omega); omega)]; omega
          clear hsum HSUM
          generalize sumR (runsFrom (fill fs p N p) 0) = s' at *
          have BW := Lib.hid H.out
          clear H
          go_wp2_with fail
          refine LE.out.mono ?_
          rintro e w6 ⟨rfl, b6⟩
          have FI := Lib.hid (free_it (BW.out.1.keepB b6) p N (by rw [G5.out, if_pos (by omega)]) (by rw [S5.out, if_pos rfl]) (by rw [L5]; omega) (by omega))
          have B6 := Lib.hid (Kit.stepB BW.out.2 b6)
          have HL5 := Lib.hid L5
          have HLM := Lib.hid lm
          have HPN := Lib.hid hp
          have h1' : 1 ≤ N := by omega
          clear LE b6 BW s1 s2 d3 hl lm hsm L5 hp d1 h1 d2 hj hlt
          go_wp2_with fail
          refine FI.out.mono ?_
          rintro e w7 ⟨rfl, P7, m7⟩
          rw [HB.out] at P7
          have WF7 := wf_free HW5.out (by rw [List.length_set, HL5.out]; exact HLM.out) p N (by rw [G5.out, if_pos (by omega)]) (by rw [S5.out, if_pos rfl]) (by omega) (by rw [HL5.out]; exact HPN.out) (fun j h1 h2 => by rw [G5.out, if_pos ⟨h1, h2⟩])
          rw [HB.out] at WF7
          have LO := Lib.hid (longest_it w7 g a b fs _ WF7 P7)
          rw [HSX.out.2] at LO
          have B7 := Lib.hid (Kit.step B6.out m7 (by have := OW.out; simp; omega))
          have P7' := Lib.hid P7
          have WF7' := Lib.hid WF7
          clear FI P7 WF7 m7 B6
          go_wp2_with fail
          refine LO.out.mono ?_
          rintro e w8 ⟨rfl, b8⟩
          have LE := Lib.hid (left_it w8 g a b fs _ WF7'.out (P7'.out.keepB b8))
          rw [HSX.out.1] at LE
          have B8 := Lib.hid (Kit.stepB B7.out b8)
          clear LO b8 B7 P7' WF7'
          go_wp2_with fail
          refine LE.out.mono ?_
          rintro e w9 ⟨rfl, b9⟩
          go_wp2_with fail
          go_ret
          exact ⟨rfl, Kit.stepB B8.out b9⟩
end Go.Proofs.Ytlhgdcimchmldaa.LawFits
