/- Every call of a pool is answered as the document says: the law PoolDoes. No condition. -/
import Derived.Test.YtlhgdcimchmldaaDo
set_option linter.unusedVariables false
set_option linter.unusedSimpArgs false
namespace Go.Proofs.Ytlhgdcimchmldaa.LawDoes
open Go.RowKit
open Pl Rn Ov Lf Wl Ct Nn Pw Md Gp Gs Sn Gq Pq Rp Rq Rr Dq Do
theorem maxR_step (L : List (Nat × Nat)) (j : Nat) (r : Nat × Nat) (h : L[j]? = some r) : maxR (L.take (j + 1)) = max (maxR (L.take j)) r.2 := by
  rw [List.take_add_one, h]
  simp [maxR]
set_option maxRecDepth 100000 in
set_option maxHeartbeats 2000000 in
theorem rlongest_it (w : World) (x r cap : Nat) (fs : List Int) (P : RP w x r cap fs) : Calls Try.prog 34 #[.pointer (some ⟨x, 0, none⟩)] w fun e w' => e = .returned (.int .i64 (maxR (runsFrom fs 0) : Nat)) ∧ Below w.heap.size w w' := by
  have RI := Lib.hid (rows_true w x r cap fs P)
  rw [rows_runs] at RI
  have rlen := runs_length (fs := fs) 0
  have hs := P.small
  have ru := Lib.hid (runs_ru (fs := fs) 0)
  generalize runsFrom fs 0 = L at *
  clear P
  go_enter Try.func34, Try.ntmps34
  go_wp2_with fail
  refine RI.out.mono ?_
  rintro e w1 ⟨va, vb, rfl, G⟩
  obtain ⟨p, c, rfl, S, _⟩ := Sl.of G.snd (by simp [sI])
  have hl : (sI L).length = L.length := by simp [sI]
  have HS := Lib.hid S
  have HL := Lib.hid hl
  have HB := Lib.hid G.bel
  rw [hl]
  clear S G hl RI
  go_wp2_with fail
  go_loop [5, 6] (fun m i => ∃ j : Nat, j ≤ L.length ∧ i = .int .i64 j ∧ m = .int .i64 (maxR (L.take j) : Nat)) (fun _ i => L.length - (intOf i).toNat)
  case atStart => exact ⟨0, Nat.zero_le _, rfl, rfl⟩
  case round =>
    obtain ⟨j, hj, rfl, rfl⟩ := hrel
    by_cases hlt : j < L.length
    · obtain ⟨s, hs⟩ : ∃ s, L[j]? = some s := ⟨L[j], by simp [hlt]⟩
      obtain ⟨b1, o1, rfl, hb1, hc1⟩ := HS.out.cells (by rw [HL.out]; omega)
      have c1 := hc1 j (by rw [HL.out]; exact hlt)
      have eg : (sI L).getD j 0 = (s.2 : Int) := by simp [sI, List.getD_eq_getElem?_getD, hs]
      rw [eg] at c1
      have E := Lib.hid (maxR_step L j s hs)
      have lj : (j : Int) < L.length := by omega
      generalize maxR (L.take j) = M at *
      generalize s.2 = y at *
      clear hc1 eg hs
      by_cases hm : M < y
      · have ev := Lib.hid (show max M y = y by omega)
        go_wp2_with fail
        go_round
        case rel => exact ⟨j + 1, by omega, by simp, by rw [E.out, ev.out]⟩
        case measure => simp [intOf]; omega
      · have ev := Lib.hid (show max M y = M by omega)
        go_wp2_with fail
        go_round
        case rel => exact ⟨j + 1, by omega, by simp, by rw [E.out, ev.out]⟩
        case measure => simp [intOf]; omega
    · obtain rfl : j = L.length := by omega
      have e := Lib.hid (show L.take L.length = L from List.take_length)
      go_wp2_with fail
      go_ret
      exact ⟨Kit.ret_int (by first | rfl | rw [e.out]), HB.out⟩
set_option maxRecDepth 100000 in
set_option maxHeartbeats 4000000 in
theorem told_it {W w : World} {g a b x r cap N : Nat} (h : Both W w g a b x r cap N) : Calls Try.prog 22 #[.pointer (some ⟨g, 0, none⟩), .pointer (some ⟨x, 0, none⟩)] w fun e w' => e = .returned (.bool true) ∧ Below w.heap.size w w' := by
  obtain ⟨fs, ms, P, WF, R, hl⟩ := h.ex
  clear h
  have hs := P.small
  have rlen := runs_length (fs := fs) 0
  have glen := grp_length (fs := fs) (ms := ms) fs.length
  have RI := Lib.hid (runs_it w g a b fs ms WF P)
  have HW := Lib.hid WF
  have HP := Lib.hid P
  have HR := Lib.hid R
  clear P WF R hl
  go_enter Try.func22, Try.ntmps22
  go_wp2_with fail
  refine RI.out.mono ?_
  rintro e w1 ⟨p, q, va, vb, rfl, b1, T⟩
  have PI := Lib.hid (pairs_it w1 _ p q va vb _ (by omega) T)
  have B1 := Lib.hid b1
  clear T RI b1
  go_wp2_with fail
  refine PI.out.mono ?_
  rintro e w2 ⟨v1, u1, rfl, b2, o1, o2, _⟩
  have B2 := Lib.hid (Kit.stepB B1.out b2)
  rw [fst_ints] at o1
  rw [snd_ints] at o2
  obtain ⟨p1, c1, rfl, S1, _⟩ := Sl.of o1 (by simp [fI])
  obtain ⟨p2, c2, rfl, S2, _⟩ := Sl.of o2 (by simp [sI])
  have X1 := Lib.hid S1
  have X2 := Lib.hid S2
  have R1 := Lib.hid (rows_true w2 x r cap fs (HR.out.keepB B2.out))
  rw [rows_runs] at R1
  clear S1 S2 o1 o2 b2 PI B1
  go_wp2_with fail
  refine R1.out.mono ?_
  rintro e w3 ⟨v2, u2, rfl, G⟩
  have B3 := Lib.hid (Kit.stepB B2.out G.bel)
  obtain ⟨p3, c3, rfl, S3, _⟩ := Sl.of G.fst (by simp [fI])
  obtain ⟨p4, c4, rfl, S4, _⟩ := Sl.of G.snd (by simp [sI])
  have X1 := Lib.hid (X1.out.keepB G.bel)
  have X2 := Lib.hid (X2.out.keepB G.bel)
  have X3 := Lib.hid S3
  have X4 := Lib.hid S4
  have GI := Lib.hid (groups_it w3 g a b fs ms HW.out (HP.out.keepB B3.out))
  clear S3 S4 G R1 B2
  go_wp2_with fail
  refine GI.out.mono ?_
  rintro e w4 ⟨p', q', va', vb', rfl, b4, T⟩
  have PI := Lib.hid (pairs_it w4 _ p' q' va' vb' _ (by omega) T)
  have B4 := Lib.hid (Kit.stepB B3.out b4)
  have X1 := Lib.hid (X1.out.keepB b4)
  have X2 := Lib.hid (X2.out.keepB b4)
  have X3 := Lib.hid (X3.out.keepB b4)
  have X4 := Lib.hid (X4.out.keepB b4)
  clear T GI b4 B3
  go_wp2_with fail
  refine PI.out.mono ?_
  rintro e w5 ⟨v1, u1, rfl, b5, o1, o2, _⟩
  have B5 := Lib.hid (Kit.stepB B4.out b5)
  rw [fst_ints] at o1
  rw [snd_ints] at o2
  obtain ⟨p5, c5, rfl, S5, _⟩ := Sl.of o1 (by simp [fI])
  obtain ⟨p6, c6, rfl, S6, _⟩ := Sl.of o2 (by simp [sI])
  have X1 := Lib.hid (X1.out.keepB b5)
  have X2 := Lib.hid (X2.out.keepB b5)
  have X3 := Lib.hid (X3.out.keepB b5)
  have X4 := Lib.hid (X4.out.keepB b5)
  have X5 := Lib.hid S5
  have X6 := Lib.hid S6
  have R1 := Lib.hid (rows_false w5 x r cap fs (HR.out.keepB B5.out))
  rw [rows_grp HW.out] at R1
  clear S5 S6 o1 o2 b5 PI B4
  go_wp2_with fail
  refine R1.out.mono ?_
  rintro e w6 ⟨v2, u2, rfl, G⟩
  have B6 := Lib.hid (Kit.stepB B5.out G.bel)
  obtain ⟨p7, c7, rfl, S7, _⟩ := Sl.of G.fst (by simp [fI])
  obtain ⟨p8, c8, rfl, S8, _⟩ := Sl.of G.snd (by simp [sI])
  have X1 := Lib.hid (X1.out.keepB G.bel)
  have X2 := Lib.hid (X2.out.keepB G.bel)
  have X3 := Lib.hid (X3.out.keepB G.bel)
  have X4 := Lib.hid (X4.out.keepB G.bel)
  have X5 := Lib.hid (X5.out.keepB G.bel)
  have X6 := Lib.hid (X6.out.keepB G.bel)
  have X7 := Lib.hid S7
  have X8 := Lib.hid S8
  have P6 := Lib.hid (HP.out.keepB B6.out)
  have R6 := Lib.hid (HR.out.keepB B6.out)
  clear S7 S8 G R1 B5 HP HR
  have sum := Lib.hid (sum_cn (fs := fs) 0)
  rw [Nat.sub_zero] at sum
  have M1 := Lib.hid (same_it w6 p1 p3 c1 c3 _ X1.out X3.out (by simp [fI]; omega))
  go_wp2_with fail
  refine M1.out.mono ?_
  rintro e _ ⟨rfl, n1, rfl⟩
  have M2 := Lib.hid (same_it (w6.drewN n1) p2 p4 c2 c4 _ (X2.out.heap rfl) (X4.out.heap rfl) (by simp [sI]; omega))
  clear M1 X1 X3
  go_wp2_with fail
  refine M2.out.mono ?_
  rintro e _ ⟨rfl, n2, rfl⟩
  have M3 := Lib.hid (same_it (w6.drewN (n1 + n2)) p5 p7 c5 c7 _ (X5.out.heap rfl) (X7.out.heap rfl) (by simp [fI]; omega))
  clear M2 X2 X4
  go_wp2_with fail
  refine M3.out.mono ?_
  rintro e _ ⟨rfl, n3, rfl⟩
  have M4 := Lib.hid (same_it (w6.drewN (n1 + n2 + n3)) p6 p8 c6 c8 _ (X6.out.heap rfl) (X8.out.heap rfl) (by simp [sI]; omega))
  clear M3 X5 X7
  go_wp2_with fail
  refine M4.out.mono ?_
  rintro e _ ⟨rfl, n4, rfl⟩
  have B7 := Lib.hid (Kit.drawB B6.out (n1 + n2 + n3 + n4))
  have P7 := Lib.hid (P6.out.heap (w' := w6.drewN (n1 + n2 + n3 + n4)) rfl)
  have R7 := Lib.hid (R6.out.heap (w' := w6.drewN (n1 + n2 + n3 + n4)) rfl)
  clear M4 X6 X8 B6 P6 R6
  have LE := Lib.hid (left_it (w6.drewN (n1 + n2 + n3 + n4)) g a b fs ms HW.out P7.out)
  go_wp2_with fail
  refine LE.out.mono ?_
  rintro e w8 ⟨rfl, b8⟩
  have B8 := Lib.hid (Kit.stepB B7.out b8)
  have P8 := Lib.hid (P7.out.keepB b8)
  have R8 := Lib.hid (R7.out.keepB b8)
  have RL := Lib.hid (rleft_it R8.out)
  rw [← sum.out] at RL
  have LO := Lib.hid (longest_it w8 g a b fs ms HW.out P8.out)
  clear LE b8 P7 R7 B7 sum
  generalize sumR (runsFrom fs 0) = s at *
  go_wp2_with fail
  refine RL.out.mono ?_
  rintro e w9 ⟨rfl, rfl⟩
  go_wp2_with fail
  refine LO.out.mono ?_
  rintro e w10 ⟨rfl, b10⟩
  have B10 := Lib.hid (Kit.stepB B8.out b10)
  have RO := Lib.hid (rlongest_it w10 x r cap fs (R8.out.keepB b10))
  clear RL LO b10 B8 P8 R8
  generalize maxR (runsFrom fs 0) = m at *
  go_wp2_with fail
  refine RO.out.mono ?_
  rintro e w11 ⟨rfl, b11⟩
  go_wp2_with fail
  go_ret
  exact ⟨rfl, Kit.stepB B10.out b11⟩
set_option maxRecDepth 100000 in
set_option maxHeartbeats 4000000 in
theorem law (W : World) (m : Int) (hm : m ≤ 9223372036854775807) (A : Option Addr) (len cap : Nat) (L : Nat → List Int) (R : Ag.Rows W A len [.i64, .i64] L) :
    Calls Try.prog 6 #[.int .i64 m, .slice A len cap] W fun e W' => e = .returned (.bool true) ∧ Below W.heap.size W W' := by
  have AW := Lib.hid awake_it
  have HR := Lib.hid R
  have hmax := R.max
  clear R
  by_cases hb : m < 1 ∨ 4096 < m
  · have N1 := Lib.hid (new_bad W m hb)
    have N2 := Lib.hid (rnew_bad W m hb)
    clear hb
    go_enter Try.func6, Try.ntmps6
    go_wp2_with fail
    refine N1.out.mono ?_
    rintro e _ ⟨rfl, rfl⟩
    go_wp2_with fail
    refine N2.out.mono ?_
    rintro e _ ⟨rfl, rfl⟩
    go_wp2_with fail
    refine (AW.out _).mono ?_
    rintro e w1 ⟨rfl, b1⟩
    go_wp2_with fail
    go_ret
    exact ⟨rfl, b1⟩
  · obtain ⟨n, rfl⟩ : ∃ n : Nat, m = n := ⟨m.toNat, by omega⟩
    have N1 := Lib.hid (new_it W n (by omega) (by omega))
    go_enter Try.func6, Try.ntmps6
    go_wp2_with fail
    refine N1.out.mono ?_
    rintro e w1 ⟨g, a, b, rfl, P1, ⟨og, oa, ob⟩, b1⟩
    have N2 := Lib.hid (rnew_it w1 n (by omega) (by omega))
    have HP1 := Lib.hid P1
    have B1 := Lib.hid b1
    clear P1 b1 N1
    go_wp2_with fail
    refine N2.out.mono ?_
    rintro e w2 ⟨x, r, cp, rfl, R2, ⟨ox, orr⟩, b2⟩
    have la := Kit.lt_of HP1.out.one
    have lb := Kit.lt_of HP1.out.two
    have lg := Kit.lt_of HP1.out.obj
    have s1 := B1.out.size
    have S2 : Hid (Both W w2 g a b x r cp n) := ⟨⟨_, _, HP1.out.keepB b2, wf_new n, R2, by simp⟩, by omega, by omega, Kit.stepB B1.out b2⟩
    clear R2 b2 N2 HP1 B1 la lb lg s1 ox orr og oa ob
    go_wp2_with fail
    refine (AW.out _).mono ?_
    rintro e w3 ⟨rfl, b3⟩
    have S3 := Lib.hid (S2.out.below b3)
    clear b3 S2 AW
    go_wp2_with fail
    go_loopg [9] 200 (fun k c wr => ∃ j : Nat, (j ≤ len ∧ j ≤ 200 ∧ k = 200 - j) ∧ c = .int .i64 j ∧ Hid (Both W wr g a b x r cp n))
    case atStart => exact ⟨0, by omega, rfl, S3⟩
    case round =>
      obtain ⟨j, ⟨hj, hj2, rfl⟩, rfl, H⟩ := hrel
      by_cases hlt : j < len ∧ j < 200
      · obtain ⟨l1, l2⟩ := hlt
        obtain ⟨bb, off, rfl, hb2, hc⟩ := HR.out.cells (by omega)
        obtain ⟨hl, hc⟩ := hc j l1
        obtain ⟨x0, _, c0, _⟩ := hc 0 .i64 rfl
        obtain ⟨x1, _, c1, w1⟩ := hc 1 .i64 rfl
        obtain ⟨b10, b11⟩ := bounds_i64 w1
        replace c0 := (H.out.bel.cell (p := ⟨bb, off + (j * 2 + 0), none⟩) hb2).trans c0
        replace c1 := (H.out.bel.cell (p := ⟨bb, off + (j * 2 + 1), none⟩) hb2).trans c1
        rw [Nat.add_zero] at c0
        rw [← Nat.add_assoc] at c1
        have DI := Lib.hid (do_it H.out x0 x1 b11)
        clear H hc
        go_wp2_with fail
        refine DI.out.mono ?_
        rintro e w2 ⟨rfl, S2⟩
        have HS2 := Lib.hid S2
        clear S2 DI
        go_wp2_with fail
        go_roundg (200 - (j + 1))
        case measure => omega
        case rel => exact ⟨j + 1, ⟨by omega, by omega, rfl⟩, by simp, HS2⟩
      · have TI := Lib.hid (told_it H.out)
        have HB := Lib.hid H.out.bel
        clear H S3
        rcases (show (j < len ∧ j = 200) ∨ j = len by omega) with ⟨l1, rfl⟩ | rfl
        all_goals
          clear hlt
          go_wp2_with fail
          refine TI.out.mono ?_
          rintro e w4 ⟨rfl, b4⟩
          go_wp2_with fail
          go_ret
          exact ⟨rfl, Kit.stepB HB.out b4⟩
end Go.Proofs.Ytlhgdcimchmldaa.LawDoes
