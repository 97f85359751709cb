/- When all groups are freed, whatever the order, one run has all blocks again: the law PoolJoins. No condition. -/
import Derived.Test.YtlhgdcimchmldaaGq
set_option linter.unusedVariables false
set_option linter.unusedSimpArgs false
namespace Go.Proofs.Ytlhgdcimchmldaa.LawJoins
open Go.RowKit
open Pl Rn Ov Lf Wl Ct Nn Pw Md Gp Gs Sn Gq Pq
set_option maxRecDepth 100000 in
set_option maxHeartbeats 8000000 in
theorem law (W : World) (n : Nat) (hn : n ≤ 255) (A : Option Addr) (len cap : Nat) (L : Nat → List Int) (R : Ag.Rows W A len [.i64, .i64] L) (A2 : Option Addr) (len2 cap2 : Nat) (zs : List Int) (R2 : Ag.Nums W A2 len2 .u8 zs) :
    Calls Try.prog 5 #[.int .u8 n, .slice A len cap, .slice A2 len2 cap2] W fun e W' => e = .returned (.bool true) ∧ Below W.heap.size W W' := by
  have MD := Lib.hid (made_it W n hn A len cap L R)
  have AW := Lib.hid awake_it
  have HR2 := Lib.hid R2
  have m2 := R2.max
  clear R R2
  go_enter Try.func5, Try.ntmps5
  go_wp2_with fail
  refine MD.out.mono ?_
  rintro e w1 ⟨g, a, b, rfl, S1⟩
  have HS1 := Lib.hid S1
  clear S1 MD
  go_wp2_with fail
  refine (AW.out _).mono ?_
  rintro e w2 ⟨rfl, b2⟩
  have HS2 : Hid (St W w2 g a b (n + 1)) := by
    obtain ⟨fs, ms, P, WF, hl⟩ := HS1.out.ex
    exact ⟨⟨fs, ms, P.keepB b2, WF, hl⟩, HS1.out.own, Kit.stepB HS1.out.bel b2⟩
  clear b2 AW HS1
  go_wp2_with fail
  go_loopg [9] 300 (fun k c wr => ∃ j : Nat, (j ≤ len2 ∧ j ≤ 300 ∧ k = 300 - j) ∧ c = .int .i64 j ∧ Hid (St W wr g a b (n + 1)))
  case atStart => exact ⟨0, by omega, rfl, HS2⟩
  case round =>
    obtain ⟨j, ⟨hj, hj2, rfl⟩, rfl, H⟩ := hrel
    by_cases hlt : j < len2 ∧ j < 300
    · obtain ⟨l1, l2⟩ := hlt
      obtain ⟨bb, off, rfl, hb, hc⟩ := HR2.out.cells (by omega)
      have c1 := (H.out.bel.cell (p := ⟨bb, off + j, none⟩) hb).trans (hc j l1)
      have hw := HR2.out.wf (zs.getD j 0) (by
        have := HR2.out.size
        rw [List.getD_eq_getElem?_getD, List.getElem?_eq_getElem (show j < zs.length by omega)]
        simp)
      have hb8 := bounds_u8 hw
      generalize zs.getD j 0 = z at c1 hw hb8
      have s1 : IntKind.i64.wrap z = z := IntWalk.i64_in _ (by omega)
      obtain ⟨fs, ms, P, WF, hl⟩ := H.out.ex
      have HP := Lib.hid P
      have HW := Lib.hid WF
      have GK := Lib.hid (group_keep2 wr g a b WF P z)
      have HL := Lib.hid hl
      clear hc hw P WF hl
      go_wp2_with fail
      refine GK.out.mono ?_
      rintro e w3 ⟨x, y, c, rfl, ⟨q, rfl⟩, hc⟩
      rcases hc with hc | ⟨rfl, f, rfl, hf, he⟩
      · have HS3 := Lib.hid (H.out.drew q)
        have d1 : (c == 0) = false := by simpa using hc
        clear hc H GK
        go_wp2_with fail
        go_roundg (300 - (j + 1))
        case measure => omega
        case rel => exact ⟨j + 1, ⟨by omega, by omega, rfl⟩, by simp, HS3⟩
      · have FO := Lib.hid (free_ok (wr.drewN q) g a b HW.out (HP.out.heap rfl) f hf he)
        have HS3 := Lib.hid (H.out.drew q)
        clear hf he H GK
        go_wp2_with fail
        refine FO.out.mono ?_
        rintro e w4 ⟨rfl, m, _, hm, _, P4, W4, m4⟩
        have HS4 := Lib.hid (HS3.out.step P4 W4 ((fill_length fs f m (-1) hm).trans HL.out) m4)
        clear P4 W4 m4 hm FO HS3
        go_wp2_with fail
        go_roundg (300 - (j + 1))
        case measure => omega
        case rel => exact ⟨j + 1, ⟨by omega, by omega, rfl⟩, by simp, HS4⟩
    · have HS3 := H
      obtain ⟨fs, ms, P, WF, hl⟩ := H.out.ex
      have HP := Lib.hid P
      have HW := Lib.hid WF
      have HL := Lib.hid hl
      have GI := Lib.hid (groups_it wr g a b fs ms WF P)
      have glen := grp_length (fs := fs) (ms := ms) fs.length
      have hsm := P.small
      have HOB := Lib.hid (And.intro (Kit.lt_of P.one) (Kit.lt_of P.two))
      have HG := Lib.hid (show (grp fs ms fs.length).Pairwise (fun r s => r.1 < s.1) ∧ Still (grp fs ms fs.length) 0 fs ∧ ∀ r ∈ grp fs ms fs.length, r.1 < n + 1 from ⟨grp_sorted _, fun x hx => by rw [List.drop_zero]; exact grp_first _ x hx, fun r hr => by rw [← hl]; exact grp_lt _ r hr⟩)
      generalize grp fs ms fs.length = gl at *
      clear P WF hl HS2 H
      rcases (show (j < len2 ∧ j = 300) ∨ j = len2 by omega) with ⟨l1, rfl⟩ | rfl
      all_goals
        clear hlt
        go_wp2_with fail
        refine GI.out.mono ?_
        rintro e w3 ⟨p, q, va, vb, rfl, b3, T⟩
        have PI := Lib.hid (pairs_it w3 _ p q va vb gl (by omega) T)
        have B3 := Lib.hid b3
        clear b3 T GI
        go_wp2_with fail
        refine PI.out.mono ?_
        rintro e w4 ⟨v2, u2, rfl, b4, o1, o2, _⟩
        rw [fst_ints] at o1
        rw [snd_ints] at o2
        obtain ⟨p1, c1, rfl, SL1, hp1⟩ := Sl.of o1 (by simp [fI])
        obtain ⟨p2, c2, rfl, SL2, hp2⟩ := Sl.of o2 (by simp [sI])
        have B4 := Lib.hid (Kit.stepB B3.out b4)
        have s3 := B3.out.size
        have HSL := Lib.hid SL1
        have HP1 := Lib.hid hp1
        have HF : Hid (∃ fs ms, Pool w4 g a b fs ms ∧ Wf fs ms ∧ fs.length = n + 1 ∧ Still gl 0 fs) := ⟨fs, ms, HP.out.keepB B4.out, HW.out, HL.out, HG.out.2.1⟩
        have hfl : (fI gl).length = gl.length := by simp [fI]
        have HB4 := Lib.hid (Kit.stepB HS3.out.bel B4.out)
        have HFL := Lib.hid hfl
        rw [hfl]
        clear hfl
        clear o1 o2 SL1 SL2 hp1 hp2 PI b4
        go_wp2_with fail
        go_loopg [15] gl.length (fun k c wr2 => ∃ i : Nat, (i ≤ gl.length ∧ k = gl.length - i) ∧ c = .int .i64 i ∧ Hid ((∃ fs ms, Pool wr2 g a b fs ms ∧ Wf fs ms ∧ fs.length = n + 1 ∧ Still gl i fs) ∧ Kit.Mod [a, b] w4 wr2))
        case atStart => exact ⟨0, ⟨Nat.zero_le _, rfl⟩, rfl, HF.out, Kit.Mod.refl _ _⟩
        case round =>
          obtain ⟨i, ⟨hi, rfl⟩, rfl, H2⟩ := hrel
          by_cases hlt2 : i < gl.length
          · obtain ⟨b1, o1, rfl, hb1, hc1⟩ := (HSL.out.keep H2.out.2 (fun b' off e => by
              have h1 := HP1.out b' off e
              have h2 := HOB.out
              simp; omega)).cells (by rw [HFL.out]; omega)
            have c1' := hc1 i (by rw [HFL.out]; exact hlt2)
            obtain ⟨r, hr⟩ : ∃ r, gl[i]? = some r := ⟨gl[i], by simp [hlt2]⟩
            have eg : (fI gl).getD i 0 = (r.1 : Int) := by simp [fI, List.getD_eq_getElem?_getD, hr]
            rw [eg] at c1'
            have hmem : r ∈ gl.drop i := by
              rw [List.mem_iff_getElem?]
              exact ⟨0, by rw [List.getElem?_drop]; exact hr⟩
            have hrl := HG.out.2.2 r (List.mem_of_mem_drop hmem)
            obtain ⟨⟨fs2, ms2, P2, W2, L2, S2⟩, M2⟩ := H2.out
            have FO := Lib.hid (free_ok wr g a b W2 P2 r.1 (by omega) ((S2 r.1 (by omega)).2 (List.mem_map_of_mem hmem)))
            have HS2 := Lib.hid S2
            have HL2 := Lib.hid L2
            have HM2 := Lib.hid M2
            have HR := Lib.hid hr
            clear eg hmem P2 W2 L2 S2 M2 hc1 hr H2
            go_wp2_with fail
            refine FO.out.mono ?_
            rintro e w5 ⟨rfl, m, m1, hm, hf, P5, W5, m5⟩
            have H5 : Hid ((∃ fs ms, Pool w5 g a b fs ms ∧ Wf fs ms ∧ fs.length = n + 1 ∧ Still gl (i + 1) fs) ∧ Kit.Mod [a, b] w4 w5) :=
              ⟨⟨_, _, P5, W5, (fill_length fs2 r.1 m (-1) hm).trans HL2.out, still_step gl i hlt2 HG.out.1 HS2.out r HR.out m m1 hm hf⟩, HM2.out.trans m5 (fun x hx => .inl hx)⟩
            clear P5 W5 m5 hm hf m1 FO
            go_wp2_with fail
            go_roundg (gl.length - (i + 1))
            case measure => omega
            case rel => exact ⟨i + 1, ⟨by omega, rfl⟩, by simp, H5⟩
          · obtain rfl : i = gl.length := by omega
            obtain ⟨⟨fs2, ms2, P2, W2, L2, S2⟩, M2⟩ := H2.out
            have e2 := still_none gl W2 S2
            rw [L2] at e2
            subst e2
            have B5 := Lib.hid (Kit.step HB4.out M2 (by have := HS3.out.own; simp; omega))
            have RI := Lib.hid (runs_it wr g a b _ ms2 W2 P2)
            rw [runs_all (n + 1) (by omega)] at RI
            have HP2 := Lib.hid P2
            have HW2 := Lib.hid W2
            have HOW := Lib.hid HS3.out.own
            clear P2 W2 L2 S2 M2 H2 HF HP HW HL HOB HG HSL HP1 HFL B3 HB4 B4 HS3
            go_wp2_with fail
            refine RI.out.mono ?_
            rintro e w5 ⟨p', q', va', vb', rfl, b5, T⟩
            have PI := Lib.hid (pairs_it w5 _ p' q' va' vb' _ (by simp) T)
            have B6 := Lib.hid (Kit.stepB B5.out b5)
            have P5 := Lib.hid (HP2.out.keepB b5)
            clear b5 T RI HP2 B5
            go_wp2_with fail
            refine PI.out.mono ?_
            rintro e w6 ⟨v3, u3, rfl, b6, o1, o2, _⟩
            rw [fst_ints] at o1
            rw [snd_ints] at o2
            obtain ⟨p3, c3, rfl, SL3, hp3⟩ := Sl.of o1 (by simp [fI])
            obtain ⟨p4, c4, rfl, SL4, hp4⟩ := Sl.of o2 (by simp [sI])
            have B7 := Lib.hid (Kit.stepB B6.out b6)
            have P6 := P5.out.keepB b6
            have HSL3 := Lib.hid SL3
            have HSL4 := Lib.hid SL4
            have HP3 := Lib.hid hp3
            have HP4 := Lib.hid hp4
            have la := Lib.hid (And.intro (Kit.lt_of P5.out.one) (Kit.lt_of P5.out.two))
            have AL := Lib.hid (alloc_first w6 g a b _ ms2 (n + 1) 0 (n + 1) HW2.out P6 (by omega) (runs_all (n + 1) (by omega)) (by omega) (by omega))
            have hlen : (List.replicate (n + 1) (-1 : Int)).length = n + 1 := by simp
            have neg : ∀ i, 0 ≤ i → i < 0 + (n + 1) → (List.replicate (n + 1) (-1 : Int)).getD i 0 < 0 := fun i _ hi => by
              rw [List.getD_eq_getElem?_getD, List.getElem?_replicate, if_pos (by omega)]; decide
            have WF7 := Lib.hid (wf_alloc HW2.out P6.len 0 (n + 1) (by omega) (by omega) neg)
            have SUM := Lib.hid (sum_alloc 0 (n + 1) (by omega) neg)
            rw [runs_all (n + 1) (by omega)] at SUM
            clear o1 o2 SL3 SL4 hp3 hp4 PI b6 hlen neg P6 B6 P5 HW2
            simp only [fI, sI, List.map_cons, List.map_nil, List.length_cons, List.length_nil] at HSL3 HSL4 ⊢
            go_wp2_with fail
            refine AL.out.mono ?_
            rintro e w7 ⟨rfl, P7, m7⟩
            have B8 := Lib.hid (Kit.step B7.out m7 (by have := HOW.out; simp; omega))
            have S3 := Lib.hid (HSL3.out.keep m7 (fun b' off e => by
              have h1 := HP3.out b' off e
              have h2 := la.out
              simp; omega))
            have S4 := Lib.hid (HSL4.out.keep m7 (fun b' off e => by
              have h1 := HP4.out b' off e
              have h2 := la.out
              simp; omega))
            have HP7 := Lib.hid P7
            clear P7 m7 HSL3 HSL4 AL B7
            go_wp2_with fail
            obtain ⟨sa, ba⟩ := one_new w7 0
            have SM1 := Lib.hid (same_it _ p3 _ c3 1 [0] (S3.out.keepB ba) sa (by simp))
            have S4' := Lib.hid (S4.out.keepB ba)
            have P8 := Lib.hid (HP7.out.keepB ba)
            have B9 := Lib.hid (Kit.stepB B8.out ba)
            clear sa ba S3 S4 HP7 B8
            refine SM1.out.mono ?_
            rintro e w8 ⟨rfl, k8, rfl⟩
            have S8 := Lib.hid (S4'.out.heap (w' := (w7.alloc (.cells #[.int .i64 0] 3)).drewN k8) rfl)
            have P9 := Lib.hid (P8.out.heap (w' := (w7.alloc (.cells #[.int .i64 0] 3)).drewN k8) rfl)
            have B10 := Lib.hid (Kit.drawB B9.out k8)
            clear S4' P8 B9 SM1
            generalize (w7.alloc (.cells #[.int .i64 0] 3)).drewN k8 = w8 at *
            go_wp2_with fail
            obtain ⟨sa, ba⟩ := one_new w8 ((n : Int) + 1)
            have SM1 := Lib.hid (same_it _ p4 _ c4 1 [(n : Int) + 1] (by simpa using S8.out.keepB ba) sa (by simp))
            have P10 := Lib.hid (P9.out.keepB ba)
            have B11 := Lib.hid (Kit.stepB B10.out ba)
            clear sa ba S8 P9 B10
            refine SM1.out.mono ?_
            rintro e w9 ⟨rfl, k9, rfl⟩
            have P11 := Lib.hid (P10.out.heap (w' := (w8.alloc (.cells #[.int .i64 ((n : Int) + 1)] 3)).drewN k9) rfl)
            have B12 := Lib.hid (Kit.drawB B11.out k9)
            clear P10 B11 SM1
            generalize (w8.alloc (.cells #[.int .i64 ((n : Int) + 1)] 3)).drewN k9 = w9 at *
            have LE := Lib.hid (left_it w9 g a b _ _ WF7.out P11.out)
            have hz : sumR (runsFrom (fill (List.replicate (n + 1) (-1)) 0 (n + 1) ((0 : Nat) : Int)) 0) = 0 := by
              have := SUM.out
              simp only [sumR, List.map_cons, List.map_nil, List.sum_cons, List.sum_nil] at this
              simp only [sumR]
              omega
            rw [hz] at LE
            clear hz SUM
            go_wp2_with fail
            refine LE.out.mono ?_
            rintro e w10 ⟨rfl, b10⟩
            go_wp2_with fail
            go_ret
            exact ⟨rfl, Kit.stepB B12.out b10⟩
end Go.Proofs.Ytlhgdcimchmldaa.LawJoins
