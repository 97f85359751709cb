/- What is told of both stacks. No condition. -/
import Derived.Test.YtedkackmccnkfaaXm
import Derived.Test.YtedkackmccnkfaaFx
set_option linter.unusedVariables false
set_option linter.unusedSimpArgs false
namespace Go.Proofs.Ytedkackmccnkfaa.Xt
open Go.RowKit Go.Shelf
open Fr Fs Ft Ar Sk Pu Pv Fa Po Nw Bk Fz Fy Fx Mq Mj Mk LawMaps Xs Xp Xo Xd Xm
theorem own_at4 {w : World} {B n ca : Nat} {aa : Option Addr} {inn : List In} (S : w.ownsRow B 24 4 (.slice aa n ca) n (flat inn)) (hn : inn.length = n) (i : Nat) (hi : i < n) (d : In) : ∃ q, aa = some ⟨q, 0, none⟩ ∧ n ≤ ca ∧ ca ≤ maxLen ∧ w.cell? ⟨q, i * 4, none⟩ = some (.int .i64 (inn.getD i d).1.k) ∧ w.cell? ⟨q, i * 4 + 1, none⟩ = some (.int .i64 (inn.getD i d).1.a) ∧ w.cell? ⟨q, i * 4 + 2, none⟩ = some (.int .i64 (inn.getD i d).1.b) ∧ w.cell? ⟨q, i * 4 + 3, none⟩ = some (.slice (inn.getD i d).2.1 (inn.getD i d).1.ps.length (inn.getD i d).2.2) := by
  have e : ∃ q, aa = some ⟨q, 0, none⟩ ∧ n ≤ ca ∧ ca ≤ maxLen := by
    rcases S.2 with ⟨_, h0⟩ | ⟨q, cp, cur, e, hb, hg, hc, hm, _⟩
    · omega
    · simp only [Value.slice.injEq] at e; exact ⟨q, e.1, by omega, by omega⟩
  obtain ⟨q, e, ec, em⟩ := e
  obtain ⟨f0, f1, f2, f3⟩ := flat_get inn d i (by omega)
  have c := fun j u h => S.cells (g := q) (by rw [e]; rfl) j u h
  refine ⟨q, e, ec, em, ?_, ?_, ?_, ?_⟩
  · have := c _ _ f0; rw [Addr.add_lit, Nat.zero_add] at this; exact this
  · have := c _ _ f1; rw [Addr.add_lit, Nat.zero_add] at this; exact this
  · have := c _ _ f2; rw [Addr.add_lit, Nat.zero_add] at this; exact this
  · have := c _ _ f3; rw [Addr.add_lit, Nat.zero_add] at this; exact this
section
variable {W w w' : World} {F : Nat → Obj → Prop} {g ga r y wd : Nat} {L L' : List Fm} {inn inn' : List In}
set_option maxHeartbeats 4000000 in
set_option maxRecDepth 100000 in
theorem told_it (h : B2 W w F g ga r y wd L inn) (he : inn.map (·.1) = L) (hw : wd ≤ 65536) :
    Calls Try.prog 23 #[.pointer (some ⟨g, 0, none⟩), .pointer (some ⟨y, 0, none⟩)] w fun e w' => e = .returned (.bool true) ∧ Below w.heap.size w w' := by
  obtain ⟨xs, K⟩ := h.stk
  obtain ⟨v, X⟩ := h.ref
  have hlay : (lay L).length ≤ 65536 := Nat.le_trans K.fits.1 hw
  have hlen : inn.length = L.length := by rw [← he]; simp
  have hin : L.length ≤ 65536 := Nat.le_trans (lay_ge L) hlay
  have FI := Lib.hid (frames_it K hw)
  have HK := Lib.hid K
  have HX := Lib.hid X
  have HE := Lib.hid he
  obtain ⟨nn, hnn⟩ : ∃ nn, nn = L.length := ⟨_, rfl⟩
  have HNN := Lib.hid hnn
  clear h K X he
  go_enter Try.func23, Try.ntmps23
  go_wp2_with fail
  refine FI.out.mono ?_; rintro e w1 ⟨v1, innP, rfl, R, hm, b1⟩
  have hlp : innP.length = L.length := by have := congrArg List.length hm; simpa using this
  have FT := Lib.hid (frames_told w1 (by omega) R b1.size)
  have HM := Lib.hid hm
  have B1 := Lib.hid b1
  clear R hm b1 FI
  go_wp2_with fail
  refine FT.out.mono ?_; rintro e w2 ⟨v2, rfl, O2, M2, b2⟩
  have B2' := Lib.hid (Kit.stepB B1.out b2)
  obtain ⟨a2, c2, rfl⟩ := shape4 O2
  rw [hlp, ← hnn] at O2 ⊢
  have HO2 := Lib.hid O2
  have HM2 := Lib.hid M2
  have X2 := HX.out.keepB B2'.out
  have K2 := Pu.Stk.keepB HK.out B2'.out
  obtain ⟨aa, ca, rfl, hca⟩ := X2.shape
  have cy := X2.cells
  rw [hlen, ← hnn] at cy hca
  have HX2 := Lib.hid X2
  have LN := len_it K2
  have UN := used_it K2
  have RU := rused_it X2 (by rw [HE.out]; exact hlay)
  rw [HE.out] at RU
  rw [← hnn] at LN
  have D2 : Below w2.heap.size w2 w2.drew := ⟨rfl, rfl, rfl, Nat.le_refl _, fun _ _ => rfl⟩
  have LNd : Hid (∀ w' : World, w'.heap = w2.heap → Calls Try.prog 20 #[.pointer (some ⟨g, 0, none⟩)] w' fun e w'' => e = .returned (.int .i64 nn) ∧ w'' = w') := fun w' e => by
    have := len_it (Pu.Stk.heap K2 e)
    rw [← hnn] at this
    exact this
  have UNd : Hid (∀ w' : World, w'.heap = w2.heap → Calls Try.prog 21 #[.pointer (some ⟨g, 0, none⟩)] w' fun e w'' => e = .returned (.int .i64 (lay L).length) ∧ w'' = w') := fun w' e => used_it (Pu.Stk.heap K2 e)
  have RUd : Hid (∀ w' : World, w'.heap = w2.heap → Calls Try.prog 40 #[.pointer (some ⟨y, 0, none⟩)] w' fun e w'' => e = .returned (.int .i64 (lay L).length) ∧ w'' = w') := fun w' e => by
    have := rused_it (X2.heap e) (by rw [HE.out]; exact hlay)
    rw [HE.out] at this
    exact this
  clear O2 M2 b2 X2 K2 LN UN RU D2 FT
  generalize (lay L).length = ul at *
  have HLEN := Lib.hid hlen
  have HLP := Lib.hid hlp
  rw [← hnn] at hin
  clear hlen hlp hnn
  have cy0 := cy.1
  have cy1 := cy.2
  clear cy
  go_wp2_with fail
  go_quiet (first | (go_at_call 20; refine Calls.quiet_of_same (LNd.out _ rfl)) | (go_at_call 21; refine Calls.quiet_of_same (UNd.out _ rfl)) | (go_at_call 40; refine Calls.quiet_of_same (RUd.out _ rfl)))
  go_wp2_with fail
  go_loopg [6] nn (fun n c wr => ∃ i : Nat, (i ≤ nn ∧ n = nn - i) ∧ c = .int .i64 i ∧ Hid (Below w2.heap.size w2 wr))
  case atStart => exact ⟨0, ⟨Nat.zero_le _, rfl⟩, rfl, Kit.drawB (Below.refl _ _) _⟩
  case round =>
    obtain ⟨i, ⟨hi, rfl⟩, rfl, HB⟩ := hrel
    by_cases hlt : i < nn
    · obtain ⟨m, hm⟩ : ∃ m, m = nn - 1 - i := ⟨_, rfl⟩
      have hmn : m < nn := by omega
      obtain ⟨q1, rfl, hc1, hm1, d0, d1, d2, d3⟩ := own_at4 (own_below HO2.out HB.out) (by rw [HLP.out, HNN.out]) i hlt (⟨0, 0, 0, []⟩, none, 0)
      have Xw := HX2.out.keepB HB.out
      obtain ⟨q2, rfl, hm2, e0, e1, e2, e3⟩ := Xw.at_ m (by rw [HLEN.out, ← HNN.out]; exact hmn) (⟨0, 0, 0, []⟩, none, 0)
      have cyw := Xw.cells
      have eqf : (innP.getD i (⟨0, 0, 0, []⟩, none, 0)).1 = (inn.getD m (⟨0, 0, 0, []⟩, none, 0)).1 := by
        have a1 : (innP.getD i (⟨0, 0, 0, []⟩, none, 0)).1 = (innP.map (·.1)).getD i ⟨0, 0, 0, []⟩ := by
          simp only [List.getD_eq_getElem?_getD, List.getElem?_map]
          cases innP[i]? <;> rfl
        have a2 : (inn.getD m (⟨0, 0, 0, []⟩, none, 0)).1 = (inn.map (·.1)).getD m ⟨0, 0, 0, []⟩ := by
          simp only [List.getD_eq_getElem?_getD, List.getElem?_map]
          cases inn[m]? <;> rfl
        rw [a1, a2, HM.out, HE.out, List.getD_eq_getElem?_getD, List.getD_eq_getElem?_getD, List.getElem?_reverse (by rw [← HNN.out]; exact hlt), hm, HNN.out]
      have hP := (HM2.out (innP.getD i (⟨0, 0, 0, []⟩, none, 0)) (by rw [List.getD_eq_getElem?_getD, List.getElem?_eq_getElem (by rw [HLP.out, ← HNN.out]; exact hlt)]; exact List.getElem_mem _)).stepB HB.out
      have hR := Xw.sls (inn.getD m (⟨0, 0, 0, []⟩, none, 0)) (by rw [List.getD_eq_getElem?_getD, List.getElem?_eq_getElem (by rw [HLEN.out, ← HNN.out]; exact hmn)]; exact List.getElem_mem _)
      generalize innP.getD i (⟨0, 0, 0, []⟩, none, 0) = xP at *
      generalize inn.getD m (⟨0, 0, 0, []⟩, none, 0) = xR at *
      obtain ⟨fP, pP, cP⟩ := xP
      obtain ⟨⟨k, a, b, ps⟩, pR, cR⟩ := xR
      simp only at eqf
      subst eqf
      simp only at d0 d1 d2 d3 e0 e1 e2 e3 hP hR
      have SM := fun (w' : World) (e : w'.heap = wr.heap) => Aw.same_it w' k a b pP pR cP cR ps (hP.sl.1.heap e) (hR.sl.1.heap e) (by have := hP.2; simp only at this; omega)
      unfold frameV at SM
      have SM := Lib.hid SM
      rename_i SM2
      have hi0 : (0 : Int) ≤ (i : Int) := by omega
      have hi1 : (i : Int) < (nn : Int) := by omega
      have hi2 : (0 : Int) ≤ (nn : Int) - 1 - (i : Int) := by omega
      have hi3 : (nn : Int) - 1 - (i : Int) < (nn : Int) := by omega
      have hi4 : (i : Int) ≤ (nn : Int) - 1 := by omega
      have s1 : IntKind.i64.wrap ((nn : Int) - 1) = (nn : Int) - 1 := IntWalk.i64_in _ (by omega)
      have s2 : IntKind.i64.wrap ((nn : Int) - 1 - (i : Int)) = (nn : Int) - 1 - (i : Int) := IntWalk.i64_in _ (by omega)
      have t1 : ((nn : Int) - 1 - (i : Int)).toNat = m := by omega
      have hq1 := World.block_lt_of_cell? wr _ d0
      have hq2 := World.block_lt_of_cell? wr _ e0
      have hyl := Kit.lt_of Xw.obj
      unfold maxLen at hm1 hm2
      have cy0' := cyw.1
      have cy1' := cyw.2
      rw [HLEN.out, ← HNN.out] at *
      clear SM2 hP hR Xw cyw hm
      go_wp2_with fail
      go_region_held3 (fun w' => (w'.cell? ⟨y, 0, none⟩ = some (.int .i64 wd) ∧ w'.cell? ⟨y, 1, none⟩ = some (.slice (some ⟨q2, 0, none⟩) nn ca)) ∧ (w'.cell? ⟨q1, i * 4, none⟩ = some (.int .i64 k) ∧ w'.cell? ⟨q1, i * 4 + 1, none⟩ = some (.int .i64 a) ∧ w'.cell? ⟨q1, i * 4 + 2, none⟩ = some (.int .i64 b) ∧ w'.cell? ⟨q1, i * 4 + 3, none⟩ = some (.slice pP ps.length cP)) ∧ (w'.cell? ⟨q2, m * 4, none⟩ = some (.int .i64 k) ∧ w'.cell? ⟨q2, m * 4 + 1, none⟩ = some (.int .i64 a) ∧ w'.cell? ⟨q2, m * 4 + 2, none⟩ = some (.int .i64 b) ∧ w'.cell? ⟨q2, m * 4 + 3, none⟩ = some (.slice pR ps.length cR)))
        (first | go_keep | assumption)
        (first
          | (go_at_call 18; ((apply Calls.mono (SM.out _ ?hh))); ((case hh => rfl)); ((rintro e w5 ⟨rfl, b5⟩)); ((have b5' : Below wr.heap.size wr w5 := ⟨b5.os, b5.tape, b5.output, b5.size, b5.block⟩)); ((have HB5 := Lib.hid (Kit.stepB HB.out b5'))); ((have f0 := (b5'.cell (p := ⟨q1, i * 4, none⟩) hq1).trans d0)); ((have f1 := (b5'.cell (p := ⟨q1, i * 4 + 1, none⟩) hq1).trans d1)); ((have f2 := (b5'.cell (p := ⟨q1, i * 4 + 2, none⟩) hq1).trans d2)); ((have f3 := (b5'.cell (p := ⟨q1, i * 4 + 3, none⟩) hq1).trans d3)); ((have g0 := (b5'.cell (p := ⟨q2, m * 4, none⟩) hq2).trans e0)); ((have g1 := (b5'.cell (p := ⟨q2, m * 4 + 1, none⟩) hq2).trans e1)); ((have g2 := (b5'.cell (p := ⟨q2, m * 4 + 2, none⟩) hq2).trans e2)); ((have g3 := (b5'.cell (p := ⟨q2, m * 4 + 3, none⟩) hq2).trans e3)); ((have y0 := (b5'.cell (p := ⟨y, 0, none⟩) hyl).trans cy0')); ((have y1 := (b5'.cell (p := ⟨y, 1, none⟩) hyl).trans cy1')); ((clear b5 b5'))))
      clear s1 s2 t1
      go_wp2_with fail
      go_roundg (nn - (i + 1))
      case measure => omega
      case rel => exact ⟨i + 1, ⟨by omega, rfl⟩, by simp, HB5.out⟩
    · obtain rfl : i = nn := by omega
      go_wp2_with fail
      go_ret
      exact ⟨rfl, Kit.stepB B2'.out HB.out⟩
end
end Go.Proofs.Ytedkackmccnkfaa.Xt
