/- What is pushed last is popped first, and nothing is written beside the stack: the law StackBack answers true for every list of frames. No condition. -/
import Derived.Test.YtedkackmccnkfaaBk
import Derived.Deep.LoopGhost
import Derived.Deep.RegionHeld3
set_option linter.unusedVariables false
set_option linter.unusedSimpArgs false
namespace Go.Proofs.Ytedkackmccnkfaa.LawBack
open Go.RowKit
open Fr Fs Ft Ar Sk Pu Pv Fa Po Nw Bk
theorem infoF : (Try.prog.info? 24).map (fun i => (i.zero, i.size, i.bytes)) = some (some (.agg #[.int .i64 0, .int .i64 0, .int .i64 0, .slice none 0 0]), 4, 48) := by kernel_rfl
theorem writeV_get (xs : List Int) (k : Nat) (v : Int) (q : Nat) (hk : k < xs.length) : (writeV xs k v).getD q 0 = if q = k then v else xs.getD q 0 := by
  unfold writeV
  rw [if_pos (by omega), Int.toNat_natCast]
  simp only [List.getD_eq_getElem?_getD, List.getElem?_set]
  by_cases e : q = k
  · subst e; simp [hk]
  · simp [e, show ¬ k = q by omega]
theorem stkWrite {w w' : World} {g ga r : Nat} {xs xs' : List Int} (K : Stk w g ga r 5 2000 xs []) (m : Kit.Mod [r] w w') (O : Own 71 w' ga r xs') (hl : xs'.length = xs.length) : Stk w' g ga r 5 2000 xs' [] :=
  ⟨Kit.keep K.obj m (by simp; exact K.ne.2.1), O, K.ne, by rw [hl]; exact K.fits, fun i hi => by simp [lay] at hi, fun f hf => by simp at hf⟩
theorem over_edge {xs : List Int} {L : List Fm} {f : Fm} (hl : xs.length = 2010) (he : ∀ i, i < 5 → xs.getD i 0 = 77 ∧ xs.getD (2005 + i) 0 = 77) (hr : (lay L).length + (f.ps.length + 1) ≤ 2000) : ∀ i, i < 5 → (Rw.over xs (5 + (lay L).length) (encF f)).getD i 0 = 77 ∧ (Rw.over xs (5 + (lay L).length) (encF f)).getD (2005 + i) 0 = 77 := fun i hi => by
  have hel : (encF f).length = f.ps.length + 1 := by simp [encF]
  rw [Rw.over_getD _ _ _ (by rw [hel]; omega), Rw.over_getD _ _ _ (by rw [hel]; omega), if_neg (by omega), if_neg (by omega)]
  exact he i hi
set_option maxHeartbeats 4000000 in
set_option maxRecDepth 100000 in
theorem law (W : World) (A : Option Addr) (cap : Nat) (fs : List Fm) (R : FIn W A fs) :
    Calls Try.prog 5 #[.slice A fs.length cap] W fun e W' => e = .returned (.bool true) ∧ Below W.heap.size W W' := by
  obtain ⟨i0, hi, hz0, hz1, hz2⟩ := info_parts infoF
  have hmx := R.max
  have MD := Lib.hid (made_it W 2000 (by decide) (by decide))
  have HR := Lib.hid R
  clear R
  go_enter Try.func5, Try.ntmps5
  go_wp2_with fail
  refine MD.out.mono ?_; rintro e w1 ⟨g, ga, r, rfl, hold, K1, b1⟩
  have HK1 := Lib.hid K1
  have B1 := Lib.hid b1
  have HO := Lib.hid hold
  clear K1 b1 MD hold
  go_wp2_with fail
  refine (Aw.awake_it _).mono ?_; rintro e w2 ⟨rfl, b2⟩
  have HK2 := Lib.hid (Stk.keepB HK1.out b2)
  have B2 := Lib.hid (Kit.stepB B1.out b2)
  clear b2 HK1 B1
  go_wp2_with fail
  go_loopg [5] 5 (fun k c wr => ∃ j : Nat, (j ≤ 5 ∧ k = 5 - j) ∧ c = .int .i64 j ∧ Hid (∃ xs, Stk wr g ga r 5 2000 xs [] ∧ xs.length = 2010 ∧ (∀ q, q < j → xs.getD q 0 = 77 ∧ xs.getD (2005 + q) 0 = 77) ∧ Below W.heap.size W wr))
  case atStart => exact ⟨0, ⟨by omega, rfl⟩, rfl, _, HK2.out, by simp, fun q hq => by omega, B2.out⟩
  case round =>
    obtain ⟨j, ⟨hj, rfl⟩, rfl, H⟩ := hrel
    obtain ⟨xs, K, hl, he, bel⟩ := H.out
    have HK := Lib.hid K
    have HB := Lib.hid bel
    have HE := Lib.hid he
    have HL := Lib.hid hl
    by_cases hlt : j < 5
    · have W1 := Lib.hid (write_any wr ga r xs j 77 K.own (by decide) (by decide))
      have W2 : Hid (∀ w' ys, Own 71 w' ga r ys → Calls Try.prog 15 #[.pointer (some ⟨ga, 0, none⟩), .int .i64 (2005 + (j : Int)), .int .u64 77] w' fun e w'' => e = .returned (.int .i64 (atE ys.length (2005 + (j : Int)))) ∧ Own 71 w'' ga r (writeV ys (2005 + (j : Int)) 77) ∧ Kit.Mod [r] w' w'') := fun w' ys O => write_any w' ga r ys (2005 + (j : Int)) 77 O (by decide) (by decide)
      clear K bel he hl H
      go_wp2_with fail
      refine W1.out.mono ?_; rintro e w3 ⟨rfl, O3, m3⟩
      have HO3 := Lib.hid O3
      have M3 := Lib.hid m3
      clear O3 m3
      go_wp2_with fail
      refine (W2.out _ _ HO3.out).mono ?_; rintro e w4 ⟨rfl, O4, m4⟩
      have hl1 : (writeV xs j 77).length = xs.length := writeV_length _ _ _
      have hl2 : (writeV (writeV xs j 77) (2005 + (j : Int)) 77).length = xs.length := (writeV_length _ _ _).trans hl1
      have K4 := Lib.hid (stkWrite (stkWrite HK.out M3.out HO3.out hl1) m4 O4 (by rw [hl2, hl1]))
      have HL4 := Lib.hid (hl2.trans HL.out)
      have B4 := Lib.hid (Kit.step1 (Kit.step1 HB.out M3.out HO.out.2.2) m4 HO.out.2.2)
      have e5 : ((2005 : Int) + (j : Int)) = ((2005 + j : Nat) : Int) := by omega
      have g1 : ∀ q, (writeV (writeV xs j 77) (2005 + (j : Int)) 77).getD q 0 = if q = 2005 + j then 77 else if q = j then 77 else xs.getD q 0 := fun q => by
        rw [e5, writeV_get (writeV xs j 77) (2005 + j) 77 q (by rw [hl1, HL.out]; omega), writeV_get xs j 77 q (by rw [HL.out]; omega)]
      have E4 : Hid (∀ q, q < j + 1 → (writeV (writeV xs j 77) (2005 + (j : Int)) 77).getD q 0 = 77 ∧ (writeV (writeV xs j 77) (2005 + (j : Int)) 77).getD (2005 + q) 0 = 77) := fun q hq => by
        rw [g1, g1]
        by_cases e : q = j
        · subst e
          rw [if_neg (by omega), if_pos rfl, if_pos rfl]
          exact ⟨rfl, rfl⟩
        · rw [if_neg (by omega), if_neg e, if_neg (by omega), if_neg (by omega)]
          exact HE.out q (by omega)
      clear g1 e5
      clear O4 m4 hl1 hl2
      go_wp2_with fail
      go_roundg (5 - (j + 1))
      case measure => omega
      case rel => exact ⟨j + 1, ⟨by omega, rfl⟩, by simp, _, K4.out, HL4.out, E4.out, B4.out⟩
    · obtain rfl : j = 5 := by omega
      have hz := bel.size
      have l1 := Kit.lt_of K.obj
      have l2 := Kit.lt_of K.own.obj
      have l3 := Kit.lt_of K.own.row
      have S0 : Hid (St W wr wr.heap.size g ga r xs ([] : List Fm) (.slice none 0 0) []) := ⟨K, World.ownsRow_nil _ _ _ _, bel, Nat.le_refl _, ⟨hz, HO.out.1, HO.out.2.1, HO.out.2.2⟩, ⟨l1, l2, l3⟩, hl, he, fun x hx => by cases hx⟩
      obtain ⟨base, hbase⟩ : ∃ base, base = wr.heap.size := ⟨_, rfl⟩
      rw [← hbase] at S0
      clear K bel he hl H hbase l1 l2 l3 hz HK HB HE HL HK2 B2
      go_wp2_with fail
      go_loopg [6, 7] 50 (fun k v c wr => ∃ j : Nat, (j ≤ fs.length ∧ j ≤ 50 ∧ k = 50 - j) ∧ c = .int .i64 j ∧ Hid (∃ xs inn, St W wr base g ga r xs (inn.map (·.1)) v inn ∧ inn.length ≤ j))
      case atStart => exact ⟨0, ⟨by omega, by omega, rfl⟩, rfl, _, [], S0.out, by simp⟩
      case round =>
        obtain ⟨j, ⟨hj, hj2, rfl⟩, rfl, H⟩ := hrel
        obtain ⟨xs, inn, S, hfew⟩ := H.out
        have HS := Lib.hid S
        obtain ⟨aa, ca, rfl⟩ := shape4 S.own
        clear S H
        by_cases hlt : j < fs.length ∧ j < 50
        · obtain ⟨l1, l2⟩ := hlt
          obtain ⟨bb, off, rfl, hb, hc⟩ := HR.out.cells (by omega)
          obtain ⟨⟨⟨k, a, b, ps⟩, p, c⟩, -, S1, hln, c0, c1, c2, c3⟩ := hc j l1
          simp only at S1 hln c0 c1 c2 c3
          have BL := Lib.hid HS.out.bel
          replace c0 := (BL.out.cell (p := ⟨bb, off + j * 4, none⟩) hb).trans c0
          replace c1 := (BL.out.cell (p := ⟨bb, off + j * 4 + 1, none⟩) hb).trans c1
          replace c2 := (BL.out.cell (p := ⟨bb, off + j * 4 + 2, none⟩) hb).trans c2
          replace c3 := (BL.out.cell (p := ⟨bb, off + j * 4 + 3, none⟩) hb).trans c3
          have SW := Lib.hid S1
          have SN := Lib.hid (S1.keepB BL.out)
          clear hc S1
          by_cases h0 : rightE k a b ps ≠ 0
          · have PN := push_no HS.out.stk k a b p c ps SN.out hln h0
            generalize rightE k a b ps = er at PN h0
            have e0 : (er == 0) = false := beq_eq_false_iff_ne.2 h0
            unfold frameV at PN
            have PN := Lib.hid PN
            rename_i PN2
            clear PN2 h0
            go_wp2_with fail
            refine PN.out.mono ?_; rintro e w3 ⟨rfl, b3⟩
            have S3 := Lib.hid (HS.out.stepB b3)
            clear b3
            go_wp2_with fail
            go_roundg (50 - (j + 1))
            case measure => omega
            case rel => exact ⟨j + 1, ⟨by omega, by omega, rfl⟩, by simp, _, _, S3.out, by omega⟩
          · have h1 : rightE k a b ps = 0 := by omega
            clear h0
            by_cases room : 2000 < (lay (inn.map (·.1))).length + (ps.length + 1)
            · have PF := push_full HS.out.stk k a b p c ps SN.out hln (by decide) h1 room
              unfold frameV at PF
              have PF := Lib.hid PF
              rename_i PF2
              clear PF2
              go_wp2_with fail
              refine PF.out.mono ?_; rintro e w3 ⟨rfl, b3⟩
              have S3 := Lib.hid (HS.out.stepB b3)
              clear b3
              go_wp2_with fail
              go_roundg (50 - (j + 1))
              case measure => omega
              case rel => exact ⟨j + 1, ⟨by omega, by omega, rfl⟩, by simp, _, _, S3.out, by omega⟩
            · have PK := push_ok HS.out.stk k a b p c ps SN.out (fun h0 b' off' e => by
                obtain ⟨b2, o2, e2, hb2, _⟩ := SW.out.cells h0
                rw [e2] at e
                simp at e
                have := HS.out.old
                omega) (by decide) h1 (by omega)
              unfold frameV at PK
              have PK := Lib.hid PK
              rename_i PK2
              have hps : ps.length ≤ 1000 := (Sk.Good.bounds (f := ⟨k, a, b, ps⟩) h1).2.2.2.1
              have ED := Lib.hid (over_edge (L := inn.map (·.1)) (f := ⟨k, a, b, ps⟩) HS.out.len HS.out.edge (by simp only; omega))
              have LN : Hid ((Rw.over xs (5 + (lay (inn.map (·.1))).length) (encF ⟨k, a, b, ps⟩)).length = xs.length) := Rw.length_over _ _ _ (by rw [HS.out.len]; simp [encF]; omega)
              clear PK2 room
              go_wp2_with fail
              refine PK.out.mono ?_; rintro e w3 ⟨rfl, m3, K3⟩
              have S3 := Lib.hid (HS.out.mod m3 K3 LN.out ED.out)
              have b0 := (S3.out.bel.cell (p := ⟨bb, off + j * 4, none⟩) hb).trans ((BL.out.cell (p := ⟨bb, off + j * 4, none⟩) hb).symm.trans c0)
              have b1 := (S3.out.bel.cell (p := ⟨bb, off + j * 4 + 1, none⟩) hb).trans ((BL.out.cell (p := ⟨bb, off + j * 4 + 1, none⟩) hb).symm.trans c1)
              have b2 := (S3.out.bel.cell (p := ⟨bb, off + j * 4 + 2, none⟩) hb).trans ((BL.out.cell (p := ⟨bb, off + j * 4 + 2, none⟩) hb).symm.trans c2)
              have b3 := (S3.out.bel.cell (p := ⟨bb, off + j * 4 + 3, none⟩) hb).trans ((BL.out.cell (p := ⟨bb, off + j * 4 + 3, none⟩) hb).symm.trans c3)
              have O3 := Lib.hid S3.out.own
              have hs3 := S3.out.siz
              have c4n := Lib.hid (Kit.cells4 (Kit.new_blk w3 (.cells #[.int .i64 k, .int .i64 a, .int .i64 b, .slice p ps.length c] 24 (0, 0))))
              clear m3 K3 c0 c1 c2 c3 PK
              go_wp2_with (at_builtin; go_loud (refine wpList_append_own _ rfl _ _ 36 rfl base 24 i0 (.agg #[.int .i64 0, .int .i64 0, .int .i64 0, .slice none 0 0]) 4 48 Try.underlying36 hi hz0 hz1 hz2 rfl (by decide) _ _ _ rfl (own_mod (S := []) O3.out ((Kit.Mod.refl _ _).alloc _) (by simp)) ⟨w3.heap.size, 0, none⟩ 1 1 (cellsI (⟨k, a, b, ps⟩, p, c)) rfl rfl (fun q u hq => by
                match q, hq with
                | 0, hq => simp [cellsI] at hq; subst hq; exact c4n.out.1
                | 1, hq => simp [cellsI] at hq; subst hq; exact c4n.out.2.1
                | 2, hq => simp [cellsI] at hq; subst hq; exact c4n.out.2.2.1
                | 3, hq => simp [cellsI] at hq; subst hq; exact c4n.out.2.2.2) (fun x hx => by simp [cellsI] at hx; rcases hx with rfl | rfl | rfl | rfl <;> rfl) (by unfold maxLen; omega) (by omega) (by simp; omega) ?_))
              intro v' w5 hown' hgrow _
              have S5 := S3.out.push (x := (⟨k, a, b, ps⟩, p, c)) ⟨SW.out, hps⟩ hown' hgrow
              rw [show (inn.map (·.1)) ++ [(⟨k, a, b, ps⟩ : Fm)] = (inn ++ [((⟨k, a, b, ps⟩ : Fm), p, c)]).map (·.1) by simp] at S5
              have S5 := Lib.hid S5
              rename_i S52
              clear S52 hown' hgrow
              go_wp2_with fail
              go_roundg (50 - (j + 1))
              case measure => omega
              case rel => exact ⟨j + 1, ⟨by omega, by omega, rfl⟩, by simp, _, _, S5.out, by simp; omega⟩
        · have hc : (j < fs.length ∧ ¬ j < 50) ∨ ¬ j < fs.length := by omega
          rcases hc with ⟨l1, l2⟩ | l1
          all_goals
            go_wp2_with fail
            have hfew2 : inn.length ≤ 50 := by omega
            have S1 : Hid (St W wr base g ga r xs ((inn.take inn.length).map (·.1)) (.slice aa inn.length ca) inn) := by rw [List.take_length]; exact HS.out
            clear HS
            go_loopg [8] inn.length (fun n c wq => ∃ m : Nat, (m ≤ inn.length ∧ n = 0 + m) ∧ c = .int .i64 ((m : Int) - 1) ∧ Hid (St W wq base g ga r xs ((inn.take m).map (·.1)) (.slice aa inn.length ca) inn))
            case atStart => exact ⟨inn.length, ⟨Nat.le_refl _, by omega⟩, rfl, S1.out⟩
            case round =>
              obtain ⟨m, ⟨hm, rfl⟩, rfl, HS⟩ := hrel
              by_cases hpos : 0 < m
              · obtain ⟨m', rfl⟩ : ∃ m', m = m' + 1 := ⟨m - 1, by omega⟩
                have et : (inn.take (m' + 1)).map (·.1) = (inn.take m').map (·.1) ++ [(inn.getD m' (⟨0, 0, 0, []⟩, none, 0)).1] := by
                  rw [List.take_succ_eq_append_getElem (by omega), List.map_append, List.getD_eq_getElem?_getD, List.getElem?_eq_getElem (by omega)]
                  rfl
                have SS := HS.out
                rw [et] at SS
                have PO := pop_it SS.stk (by decide)
                have HSS := Lib.hid SS
                have sl := HSS.out.sls (inn.getD m' (⟨0, 0, 0, []⟩, none, 0)) (by rw [List.getD_eq_getElem?_getD, List.getElem?_eq_getElem (by omega)]; exact List.getElem_mem (by omega))
                have AT := Lib.hid (fun w (S : St W w base g ga r xs ((inn.take m').map (·.1)) (.slice aa inn.length ca) inn) => S.at_ m' (by omega) (⟨0, 0, 0, []⟩, none, 0))
                clear SS et HS
                generalize inn.getD m' (⟨0, 0, 0, []⟩, none, 0) = x at *
                obtain ⟨⟨k, a, b, ps⟩, p, c⟩ := x
                unfold frameV at PO
                simp only at PO sl AT HSS
                have PO := Lib.hid PO
                rename_i PO2
                have SL := Lib.hid sl.1
                have hpl := sl.2
                clear PO2 sl
                have ei : ((m' : Int) + 1 - 1) = (m' : Int) := by omega
                have e0 : ((m' + 1 : Nat) : Int) - 1 = (m' : Int) := by omega
                rw [e0]
                clear ei e0
                go_wp2_with fail
                refine PO.out.mono ?_; rintro e w3 ⟨p', c', rfl, own', m3, K3⟩
                have S3 := Lib.hid (HSS.out.mod (m3.mono (S' := [g, r]) (fun y hy => .inl (by simp at hy ⊢; exact .inl hy))) K3 rfl HSS.out.edge)
                have SP := Lib.hid (Sl.of own' (by omega)).2.1
                clear own' m3 K3 PO
                have S4 := Lib.hid (S3.out.stepB (Kit.allocB (Below.refl _ _) (.cells #[.int .i64 k, .int .i64 a, .int .i64 b, .slice p' ps.length c'] 24 (0, 0))))
                have SP4 := Lib.hid (SP.out.keepB (Kit.allocB (Below.refl _ _) (.cells #[.int .i64 k, .int .i64 a, .int .i64 b, .slice p' ps.length c'] 24 (0, 0))))
                have N4 := Lib.hid (Kit.new_blk w3 (.cells #[.int .i64 k, .int .i64 a, .int .i64 b, .slice p' ps.length c'] 24 (0, 0)))
                go_wp2_with fail
                generalize hw4 : w3.alloc _ = w4 at *
                clear hw4
                have c9 := Kit.cells4 N4.out
                obtain ⟨q, rfl, d0, d1, d2, d3⟩ := AT.out w4 S4.out
                have SM : Hid (∀ w', w'.heap = w4.heap → Calls Try.prog 18 #[.agg #[.int .i64 k, .int .i64 a, .int .i64 b, .slice p' ps.length c'], .agg #[.int .i64 k, .int .i64 a, .int .i64 b, .slice p ps.length c]] w' fun e w'' => e = .returned (.bool true) ∧ Below w'.heap.size w' w'') := fun w' e => Aw.same_it w' k a b p' p c' c ps (SP4.out.heap e) ((SL.out.keepB S4.out.bel).heap e) (by omega)
                have hb0 : m' < inn.length := by omega
                have hb1 : (m' : Int) < (inn.length : Int) := by omega
                have hb2 : decide ((m' : Int) < (inn.length : Int)) = true := decide_eq_true hb1
                have hb3 : 0 ≤ (m' : Int) := by omega
                go_region_held3 (fun w' => (w'.cell? ⟨w3.heap.size, 0, none⟩ = some (.int .i64 k) ∧ w'.cell? ⟨w3.heap.size, 1, none⟩ = some (.int .i64 a) ∧ w'.cell? ⟨w3.heap.size, 2, none⟩ = some (.int .i64 b) ∧ w'.cell? ⟨w3.heap.size, 3, none⟩ = some (.slice p' ps.length c')) ∧ (w'.cell? ⟨q, m' * 4, none⟩ = some (.int .i64 k) ∧ w'.cell? ⟨q, m' * 4 + 1, none⟩ = some (.int .i64 a) ∧ w'.cell? ⟨q, m' * 4 + 2, none⟩ = some (.int .i64 b) ∧ w'.cell? ⟨q, m' * 4 + 3, none⟩ = some (.slice p ps.length c)))
                  (first | go_keep | assumption)
                  (first
                    | (go_at_call 18; ((apply Calls.mono (SM.out _ ?hh))); ((case hh => rfl)); ((rintro e w5 ⟨rfl, b5⟩)); ((have b5' : Below w4.heap.size w4 w5 := ⟨b5.os, b5.tape, b5.output, b5.size, b5.block⟩)); ((have S5 := Lib.hid (S4.out.stepB b5'))); ((have hq4 := World.block_lt_of_cell? w4 _ d0)); ((have c95 := Kit.cells4 (Kit.keepB N4.out b5'))); ((have e0 := (b5'.cell (p := ⟨q, m' * 4, none⟩) hq4).trans d0)); ((have e1 := (b5'.cell (p := ⟨q, m' * 4 + 1, none⟩) hq4).trans d1)); ((have e2 := (b5'.cell (p := ⟨q, m' * 4 + 2, none⟩) hq4).trans d2)); ((have e3 := (b5'.cell (p := ⟨q, m' * 4 + 3, none⟩) hq4).trans d3)); ((clear b5 b5'))))
                go_wp2_with fail
                go_roundg (0 + m')
                case measure => omega
                case rel => exact ⟨m', ⟨by omega, rfl⟩, by simp, S5.out⟩
              · obtain rfl : m = 0 := by omega
                have S0 : Hid (St W wr base g ga r xs [] (.slice aa inn.length ca) inn) := by
                  have := HS.out
                  rw [List.take_zero] at this
                  exact this
                clear HS S1
                go_wp2_with fail
                go_loopg [11] 5 (fun n c wz => ∃ z : Nat, (z ≤ 5 ∧ n = 5 - z) ∧ c = .int .i64 z ∧ wr = wz)
                case atStart => exact ⟨0, ⟨by omega, rfl⟩, rfl, rfl⟩
                case round =>
                  obtain ⟨z, ⟨hz, rfl⟩, rfl, rfl⟩ := hrel
                  by_cases hlz : z < 5
                  · obtain ⟨e1, e2⟩ := S0.out.edge z hlz
                    have R1 := readS S0.out.stk.own z z rfl (by rw [S0.out.len]; omega)
                    have R2 := readS S0.out.stk.own (2005 + (z : Int)) (2005 + z) (by omega) (by rw [S0.out.len]; omega)
                    rw [e1] at R1
                    rw [e2] at R2
                    have R1 := Lib.hid R1
                    have R2 := Lib.hid R2
                    rename_i R3 R4
                    clear R3 R4 e1 e2
                    go_wp2_with fail
                    refine R1.out.mono ?_; rintro e w6 ⟨rfl, rfl⟩
                    go_wp2_with fail
                    refine R2.out.mono ?_; rintro e w7 ⟨rfl, rfl⟩
                    go_wp2_with fail
                    go_roundg (5 - (z + 1))
                    case measure => omega
                    case rel => exact ⟨z + 1, ⟨by omega, rfl⟩, by simp, rfl⟩
                  · have LN := Lib.hid (len_it S0.out.stk)
                    have UN := Lib.hid (used_it S0.out.stk)
                    simp only [List.length_nil] at LN
                    go_wp2_with fail
                    refine LN.out.mono ?_; rintro e w6 ⟨rfl, rfl⟩
                    go_wp2_with fail
                    refine UN.out.mono ?_; rintro e w7 ⟨rfl, rfl⟩
                    go_wp2_with fail
                    go_ret
                    exact ⟨rfl, S0.out.bel⟩
end Go.Proofs.Ytedkackmccnkfaa.LawBack
