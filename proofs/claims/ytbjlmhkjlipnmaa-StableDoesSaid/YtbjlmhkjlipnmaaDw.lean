/- Every call of a table is answered as the document says: the law StableDoes answers true for every input. No condition. -/
import Derived.Test.YtbjlmhkjlipnmaaDp
import Derived.Test.YtbjlmhkjlipnmaaAw
import Derived.Test.YtbjlmhkjlipnmaaAg
import Derived.Deep.DeepCutAuto
import Derived.Deep.CutRange
import Derived.Deep.CutBlock
import Derived.Deep.LoopGhost
import Derived.Deep.RegionHeld3
import Derived.Deep.QuietTactic
import Derived.BigQuiet
set_option linter.unusedVariables false
set_option linter.unusedSimpArgs false
namespace Go.Proofs.Ytbjlmhkjlipnmaa.Dw
open Go.RowKit Go.WideShapes
open Sr Tb Tf Tg Tm Ta Fu Tp Rf Dp
set_option maxHeartbeats 4000000 in
set_option maxRecDepth 100000 in
theorem law (W : World) (m : Int) (A : Option Addr) (len cap : Nat) (L : Nat → List Int) (R : Ag.Rows W A len [.i64, .i64] L) :
    Calls Try.prog 6 #[.int .i64 m, .slice A len cap] W fun e W' => e = .returned (.bool true) ∧ Below W.heap.size W W' := by
  obtain ⟨i0, hi, hz0, hz1, hz2⟩ := info_parts info3
  by_cases hm : m < 1 ∨ 256 < m
  · have N1 := Lib.hid (fun w => tnew_no w m hm)
    have N2 := Lib.hid (fun w => new_no w m hm)
    clear hm
    go_enter Try.func6, Try.ntmps6
    go_wp2_with fail
    refine (N1.out _).mono ?_; rintro e w1 ⟨rfl, rfl⟩
    go_wp2_with fail
    refine (N2.out _).mono ?_; rintro e w1 ⟨rfl, rfl⟩
    go_wp2_with fail
    refine (Aw.awake_it _).mono ?_; rintro e w2 ⟨rfl, b2⟩
    go_wp2_with fail
    go_ret
    exact ⟨rfl, b2⟩
  · obtain ⟨n, rfl⟩ := Int.eq_ofNat_of_zero_le (show 0 ≤ m by omega)
    have N1 := Lib.hid (fun w => Tb.new_it w n (by omega) (by omega))
    have N2 := Lib.hid (fun w => Rf.new_it w n (by omega) (by omega))
    clear hm
    go_enter Try.func6, Try.ntmps6
    go_wp2_with fail
    refine (N1.out _).mono ?_; rintro e w1 ⟨g, r, rfl, T1, hg, hr, b1⟩
    have T1' := Lib.hid T1
    have B1 := Lib.hid b1
    have s1 := Lib.hid b1.size
    have l1 := Lib.hid (And.intro (Kit.lt_of T1.tab) (Kit.lt_of T1.row))
    clear T1 b1
    go_wp2_with fail
    refine (N2.out _).mono ?_; rintro e w2 ⟨gx, a, b, rfl, T2, hgx, ha, hb, b2⟩
    have T2' := Lib.hid T2
    have B2 := Lib.hid b2
    clear T2 b2
    go_wp2_with fail
    refine (Aw.awake_it _).mono ?_; rintro e w3 ⟨rfl, b3⟩
    have S0 : St W w3 w3.heap.size g r gx a b 0 (List.replicate n (0, 1)) (.slice none 0 0) [] := by
      have z1 := s1.out; have z2 := l1.out; have z3 := B2.out.size; have z4 := b3.size
      exact ⟨(T1'.out.keepB B2.out).keepB b3, T2'.out.keepB b3, World.ownsRow_nil _ _ _ _, Kit.stepB (Kit.stepB B1.out B2.out) b3, Nat.le_refl _, by omega, ⟨by omega, by omega, Nat.lt_of_lt_of_le (Kit.lt_of T2'.out.tab) z4, Nat.lt_of_lt_of_le (Kit.lt_of T2'.out.one) z4, Nat.lt_of_lt_of_le (Kit.lt_of T2'.out.two) z4⟩, by omega, Fine.start n⟩
    have HS0 := Lib.hid S0
    obtain ⟨base, hbase⟩ : ∃ base, base = w3.heap.size := ⟨_, rfl⟩
    rw [← hbase] at HS0
    clear S0 b3 T1' B1 T2' B2 s1 l1 hbase hg hr hgx ha hb N1 N2
    go_wp2_with fail
    go_loopg [9, 10] 300 (fun k v c wr => ∃ j : Nat, (j ≤ len ∧ j ≤ 300 ∧ k = 300 - j) ∧ c = .int .i64 j ∧ Hid (∃ xs hs, St W wr base g r gx a b j xs v hs))
    case atStart => exact ⟨0, by omega, rfl, ⟨_, _, HS0.out⟩⟩
    case round =>
      obtain ⟨j, ⟨hj, hj2, rfl⟩, rfl, H⟩ := hrel
      by_cases hlt : j < len ∧ j < 300
      · obtain ⟨l1, l2⟩ := hlt
        obtain ⟨xs, hs, S⟩ := H.out
        obtain ⟨bb, off, rfl, hb, hc⟩ := R.cells (by omega)
        obtain ⟨hl, hc⟩ := hc j l1
        obtain ⟨x0, _, c0, _⟩ := hc 0 .i64 rfl
        obtain ⟨x1, _, c1, w1⟩ := hc 1 .i64 rfl
        obtain ⟨b10, b11⟩ := bounds_i64 w1
        have HB := Lib.hid S.bel
        have HS := Lib.hid S
        have XW := Lib.hid c0
        rw [Nat.add_zero] at XW
        replace c0 := (HB.out.cell (p := ⟨bb, off + (j * 2 + 0), none⟩) hb).trans c0
        replace c1 := (HB.out.cell (p := ⟨bb, off + (j * 2 + 1), none⟩) hb).trans c1
        rw [Nat.add_zero] at c0
        rw [← Nat.add_assoc] at c1
        obtain ⟨aa, ca, rfl⟩ := shape_of S.own
        have hbb := Nat.lt_of_lt_of_le hb HB.out.size
        have hfew := HS.out.fine.few
        have OB : Hid (∀ q, (Value.slice aa hs.length ca).ownBlock = some q → q ≠ wr.heap.size) := fun q hq => by
          have := (HS.out.own.lt q hq).2; omega
        have HZ := Lib.hid HS.out.siz
        rename_i hc2
        clear hc hl w1 S H hc2
        have X0 := Lib.hid c0
        have SA : Hid (St W (wr.alloc (Obj.cells #[Value.int IntKind.i64 x1] 3)) base g r gx a b j xs (.slice aa hs.length ca) hs) := HS.out.stepB (Kit.allocB (Below.refl _ _) _)
        have BA := Lib.hid (Kit.new_blk wr (Obj.cells #[Value.int IntKind.i64 x1] 3))
        go_upto_region 12 with (fail)
        have d0 : (wr.alloc (Obj.cells #[Value.int IntKind.i64 x1] 3)).cell? { block := bb, off := off + j * 2 } = some (.int .i64 x0) := (World.cell?_alloc_lt wr _ ⟨bb, off + j * 2, none⟩ hbb).trans X0.out
        go_cut [86] (fun v w => ∃ c : Bool, v = .bool c ∧ (c = true → 0 ≤ x1 ∧ x1 < hs.length) ∧ Hid (St W w base g r gx a b j xs (.slice aa hs.length ca) hs ∧ w.heap[wr.heap.size]? = some (.cells #[.int .i64 x1] 3 (0, 0))))
        case first =>
          go_wp2_with fail
          all_goals
            go_meet
            case rel => refine ⟨_, rfl, fun hc => ?_, SA.out, BA.out⟩; first | (cases hc; done) | exact ⟨by assumption, by simpa using hc⟩ | (simp at hc; omega)
        case rest =>
          obtain ⟨c, rfl, hcc, HC⟩ := hcut
          clear SA BA d0 c0 c1
          go_upto_if 86 with (fail)
          go_cut [] (fun w => ∃ y : Int, (-9223372036854775808 ≤ y ∧ y ≤ 9223372036854775807) ∧ Hid (St W w base g r gx a b j xs (.slice aa hs.length ca) hs ∧ w.heap[wr.heap.size]? = some (.cells #[.int .i64 y] 3 (0, 0))))
          case first =>
            obtain ⟨S, hB⟩ := HC.out
            cases c with
            | false =>
              clear hB S
              go_wp2_with fail
              go_meet
              case rel => exact ⟨x1, ⟨b10, b11⟩, HC.out⟩
            | true =>
              obtain ⟨y0, y1⟩ := hcc rfl
              obtain ⟨q, rfl⟩ := Int.eq_ofNat_of_zero_le y0
              have hq : q < hs.length := by omega
              obtain ⟨g', rfl, hcell⟩ := S.hand q hq
              have hy := S.fine.hands (hs.getD q 0) (by rw [List.getD_eq_getElem?_getD, List.getElem?_eq_getElem hq]; exact List.getElem_mem hq)
              generalize hs.getD q 0 = y at hcell hy
              have cB := Kit.cells1 hB
              have fB := Kit.frozen_of hB 0
              have S2 := Lib.hid (S.setNew wr.heap.size HZ.out OB.out (.int .i64 y) 0)
              have B2 := Lib.hid (Kit.set_blk hB 0 (.int .i64 y))
              clear S hB HC y0 y1 hcc b10 b11
              go_wp2_with fail
              go_meet
              case rel => exact ⟨y, by omega, S2.out, B2.out⟩
          case rest =>
            obtain ⟨y, hy, HC2⟩ := hcut
            clear HC hcc b10 b11
            have d0 := (HC2.out.1.bel.cell (p := ⟨bb, off + j * 2, none⟩) hb).trans XW.out
            go_upto_block 2 with (fail)
            go_cut [9] (fun v w => Hid (∃ xs hs, St W w base g r gx a b (j + 1) xs v hs))
            case first =>
              clear d0
              have kinds : (x0 = 0 ∨ x0 = 1) ∨ (x0 = 2 ∨ x0 = 3) ∨ x0 = 4 ∨ (x0 ≠ 0 ∧ x0 ≠ 1 ∧ x0 ≠ 2 ∧ x0 ≠ 3 ∧ x0 ≠ 4) := by omega
              have HW := Lib.hid HC2.out.1
              have cB := Kit.cells1 HC2.out.2
              rcases kinds with kk | kk | kk | ⟨z0, z1, z2, z3, z4⟩
              · as_aux_lemma =>
                  by_cases ok : 1 ≤ y ∧ y ≤ 524288
                  · obtain ⟨k, k1, k2, k3⟩ := exists_free xs
                    have M := Lib.hid (Tm.make_in HW.out.tab y ok (HW.out.turns hj2) k k1 k2 k3)
                    have M' : Hid (∀ w3, Ref w3 gx a b xs → Calls Try.prog 18 #[.pointer (some ⟨gx, 0, none⟩), .int .i64 y] w3 fun e w' => Kit.Mod [a, b] w3 w' ∧ if k < xs.length then e = .returned (.tuple #[.int .i64 ((xs.getD k (0, 0)).2 * 256 + k), .int .i64 0]) ∧ Ref w' gx a b (xs.set k (y, (xs.getD k (0, 0)).2)) else e = .returned (.tuple #[.int .i64 0, .int .i64 5]) ∧ Ref w' gx a b xs) := fun w3 R => Rf.make_in R y ok (HW.out.turns hj2) k k1 k2 k3
                    clear k2 k3
                    have FM := Lib.hid (fun h : k < xs.length => HW.out.fine.made k h y ok)
                    have hh0 : Hid (∀ h : k < xs.length, 0 ≤ (xs.getD k (0, 0)).2 * 256 + (k : Int) ∧ (xs.getD k (0, 0)).2 * 256 + (k : Int) ≤ 1099511627776) := fun h => by
                      have := HW.out.fine.slots k h; have := HW.out.tab.short; omega
                    have hgB : wr.heap.size ≠ r := by have := HW.out.gb; have := HZ.out; omega
                    obtain ⟨ys, hys⟩ : ∃ ys, ys = xs.set k (y, (xs.getD k (0, 0)).2) := ⟨_, rfl⟩
                    obtain ⟨hh, hhh⟩ : ∃ hh, hh = (xs.getD k (0, 0)).2 * 256 + (k : Int) := ⟨_, rfl⟩
                    rw [← hys] at M M' FM
                    rw [← hhh] at M M' hh0
                    clear hys hhh
                    by_cases room : k < xs.length
                    · have hhb := hh0.out room
                      have FM' := Lib.hid (FM.out room)
                      clear FM hh0
                      rcases kk with rfl | rfl
                      all_goals
                        go_wp2_with fail
                        refine M.out.mono ?_; rintro e w3 ⟨m3, h5⟩
                        rw [if_pos room] at h5
                        obtain ⟨rfl, T3⟩ := h5
                        have HT3 := Lib.hid T3
                        have HM3 := Lib.hid m3
                        have cB3 := Kit.cells1 (Kit.keep HC2.out.2 m3 (by simp; exact hgB))
                        have R3 := Lib.hid (HW.out.mid m3)
                        clear T3 m3 M
                        go_wp2_with fail
                        refine (M'.out _ R3.out).mono ?_; rintro e w4 ⟨m4, h5⟩
                        rw [if_pos room] at h5
                        obtain ⟨rfl, R4⟩ := h5
                        have S4 := Lib.hid (HW.out.both HM3.out HT3.out m4 R4 FM'.out)
                        have O4 := Lib.hid S4.out.own
                        have hs4 := S4.out.siz
                        clear m4 R4 M' HM3 HT3 R3 cB cB3
                        go_wp2_with (at_builtin; go_loud (refine wpList_append_own _ rfl _ _ 28 rfl base 3 i0 (.int .i64 0) 1 8 Try.underlying28 hi hz0 hz1 hz2 rfl (by decide) _ _ _ rfl (O4.out.alloc _) ⟨w4.heap.size, 0, none⟩ 1 1 [.int .i64 hh] rfl rfl (cell_one_new w4 (.int .i64 hh) 3) (fun x hx => by simp at hx; subst hx; rfl) (by unfold maxLen; omega) (by omega) (by simp; omega) ?_))
                        intro v' w5 hown' hgrow _
                        have S5 := Lib.hid (S4.out.push hhb hown' hgrow)
                        clear hown' hgrow
                        go_wp2_with fail
                        go_meet
                        case rel => exact ⟨_, _, S5.out⟩
                    · rcases kk with rfl | rfl
                      all_goals
                        go_wp2_with fail
                        refine M.out.mono ?_; rintro e w3 ⟨m3, h5⟩
                        rw [if_neg room] at h5
                        obtain ⟨rfl, T3⟩ := h5
                        have HT3 := Lib.hid T3
                        have HM3 := Lib.hid m3
                        have cB3 := Kit.cells1 (Kit.keep HC2.out.2 m3 (by simp; exact hgB))
                        have R3 := Lib.hid (HW.out.mid m3)
                        clear T3 m3 M
                        go_wp2_with fail
                        refine (M'.out _ R3.out).mono ?_; rintro e w4 ⟨m4, h5⟩
                        rw [if_neg room] at h5
                        obtain ⟨rfl, R4⟩ := h5
                        have S4 := Lib.hid (HW.out.both HM3.out HT3.out m4 R4 HW.out.fine)
                        have O4 := Lib.hid S4.out.own
                        have hs4 := S4.out.siz
                        clear m4 R4 M' HM3 HT3 R3 cB cB3
                        go_wp2_with (at_builtin; go_loud (refine wpList_append_own _ rfl _ _ 28 rfl base 3 i0 (.int .i64 0) 1 8 Try.underlying28 hi hz0 hz1 hz2 rfl (by decide) _ _ _ rfl (O4.out.alloc _) ⟨w4.heap.size, 0, none⟩ 1 1 [.int .i64 0] rfl rfl (cell_one_new w4 (.int .i64 0) 3) (fun x hx => by simp at hx; subst hx; rfl) (by unfold maxLen; omega) (by omega) (by simp; omega) ?_))
                        intro v' w5 hown' hgrow _
                        have S5 := Lib.hid (S4.out.push (h := 0) (by decide) hown' hgrow)
                        clear hown' hgrow
                        go_wp2_with fail
                        go_meet
                        case rel => exact ⟨_, _, S5.out⟩
                  · have M := Lib.hid (Tm.make_bad HW.out.tab y ok)
                    have M' := Lib.hid (Rf.make_bad HW.out.ref y ok)
                    have O4 := Lib.hid HW.out.own
                    have hs4 := HW.out.siz
                    rcases kk with rfl | rfl
                    all_goals
                      go_wp2_with fail
                      refine M.out.mono ?_; rintro e w3 ⟨rfl, rfl⟩
                      go_wp2_with fail
                      refine M'.out.mono ?_; rintro e w4 ⟨rfl, rfl⟩
                      clear M M' cB
                      go_wp2_with (at_builtin; go_loud (refine wpList_append_own _ rfl _ _ 28 rfl base 3 i0 (.int .i64 0) 1 8 Try.underlying28 hi hz0 hz1 hz2 rfl (by decide) _ _ _ rfl (O4.out.alloc _) ⟨w4.heap.size, 0, none⟩ 1 1 [.int .i64 0] rfl rfl (cell_one_new w4 (.int .i64 0) 3) (fun x hx => by simp at hx; subst hx; rfl) (by unfold maxLen; omega) (by omega) (by simp; omega) ?_))
                      intro v' w5 hown' hgrow _
                      have S5 := Lib.hid (HW.out.push (h := 0) (by decide) hown' hgrow)
                      clear hown' hgrow
                      go_wp2_with fail
                      go_meet
                      case rel => exact ⟨_, _, S5.out⟩
              · as_aux_lemma =>
                  have F1 : Hid (∀ w3, Tab w3 g r xs → Calls Try.prog 11 #[.pointer (some ⟨g, 0, none⟩), .int .i64 y] w3 fun e w' => e = .returned (.int .i64 (if good xs y then 0 else 60)) ∧ Tab w' g r (freed xs y) ∧ Kit.Mod [r] w3 w') := fun w3 T => Tg.free_it T y hy.2 (HW.out.turns hj2)
                  have F2 : Hid (∀ w3, Ref w3 gx a b xs → Calls Try.prog 19 #[.pointer (some ⟨gx, 0, none⟩), .int .i64 y] w3 fun e w' => e = .returned (.int .i64 (if good xs y then 0 else 60)) ∧ Ref w' gx a b (freed xs y) ∧ Kit.Mod [a, b] w3 w') := fun w3 T => Rf.free_it T y (HW.out.all3 hj2)
                  have FF := Lib.hid (HW.out.fine.free y)
                  have hgB : wr.heap.size ≠ r := by have := HW.out.gb; have := HZ.out; omega
                  have hgB2 : wr.heap.size ≠ a ∧ wr.heap.size ≠ b := by have := HW.out.gb; have := HZ.out; omega
                  generalize freed xs y = ys at F1 F2 FF
                  generalize (if good xs y then (0 : Int) else 60) = er at F1 F2
                  rcases kk with rfl | rfl
                  all_goals
                    go_wp2_with fail
                    go_region_held3 (fun w' => w'.cell? ⟨wr.heap.size, 0, none⟩ = some (.int .i64 y))
                      (first | go_keep | assumption)
                      (first
                        | (go_at_call 11; ((apply Calls.mono (F1.out _ ?hT))); ((case hT => first | exact tabHeap (w := wc) rfl HW.out.tab | exact tabHeap (w := w6) rfl TX.out)); ((rintro e w5 ⟨rfl, T5, m5⟩)); ((have B5 : w5.heap[wr.heap.size]? = some (.cells #[.int .i64 y] 3 (0, 0)) := (by first | exact Kit.keep HC2.out.2 (modFrom wc m5 ⟨rfl, rfl, rfl, rfl⟩) (by simp; exact hgB) | exact Kit.keep BX.out (modFrom w6 m5 ⟨rfl, rfl, rfl, rfl⟩) (by simp; exact hgB)))); ((have BX5 := Lib.hid B5)); ((have cB5 := Kit.cells1 B5)); ((have HM5 := Lib.hid m5)); ((have HT5 := Lib.hid T5)); ((try have RX : Hid (Ref w5 gx a b xs) := HW.out.mid (modFrom wc m5 ⟨rfl, rfl, rfl, rfl⟩))); ((clear B5 m5 T5)))
                        | (go_at_call 19; ((apply Calls.mono (F2.out _ ?hT))); ((case hT => first | exact refHeap (w := wc) rfl HW.out.ref | exact refHeap (w := w5) rfl RX.out)); ((rintro e w6 ⟨rfl, R6, m6⟩)); ((have B6 : w6.heap[wr.heap.size]? = some (.cells #[.int .i64 y] 3 (0, 0)) := (by first | exact Kit.keep HC2.out.2 (modFrom wc m6 ⟨rfl, rfl, rfl, rfl⟩) (by simp; exact hgB2) | exact Kit.keep BX5.out (modFrom w5 m6 ⟨rfl, rfl, rfl, rfl⟩) (by simp; exact hgB2)))); ((have BX := Lib.hid B6)); ((have cB6 := Kit.cells1 B6)); ((have HM6 := Lib.hid m6)); ((have HR6 := Lib.hid R6)); ((try have TX : Hid (Tab w6 g r xs) := HW.out.mid2 (modFrom wc m6 ⟨rfl, rfl, rfl, rfl⟩))); ((clear B6 m6 R6))))
                    all_goals
                      have S7 : Hid (∃ wz, True) := ⟨wc, trivial⟩
                      go_wp2_with fail
                      go_meet
                      case rel => first
                        | exact ⟨_, _, HW.out.both (modFrom wc HM5.out ⟨rfl, rfl, rfl, rfl⟩) HT5.out (modFrom w5 HM6.out ⟨rfl, rfl, rfl, rfl⟩) HR6.out FF.out⟩
                        | exact ⟨_, _, HW.out.both2 (modFrom wc HM6.out ⟨rfl, rfl, rfl, rfl⟩) HR6.out (modFrom w6 HM5.out ⟨rfl, rfl, rfl, rfl⟩) HT5.out FF.out⟩
              · as_aux_lemma =>
                  subst kk
                  have G1 := Lib.hid (Tg.get_it HW.out.tab y hy.2)
                  have G2 := Lib.hid (Rf.get_it HW.out.ref y (HW.out.all3 hj2))
                  generalize (if good xs y then (xs.getD (y % 256).toNat (0, 0)).1 else 0) = v1 at G1 G2
                  generalize (if good xs y then (0 : Int) else 60) = er at G1 G2
                  go_wp2_with fail
                  refine G1.out.mono ?_; rintro e w3 ⟨rfl, rfl⟩
                  go_wp2_with fail
                  refine G2.out.mono ?_; rintro e w4 ⟨rfl, rfl⟩
                  go_wp2_with fail
                  go_meet
                  case rel => exact ⟨_, _, HW.out.next⟩
              · as_aux_lemma =>
                  have e0 : (x0 == 0) = false := beq_eq_false_iff_ne.2 z0
                  have e1 : (x0 == 1) = false := beq_eq_false_iff_ne.2 z1
                  have e2 : (x0 == 2) = false := beq_eq_false_iff_ne.2 z2
                  have e3 : (x0 == 3) = false := beq_eq_false_iff_ne.2 z3
                  have e4 : (x0 == 4) = false := beq_eq_false_iff_ne.2 z4
                  have hgB : wr.heap.size ≠ r := by have := HW.out.gb; have := HZ.out; omega
                  have hgB2 : wr.heap.size ≠ a ∧ wr.heap.size ≠ b := by have := HW.out.gb; have := HZ.out; omega
                  have MP := Lib.hid (map21_it HW.out.tab wr.heap.size y HC2.out.2 hgB (fun q hq => by have := HW.out.fine.slots q hq; omega))
                  have hsx := HW.out.tab.short
                  go_wp2_with fail
                  refine MP.out.mono ?_; rintro e w3 ⟨rfl, T3, m3⟩
                  have HT3 := Lib.hid T3
                  have HM3 := Lib.hid m3
                  have B3 := Lib.hid (Kit.keep HC2.out.2 m3 (by simp; exact hgB))
                  have R3 := Lib.hid (HW.out.mid m3)
                  clear T3 m3 MP cB
                  go_wp2_with fail
                  go_loopg [20] xs.length (fun k c wq => ∃ q : Nat, (q ≤ xs.length ∧ k = xs.length - q) ∧ c = .int .i64 q ∧ Hid (Ref wq gx a b (half y xs q) ∧ Kit.Mod [a, b] w3 wq))
                  case atStart => exact ⟨0, ⟨by omega, by omega⟩, rfl, by rw [half_zero]; exact R3.out, Kit.Mod.refl _ _⟩
                  case round =>
                    rename_i wq
                    obtain ⟨q, ⟨hq, rfl⟩, rfl, HQ⟩ := hrel
                    have ct := Kit.cells2 HQ.out.1.tab
                    rw [half_length] at ct
                    by_cases ql : q < xs.length
                    · have c1 := Rw.cell HQ.out.1.one q (by rw [ats_len, half_length]; exact ql)
                      rw [ats_get _ q (by rw [half_length]; exact ql), half_get y xs q ql] at c1
                      have f1 := Rw.frozen HQ.out.1.one q
                      have cB := Kit.cells1 (Kit.keep B3.out HQ.out.2 (by simp; exact hgB2))
                      have fin := HW.out.fine.slots q ql
                      have BY := Lib.hid (fun w => by_it w (xs.getD q (0, 0)).1 y (by omega) (by omega))
                      have P1 := Lib.hid (fun x : Int => HQ.out.1.put1 q (by rw [half_length]; exact ql) x)
                      have P2 := P1.out
                      rw [half_get y xs q ql] at P2
                      have P1 := Lib.hid P2
                      have hsame := Lib.hid (half_same y xs q ql)
                      have hsucc := Lib.hid (half_succ y xs q ql)
                      generalize hp : xs.getD q (0, 0) = p at *
                      obtain ⟨at1, t1⟩ := p
                      clear P2 hp
                      simp only at c1 fin BY P1 hsame hsucc
                      have tn : Hid (turn1 y (at1, t1) = if at1 ≠ 0 ∧ 1 ≤ byV at1 y ∧ byV at1 y ≤ 524288 then (byV at1 y, t1) else (at1, t1)) := rfl
                      generalize byV at1 y = bv at BY tn
                      have ways : (at1 = 0) ∨ (at1 ≠ 0 ∧ ¬ 1 ≤ bv) ∨ (at1 ≠ 0 ∧ 1 ≤ bv ∧ ¬ bv ≤ 524288) ∨ (at1 ≠ 0 ∧ 1 ≤ bv ∧ bv ≤ 524288) := by omega
                      rcases ways with v1 | ⟨v1, v2⟩ | ⟨v1, v2, v3⟩ | ⟨v1, v2, v3⟩
                      · have d1 : decide (0 < at1) = false := decide_eq_false (by omega)
                        have tn' := Lib.hid (tn.out.trans (if_neg (fun h => h.1 v1)))
                        clear v1
                        go_wp2_with fail
                        go_quiet (first | (go_at_call 16; refine Calls.quiet_of_same (BY.out _)))
                        go_wp2_with fail
                        go_roundg (xs.length - (q + 1))
                        case measure => omega
                        case rel => exact ⟨q + 1, ⟨by omega, rfl⟩, by simp, by rw [hsame.out tn'.out]; exact refHeap (w := wr) rfl HQ.out.1, HQ.out.2.drewN _⟩
                      · have d1 : decide (0 < at1) = true := decide_eq_true (by omega)
                        have d2 : decide (1 ≤ bv) = false := decide_eq_false v2
                        have tn' := Lib.hid (tn.out.trans (if_neg (fun h => v2 h.2.1)))
                        clear v1 v2
                        go_wp2_with fail
                        go_quiet (first | (go_at_call 16; refine Calls.quiet_of_same (BY.out _)))
                        go_wp2_with fail
                        go_roundg (xs.length - (q + 1))
                        case measure => omega
                        case rel => exact ⟨q + 1, ⟨by omega, rfl⟩, by simp, by rw [hsame.out tn'.out]; exact refHeap (w := wr) rfl HQ.out.1, HQ.out.2.drewN _⟩
                      · have d1 : decide (0 < at1) = true := decide_eq_true (by omega)
                        have d2 : decide (1 ≤ bv) = true := decide_eq_true v2
                        have d3 : decide (bv ≤ 524288) = false := decide_eq_false v3
                        have tn' := Lib.hid (tn.out.trans (if_neg (fun h => v3 h.2.2)))
                        clear v1 v2 v3
                        go_wp2_with fail
                        go_quiet (first | (go_at_call 16; refine Calls.quiet_of_same (BY.out _)))
                        go_wp2_with fail
                        go_roundg (xs.length - (q + 1))
                        case measure => omega
                        case rel => exact ⟨q + 1, ⟨by omega, rfl⟩, by simp, by rw [hsame.out tn'.out]; exact refHeap (w := wr) rfl HQ.out.1, HQ.out.2.drewN _⟩
                      · have d1 : decide (0 < at1) = true := decide_eq_true (by omega)
                        have d2 : decide (1 ≤ bv) = true := decide_eq_true v2
                        have d3 : decide (bv ≤ 524288) = true := decide_eq_true v3
                        have tn' := Lib.hid (tn.out.trans (if_pos ⟨v1, v2, v3⟩))
                        have R5 := Lib.hid (P1.out bv)
                        have M5 := Lib.hid (HQ.out.2.setCell (p := ⟨a, q, none⟩) (.inl (by simp)) (.int .i64 bv))
                        clear v1 v2 v3
                        go_wp2_with fail
                        go_quiet (first | (go_at_call 16; refine Calls.quiet_of_same (BY.out _)))
                        go_wp2_with fail
                        go_roundg (xs.length - (q + 1))
                        case measure => omega
                        case rel => exact ⟨q + 1, ⟨by omega, rfl⟩, by simp, by rw [hsucc.out, tn'.out]; exact refHeap (w := wr.setCell ⟨a, q, none⟩ (.int .i64 bv)) rfl R5.out, ⟨M5.out.os, M5.out.tape, M5.out.output, M5.out.size, M5.out.block⟩⟩
                    · obtain rfl : q = xs.length := by omega
                      have RE := HQ.out.1
                      rw [half_end] at RE
                      have S5 := Lib.hid (HW.out.both HM3.out HT3.out HQ.out.2 RE (HW.out.fine.turn y))
                      clear RE
                      go_wp2_with fail
                      go_meet
                      case rel => exact ⟨_, _, S5.out⟩
            case rest =>
              clear d0
              obtain ⟨ys, gs, S⟩ := hcut.out
              have HS1 := Lib.hid S
              have A1 := Lib.hid (Ta.all_it S.tab)
              have hlen : (live ys).length ≤ 256 := by
                have := live_length ys ys.length; rw [List.take_length] at this; have := S.tab.short; omega
              have HFN : Hid (∀ q, q < ys.length → 0 ≤ (ys.getD q (0, 0)).1) := fun q hq => (S.fine.slots q hq).1
              clear S HC2
              go_wp2_with fail
              refine A1.out.mono ?_; rintro e w3 ⟨va, rfl, oa, ba⟩
              have S3 := Lib.hid (HS1.out.stepB ba)
              have A2 := Lib.hid (Rf.all_it S3.out.ref HFN.out)
              have OA := Lib.hid oa
              clear oa ba A1
              go_wp2_with fail
              refine A2.out.mono ?_; rintro e w4 ⟨vb, rfl, ob, bb4⟩
              have S4 := Lib.hid (S3.out.stepB bb4)
              have OA4 := Lib.hid (own_mod (S := []) OA.out (Kit.Mod.of_below bb4) (by simp))
              have OB4 := Lib.hid ob
              obtain ⟨a1, ca1, rfl⟩ := shape_of OA.out
              obtain ⟨a2, ca2, rfl⟩ := shape_of ob
              have SM := Lib.hid (Rf.same_it w4 a1 a2 ca1 ca2 (live ys) (by omega) (fun h0 => by
                obtain ⟨g1, cp1, e1, _⟩ := own_addr OA4.out h0
                obtain ⟨g2, cp2, e2, _⟩ := own_addr OB4.out h0
                simp only [Value.slice.injEq] at e1 e2
                refine ⟨g1, g2, e1.1, e2.1, fun i hi => ⟨?_, ?_⟩⟩
                · have := OA4.out.cells (g := g1) (by rw [e1.1]; rfl) i _ (show (ints (live ys))[i]? = some (.int .i64 ((live ys).getD i 0)) by simp [ints, hi, List.getD_eq_getElem?_getD])
                  rw [Addr.add_lit, Nat.zero_add] at this
                  exact this
                · have := OB4.out.cells (g := g2) (by rw [e2.1]; rfl) i _ (show (ints (live ys))[i]? = some (.int .i64 ((live ys).getD i 0)) by simp [ints, hi, List.getD_eq_getElem?_getD])
                  rw [Addr.add_lit, Nat.zero_add] at this
                  exact this))
              clear ob bb4 A2 OA OA4 OB4
              go_wp2_with fail
              refine SM.out.mono ?_; rintro e w5 ⟨rfl, nd, hw5⟩
              have S5 : Hid (St W w5 base g r gx a b (j + 1) ys u9 gs) := by
                subst hw5; exact S4.out.stepB ⟨rfl, rfl, rfl, Nat.le_refl _, fun _ _ => rfl⟩
              have L5 := Lib.hid (Ta.len_it S5.out.tab)
              clear hw5 SM
              generalize hll : (live ys).length = ll at *
              have HLL := Lib.hid hll
              clear hll
              go_wp2_with fail
              refine L5.out.mono ?_; rintro e w6 ⟨rfl, b6⟩
              have S6 := Lib.hid (S5.out.stepB b6)
              have A6 := Lib.hid (Rf.all_it S6.out.ref HFN.out)
              clear b6 L5
              go_wp2_with fail
              refine A6.out.mono ?_; rintro e w7 ⟨vc, rfl, oc, b7⟩
              have S7 := Lib.hid (S6.out.stepB b7)
              obtain ⟨a3, ca3, rfl⟩ := shape_of oc
              clear oc b7 A6
              rw [HLL.out]
              go_wp2_with fail
              go_roundg (300 - (j + 1))
              case measure => omega
              case rel => exact ⟨j + 1, by omega, by simp, ⟨_, _, S7.out⟩⟩
      · have hc : (j < len ∧ ¬ j < 300) ∨ ¬ j < len := by omega
        obtain ⟨xs, hs, S⟩ := H.out
        have HB := Lib.hid S.bel
        clear H S
        rcases hc with ⟨l1, l2⟩ | l1
        all_goals
          go_wp2_with fail
          go_ret
          exact ⟨rfl, HB.out⟩
end Go.Proofs.Ytbjlmhkjlipnmaa.Dw
