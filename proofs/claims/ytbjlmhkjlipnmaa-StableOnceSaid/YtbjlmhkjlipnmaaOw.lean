/- No handle is told twice, and one that was freed is nobody's: the law StableOnce answers true for every input. No condition. -/
import Derived.Test.YtbjlmhkjlipnmaaOn
import Derived.Test.YtbjlmhkjlipnmaaAg
set_option linter.unusedVariables false
set_option linter.unusedSimpArgs false
namespace Go.Proofs.Ytbjlmhkjlipnmaa.Ow
open Go.RowKit Go.WideShapes
open Sr Tb Tf Tg Tm Ta Fu Pu On
/-- Where the law stands. -/
structure St (W w : World) (base g r n : Nat) (j : Nat) (xs : List (Int × Int)) (va : Value) (told : List Int) (vb : Value) (gone : List Int) : Prop where
  tab : Tab w g r xs
  inv : Inv n xs told gone
  two : Two w base va told vb gone
  bel : Below W.heap.size W w
  siz : base ≤ w.heap.size
  old : W.heap.size ≤ base ∧ W.heap.size ≤ r
  gb : g < base ∧ r < base
  few : told.length ≤ j ∧ gone.length ≤ j
theorem free_bad {w : World} {g r : Nat} {xs : List (Int × Int)} (T : Tab w g r xs) (h : Int) (hm : h ≤ 9223372036854775807) (hg : ¬ good xs h) :
    Calls Try.prog 11 #[.pointer (some ⟨g, 0, none⟩), .int .i64 h] w fun e w' => e = .returned (.int .i64 60) ∧ w' = w := by
  have F := find_it T h hm
  rw [if_neg hg] at F
  rw [if_neg hg] at F
  have HF := Lib.hid F
  clear F hg
  go_enter Try.func11, Try.ntmps11
  go_wp2_with fail
  refine HF.out.mono ?_; rintro e w' ⟨rfl, rfl⟩
  go_wp2_with fail
  go_ret
  exact ⟨rfl, rfl⟩
theorem exists_free (xs : List (Int × Int)) : ∃ k, k ≤ xs.length ∧ (∀ i, i < k → (xs.getD i (0, 0)).1 ≠ 0) ∧ (k < xs.length → (xs.getD k (0, 0)).1 = 0) := by
  induction xs with
  | nil => exact ⟨0, Nat.le_refl _, fun i h => by omega, fun h => by simp at h⟩
  | cons x xs ih =>
    by_cases e : x.1 = 0
    · exact ⟨0, Nat.zero_le _, fun i h => by omega, fun _ => e⟩
    · obtain ⟨k, h1, h2, h3⟩ := ih
      refine ⟨k + 1, by simpa using h1, fun i hi => ?_, fun hk => h3 (by simpa using hk)⟩
      cases i with
      | zero => exact e
      | succ i => exact h2 i (by omega)
theorem St.turns {W w : World} {base g r n j : Nat} {xs : List (Int × Int)} {va vb : Value} {told gone : List Int} (S : St W w base g r n j xs va told vb gone) (hj : j ≤ 200) : ∀ q, q < xs.length → 0 ≤ (xs.getD q (0, 0)).2 ∧ (xs.getD q (0, 0)).2 ≤ 1099511627776 := fun q hq => by
  have := S.inv.turns q (by rw [← S.inv.len]; exact hq)
  have := S.few.2
  omega
theorem St.small {W w : World} {base g r n j : Nat} {xs : List (Int × Int)} {va vb : Value} {told gone : List Int} (S : St W w base g r n j xs va told vb gone) (hj : j ≤ 200) (h : Int) (hh : h ∈ told) : 0 ≤ h ∧ h ≤ 9223372036854775807 ∧ h % 256 < n := by
  obtain ⟨h0, h1, h2, _⟩ := S.inv.tell h hh
  have t := S.turns hj (h % 256).toNat (by rw [S.inv.len]; omega)
  omega
theorem St.next {W w : World} {base g r n j : Nat} {xs : List (Int × Int)} {va vb : Value} {told gone : List Int} (S : St W w base g r n j xs va told vb gone) : St W w base g r n (j + 1) xs va told vb gone := ⟨S.tab, S.inv, S.two, S.bel, S.siz, S.old, S.gb, by have := S.few; omega⟩
theorem getD_mem (l : List Int) (k : Nat) (h : k < l.length) : l.getD k 0 ∈ l := by
  rw [List.getD_eq_getElem?_getD, List.getElem?_eq_getElem h]; exact List.getElem_mem h
set_option maxHeartbeats 4000000 in
set_option maxRecDepth 20000 in
theorem law (W : World) (a : Int) (A : Option Addr) (len cap : Nat) (L : Nat → List Int) (R : Ag.Rows W A len [.i64, .i64] L) (a0 : 0 ≤ a) (a1 : a ≤ 255) :
    Calls Try.prog 3 #[.int .u8 a, .slice A len cap] W fun e W' => e = .returned (.bool true) ∧ Below W.heap.size W W' := by
  obtain ⟨i0, hi, hz0, hz1, hz2⟩ := info_parts info3
  obtain ⟨n, hn⟩ := Int.eq_ofNat_of_zero_le (show 0 ≤ a % 20 + 1 by omega)
  have hn2 : 1 ≤ n ∧ n ≤ 256 := by omega
  have e1 : a.tmod 20 = a % 20 := Int.tmod_eq_emod_of_nonneg a0
  have e2 : wrap64 (a % 20 + 1) = (n : Int) := by unfold wrap64; omega
  have e3 : wrap64 (a % 20) = a % 20 := by unfold wrap64; omega
  have NW := Lib.hid (new_it W n hn2.1 hn2.2)
  go_enter Try.func3, Try.ntmps3
  go_wp2_with fail
  refine NW.out.mono ?_; rintro e w1 ⟨g, r, rfl, T1, hg, hr, b1⟩
  have T1' := Lib.hid T1
  have B1 := Lib.hid b1
  clear T1 b1 e1 e2 e3
  go_wp2_with fail
  refine (Aw.awake_it _).mono ?_; rintro e w2 ⟨rfl, b2⟩
  have S0 : St W w2 w2.heap.size g r n 0 (List.replicate n (0, 1)) (.slice none 0 0) [] (.slice none 0 0) [] :=
    ⟨T1'.out.keepB b2, inv_start n hn2.1, Two.start _ _, Kit.stepB B1.out b2, Nat.le_refl _, ⟨Nat.le_trans B1.out.size b2.size, hr⟩, ⟨Nat.lt_of_lt_of_le (Kit.lt_of T1'.out.tab) b2.size, Nat.lt_of_lt_of_le (Kit.lt_of T1'.out.row) b2.size⟩, by simp⟩
  have HS0 := Lib.hid S0
  obtain ⟨base, hbase⟩ : ∃ base, base = w2.heap.size := ⟨_, rfl⟩
  rw [← hbase] at HS0
  clear S0 b2 T1' B1 hbase
  go_wp2_with fail
  go_loopw [7, 8, 9] (fun va vb c wr => ∃ j : Nat, (j ≤ len ∧ j ≤ 200) ∧ c = .int .i64 j ∧ Hid (∃ xs told gone, St W wr base g r n j xs va told vb gone)) (fun _ _ c _ => 200 - (intOf c).toNat)
  case atStart => exact ⟨0, by omega, rfl, ⟨_, _, _, HS0.out⟩⟩
  case round =>
    obtain ⟨j, ⟨hj, hj2⟩, rfl, H⟩ := hrel
    by_cases hlt : j < len ∧ j < 200
    · obtain ⟨l1, l2⟩ := hlt
      obtain ⟨xs, told, gone, S⟩ := H.out
      obtain ⟨b, off, rfl, hb, hc⟩ := R.cells (by omega)
      obtain ⟨hl, hc⟩ := hc j l1
      obtain ⟨x0, _, c0, _⟩ := hc 0 .i64 rfl
      obtain ⟨x1, _, c1, w1⟩ := hc 1 .i64 rfl
      obtain ⟨b10, b11⟩ := bounds_i64 w1
      have HB := Lib.hid S.bel
      have HS := Lib.hid S
      replace c0 := (HB.out.cell (p := ⟨b, off + (j * 2 + 0), none⟩) hb).trans c0
      replace c1 := (HB.out.cell (p := ⟨b, off + (j * 2 + 1), none⟩) hb).trans c1
      rw [Nat.add_zero] at c0
      rw [← Nat.add_assoc] at c1
      obtain ⟨aa, ca, rfl⟩ := shape_of S.two.one
      obtain ⟨ab, cb, rfl⟩ := shape_of S.two.two
      clear hc hl w1 S H
      by_cases k0 : x0 < 2
      · have e1 : decide (x0 < 2) = true := decide_eq_true k0
        obtain ⟨k, k1, k2, k3⟩ := exists_free xs
        have M := make_in HS.out.tab 7 (by decide) (HS.out.turns hj2) k k1 k2 k3
        have HM := Lib.hid M
        clear M
        by_cases kn : k < xs.length
        · have hkn : k < n := by rw [← HS.out.inv.len]; exact kn
          have FR := Lib.hid (HS.out.inv.fresh hn2.2 k hkn (k3 kn))
          have MD := Lib.hid (HS.out.inv.made hn2.2 k hkn (k3 kn))
          have K3 := Lib.hid k3
          have K2 := Lib.hid k2
          clear k3 k2
          go_wp2_with fail
          refine HM.out.mono ?_; rintro e w3 ⟨m3, h5⟩
          rw [if_pos kn] at h5
          obtain ⟨rfl, T3⟩ := h5
          obtain ⟨hh, hhh⟩ : ∃ hh, hh = (xs.getD k (0, 0)).2 * 256 + (k : Int) := ⟨_, rfl⟩
          rw [← hhh] at FR MD ⊢
          have hm : ∀ x, x ∈ [r] → x < base := fun x hx => by simp at hx; subst hx; exact HS.out.gb.2
          have D3 := HS.out.two.mod m3 hm
          have S3 := Nat.le_trans HS.out.siz m3.size
          have H3 := Lib.hid D3
          have HT3 := Lib.hid T3
          have B3 := Lib.hid (Kit.step1 HS.out.bel m3 HS.out.old.2)
          have fw0 := HS.out.few
          have cl := Lib.hid (fun (q : Nat) (hq : q < told.length) => fun (g' : Nat) (hg' : aa = some ⟨g', 0, none⟩) => D3.one.cells (g := g') (by rw [hg']; rfl) q _ (ints_get told q hq))
          have ad := Lib.hid (fun (h0 : 0 < told.length) => own_addr D3.one h0)
          clear hhh HM T3 m3 hm D3
          go_wp2_with fail
          go_loop [12] (fun c => ∃ q : Nat, q ≤ told.length ∧ c = .int .i64 q) (fun c => told.length - (intOf c).toNat)
          case atStart => exact ⟨0, Nat.zero_le _, rfl⟩
          case round =>
            obtain ⟨q, hq, rfl⟩ := hrel
            by_cases ql : q < told.length
            · obtain ⟨g', cp', ee, _⟩ := ad.out (by omega)
              simp only [Value.slice.injEq] at ee
              obtain ⟨rfl, _, rfl⟩ := ee
              have c := cl.out q ql g' rfl
              rw [Addr.add_lit, Nat.zero_add] at c
              have ne := FR.out (told.getD q 0) (getD_mem told q ql)
              have e2 : ((told.getD q 0) == hh) = false := by simpa using ne
              generalize told.getD q 0 = tq at c e2
              clear ne
              go_wp2_with fail
              go_round
              case rel => exact ⟨q + 1, by omega, by simp⟩
              case measure => simp [intOf]; omega
            · obtain rfl : q = told.length := by omega
              have fw := HS.out.few
              have MDc := MD
              clear MD
              go_wp2_with (at_builtin; go_loud (refine wpList_append_own_at _ rfl _ _ 28 rfl base 3 i0 (.int .i64 0) 1 8 Try.underlying28 hi hz0 hz1 hz2 rfl (by decide) _ _ _ rfl (H3.out.one.alloc _) ⟨w3.heap.size, 0, none⟩ 1 1 [.int .i64 hh] rfl rfl (cell_one_new _ _ _) (fun x hx => by simp at hx; subst hx; rfl) (by unfold maxLen; omega) (by omega) (by simp; omega) ?_))
              intro v' w4 hown' hgrow _ hat
              have D4 := Lib.hid (H3.out.push1 _ hh hown' hgrow (by simpa using hat))
              have hlo := H3.out.one.lt
              have hBt : Below base w3 w4 := ((Below.refl base w3).alloc S3 _).grown hgrow (by simp; omega) (fun q h => (hlo q h).1)
              have T4 := Lib.hid (tab_at HT3.out hBt HS.out.gb.1 HS.out.gb.2)
              have B4 := Lib.hid (B3.out.trans (hBt.mono HS.out.old.1))
              have S4 := Nat.le_trans S3 hBt.size
              clear hown' hgrow hat hBt hlo
              go_wp2_with fail
              go_roundw
              case rel => exact ⟨j + 1, by omega, by simp, ⟨_, _, _, ⟨T4.out, MDc.out, D4.out, B4.out, S4, HS.out.old, HS.out.gb, by simp; omega⟩⟩⟩
              case measure => simp [intOf]; omega
        · go_wp2_with fail
          refine HM.out.mono ?_; rintro e w3 ⟨m3, h5⟩
          rw [if_neg kn] at h5
          obtain ⟨rfl, T3⟩ := h5
          have hm : ∀ x, x ∈ [r] → x < base := fun x hx => by simp at hx; subst hx; exact HS.out.gb.2
          have S3 : St W w3 base g r n j xs (.slice aa told.length ca) told (.slice ab gone.length cb) gone := ⟨T3, HS.out.inv, HS.out.two.mod m3 hm, Kit.step1 HS.out.bel m3 HS.out.old.2, Nat.le_trans HS.out.siz m3.size, HS.out.old, HS.out.gb, HS.out.few⟩
          have HS3 := Lib.hid S3.next
          clear m3 T3 hm S3 HM HS
          go_wp2_with fail
          go_loop [12] (fun c => c = .int .i64 0) (fun c => 0)
          case atStart => rfl
          case round =>
            obtain rfl := hrel
            by_cases tz : 0 < told.length
            · go_wp2_with fail
              go_roundw
              case rel => exact ⟨j + 1, by omega, by simp, ⟨_, _, _, HS3.out⟩⟩
              case measure => simp [intOf]; omega
            · go_wp2_with fail
              go_roundw
              case rel => exact ⟨j + 1, by omega, by simp, ⟨_, _, _, HS3.out⟩⟩
              case measure => simp [intOf]; omega
      · have e1 : decide (x0 < 2) = false := decide_eq_false k0
        have fw0 := HS.out.few
        by_cases n1 : x1 < 0
        · have e2 : decide (0 ≤ x1) = false := decide_eq_false (by omega)
          have HX := Lib.hid HS.out.next
          clear HS
          go_wp2_with fail
          go_loop [14] (fun c => ∃ q : Nat, q ≤ gone.length ∧ c = .int .i64 q) (fun c => gone.length - (intOf c).toNat)
          case atStart => exact ⟨0, Nat.zero_le _, rfl⟩
          case round =>
            obtain ⟨q, hq, rfl⟩ := hrel
            have fw := HX.out.few
            by_cases ql : q < gone.length
            · obtain ⟨g', cp', ee, _⟩ := own_addr HX.out.two.two (by omega)
              simp only [Value.slice.injEq] at ee
              obtain ⟨rfl, _, rfl⟩ := ee
              have c := HX.out.two.two.cells (g := g') rfl q _ (ints_get gone q ql)
              rw [Addr.add_lit, Nat.zero_add] at c
              have st := HX.out.inv.stale _ (getD_mem gone q ql)
              have gw := HX.out.inv.went _ (getD_mem gone q ql)
              have tu := HX.out.turns (by omega) (gone.getD q 0 % 256).toNat (by rw [HX.out.inv.len]; omega)
              have bd : gone.getD q 0 ≤ 9223372036854775807 := by omega
              have G := get_it HX.out.tab (gone.getD q 0) bd
              rw [if_neg st, if_neg st] at G
              have F := free_bad HX.out.tab (gone.getD q 0) bd st
              have HG := Lib.hid G
              have HF := Lib.hid F
              clear G F gw tu bd st
              generalize gone.getD q 0 = gq at c HG HF
              go_wp2_with fail
              refine HG.out.mono ?_; rintro e w8 ⟨rfl, rfl⟩
              go_wp2_with fail
              refine HF.out.mono ?_; rintro e w8 ⟨rfl, rfl⟩
              go_wp2_with fail
              go_round
              case rel => exact ⟨q + 1, by omega, by simp⟩
              case measure => simp [intOf]; omega
            · obtain rfl : q = gone.length := by omega
              go_wp2_with fail
              go_roundw
              case rel => exact ⟨j + 1, by omega, by simp, ⟨_, _, _, HX.out⟩⟩
              case measure => simp [intOf]; omega
        · by_cases n2 : (told.length : Int) ≤ x1
          · have e2 : decide (0 ≤ x1) = true := decide_eq_true (by omega)
            have e3 : decide (x1 < (told.length : Int)) = false := decide_eq_false (by omega)
            have HX := Lib.hid HS.out.next
            clear HS
            go_wp2_with fail
            go_loop [14] (fun c => ∃ q : Nat, q ≤ gone.length ∧ c = .int .i64 q) (fun c => gone.length - (intOf c).toNat)
            case atStart => exact ⟨0, Nat.zero_le _, rfl⟩
            case round =>
              obtain ⟨q, hq, rfl⟩ := hrel
              have fw := HX.out.few
              by_cases ql : q < gone.length
              · obtain ⟨g', cp', ee, _⟩ := own_addr HX.out.two.two (by omega)
                simp only [Value.slice.injEq] at ee
                obtain ⟨rfl, _, rfl⟩ := ee
                have c := HX.out.two.two.cells (g := g') rfl q _ (ints_get gone q ql)
                rw [Addr.add_lit, Nat.zero_add] at c
                have st := HX.out.inv.stale _ (getD_mem gone q ql)
                have gw := HX.out.inv.went _ (getD_mem gone q ql)
                have tu := HX.out.turns (by omega) (gone.getD q 0 % 256).toNat (by rw [HX.out.inv.len]; omega)
                have bd : gone.getD q 0 ≤ 9223372036854775807 := by omega
                have G := get_it HX.out.tab (gone.getD q 0) bd
                rw [if_neg st, if_neg st] at G
                have F := free_bad HX.out.tab (gone.getD q 0) bd st
                have HG := Lib.hid G
                have HF := Lib.hid F
                clear G F gw tu bd st
                generalize gone.getD q 0 = gq at c HG HF
                go_wp2_with fail
                refine HG.out.mono ?_; rintro e w8 ⟨rfl, rfl⟩
                go_wp2_with fail
                refine HF.out.mono ?_; rintro e w8 ⟨rfl, rfl⟩
                go_wp2_with fail
                go_round
                case rel => exact ⟨q + 1, by omega, by simp⟩
                case measure => simp [intOf]; omega
              · obtain rfl : q = gone.length := by omega
                go_wp2_with fail
                go_roundw
                case rel => exact ⟨j + 1, by omega, by simp, ⟨_, _, _, HX.out⟩⟩
                case measure => simp [intOf]; omega
          · obtain ⟨k, rfl⟩ := Int.eq_ofNat_of_zero_le (show 0 ≤ x1 by omega)
            have kl : k < told.length := by omega
            obtain ⟨g1, cp1, ee, _⟩ := own_addr HS.out.two.one (by omega)
            simp only [Value.slice.injEq] at ee
            obtain ⟨rfl, _, rfl⟩ := ee
            have ct := HS.out.two.one.cells (g := g1) rfl k _ (ints_get told k kl)
            rw [Addr.add_lit, Nat.zero_add] at ct
            have sm := HS.out.small hj2 _ (getD_mem told k kl)
            obtain ⟨h, hh⟩ : ∃ h, h = told.getD k 0 := ⟨_, rfl⟩
            have hm : h ∈ told := by rw [hh]; exact getD_mem told k kl
            rw [← hh] at ct sm
            have HH := Lib.hid hh
            clear hh
            by_cases gd : good xs h
            · have F := free_it HS.out.tab h sm.2.1 (HS.out.turns hj2)
              rw [if_pos gd] at F
              have HF := Lib.hid F
              have MD := Lib.hid (HS.out.inv.freed hn2.2 h hm gd)
              clear F gd hm
              go_wp2_with fail
              refine HF.out.mono ?_; rintro e w3 ⟨rfl, T3, m3⟩
              have hm : ∀ x, x ∈ [r] → x < base := fun x hx => by simp at hx; subst hx; exact HS.out.gb.2
              have D3 := HS.out.two.mod m3 hm
              have S3 := Nat.le_trans HS.out.siz m3.size
              have H3 := Lib.hid D3
              have HT3 := Lib.hid T3
              have B3 := Lib.hid (Kit.step1 HS.out.bel m3 HS.out.old.2)
              have ct3 := D3.one.cells (g := g1) rfl k _ (ints_get told k kl)
              rw [Addr.add_lit, Nat.zero_add, ← HH.out] at ct3
              clear T3 m3 hm D3 HF ct
              go_wp2_with (at_builtin; go_loud (refine wpList_append_own_at _ rfl _ _ 28 rfl base 3 i0 (.int .i64 0) 1 8 Try.underlying28 hi hz0 hz1 hz2 rfl (by decide) _ _ _ rfl (H3.out.two.alloc _) ⟨w3.heap.size, 0, none⟩ 1 1 [.int .i64 h] rfl rfl (cell_one_new _ _ _) (fun x hx => by simp at hx; subst hx; rfl) (by unfold maxLen; omega) (by omega) (by simp; omega) ?_))
              intro v' w4 hown' hgrow _ hat
              have D4 := H3.out.push2 _ h hown' hgrow (by simpa using hat)
              have hlo := H3.out.two.lt
              have hBt : Below base w3 w4 := ((Below.refl base w3).alloc S3 _).grown hgrow (by simp; omega) (fun q h => (hlo q h).1)
              have S5 : St W w4 base g r n (j + 1) (freed xs h) (.slice (some ⟨g1, 0, none⟩) told.length ca) told v' (gone ++ [h]) :=
                ⟨tab_at HT3.out hBt HS.out.gb.1 HS.out.gb.2, MD.out, D4, B3.out.trans (hBt.mono HS.out.old.1), Nat.le_trans S3 hBt.size, HS.out.old, HS.out.gb, by simp; omega⟩
              have HX := Lib.hid S5
              obtain ⟨av, cv, rfl⟩ := shape_of D4.two
              clear hown' hgrow hat hBt hlo S5 D4 H3 HT3 B3 MD HS ct3
              generalize hgn : gone ++ [h] = gn at HX ⊢
              clear hgn
              go_wp2_with fail
              go_loop [14] (fun c => ∃ q : Nat, q ≤ gn.length ∧ c = .int .i64 q) (fun c => gn.length - (intOf c).toNat)
              case atStart => exact ⟨0, Nat.zero_le _, rfl⟩
              case round =>
                obtain ⟨q, hq, rfl⟩ := hrel
                have fw := HX.out.few
                by_cases ql : q < gn.length
                · obtain ⟨g', cp', ee, _⟩ := own_addr HX.out.two.two (by omega)
                  simp only [Value.slice.injEq] at ee
                  obtain ⟨rfl, _, rfl⟩ := ee
                  have c := HX.out.two.two.cells (g := g') rfl q _ (ints_get gn q ql)
                  rw [Addr.add_lit, Nat.zero_add] at c
                  have st := HX.out.inv.stale _ (getD_mem gn q ql)
                  have gw := HX.out.inv.went _ (getD_mem gn q ql)
                  have tu := HX.out.turns (by omega) (gn.getD q 0 % 256).toNat (by rw [HX.out.inv.len]; omega)
                  have bd : gn.getD q 0 ≤ 9223372036854775807 := by omega
                  have G := get_it HX.out.tab (gn.getD q 0) bd
                  rw [if_neg st, if_neg st] at G
                  have F := free_bad HX.out.tab (gn.getD q 0) bd st
                  have HG := Lib.hid G
                  have HF := Lib.hid F
                  clear G F gw tu bd st
                  generalize gn.getD q 0 = gq at c HG HF
                  go_wp2_with fail
                  refine HG.out.mono ?_; rintro e w8 ⟨rfl, rfl⟩
                  go_wp2_with fail
                  refine HF.out.mono ?_; rintro e w8 ⟨rfl, rfl⟩
                  go_wp2_with fail
                  go_round
                  case rel => exact ⟨q + 1, by omega, by simp⟩
                  case measure => simp [intOf]; omega
                · obtain rfl : q = gn.length := by omega
                  go_wp2_with fail
                  go_roundw
                  case rel => exact ⟨j + 1, by omega, by simp, ⟨_, _, _, HX.out⟩⟩
                  case measure => simp [intOf]; omega
            · have HF := Lib.hid (free_bad HS.out.tab h sm.2.1 gd)
              have HX := Lib.hid HS.out.next
              clear gd hm HS
              go_wp2_with fail
              refine HF.out.mono ?_; rintro e w3 ⟨rfl, rfl⟩
              go_wp2_with fail
              go_loop [14] (fun c => ∃ q : Nat, q ≤ gone.length ∧ c = .int .i64 q) (fun c => gone.length - (intOf c).toNat)
              case atStart => exact ⟨0, Nat.zero_le _, rfl⟩
              case round =>
                obtain ⟨q, hq, rfl⟩ := hrel
                have fw := HX.out.few
                by_cases ql : q < gone.length
                · obtain ⟨g', cp', ee, _⟩ := own_addr HX.out.two.two (by omega)
                  simp only [Value.slice.injEq] at ee
                  obtain ⟨rfl, _, rfl⟩ := ee
                  have c := HX.out.two.two.cells (g := g') rfl q _ (ints_get gone q ql)
                  rw [Addr.add_lit, Nat.zero_add] at c
                  have st := HX.out.inv.stale _ (getD_mem gone q ql)
                  have gw := HX.out.inv.went _ (getD_mem gone q ql)
                  have tu := HX.out.turns (by omega) (gone.getD q 0 % 256).toNat (by rw [HX.out.inv.len]; omega)
                  have bd : gone.getD q 0 ≤ 9223372036854775807 := by omega
                  have G := get_it HX.out.tab (gone.getD q 0) bd
                  rw [if_neg st, if_neg st] at G
                  have F := free_bad HX.out.tab (gone.getD q 0) bd st
                  have HG := Lib.hid G
                  have HF := Lib.hid F
                  clear G F gw tu bd st
                  generalize gone.getD q 0 = gq at c HG HF
                  go_wp2_with fail
                  refine HG.out.mono ?_; rintro e w8 ⟨rfl, rfl⟩
                  go_wp2_with fail
                  refine HF.out.mono ?_; rintro e w8 ⟨rfl, rfl⟩
                  go_wp2_with fail
                  go_round
                  case rel => exact ⟨q + 1, by omega, by simp⟩
                  case measure => simp [intOf]; omega
                · obtain rfl : q = gone.length := by omega
                  go_wp2_with fail
                  go_roundw
                  case rel => exact ⟨j + 1, by omega, by simp, ⟨_, _, _, HX.out⟩⟩
                  case measure => simp [intOf]; omega
    · obtain ⟨xs, told, gone, S⟩ := H.out
      have fw := S.few
      have HS := Lib.hid S
      have ln := len_it S.tab
      have cnt := S.inv.count
      rw [show ((live xs).length : Int) = (told.length : Int) - (gone.length : Int) by omega] at ln
      have HL := Lib.hid ln
      obtain ⟨aa, ca, rfl⟩ := shape_of S.two.one
      obtain ⟨ab, cb, rfl⟩ := shape_of S.two.two
      have w0 : wrap64 ((told.length : Int) - (gone.length : Int)) = (told.length : Int) - (gone.length : Int) := by unfold wrap64; omega
      have w1 : (((told.length : Int) - (gone.length : Int)) == ((told.length : Int) - (gone.length : Int))) = true := by simp
      clear ln cnt S H
      have fin : ∀ w', Below wr.heap.size wr w' → Below W.heap.size W w' := fun w' hb => Kit.stepB HS.out.bel hb
      have HFin := Lib.hid fin
      clear fin
      by_cases l1 : j < len
      · have l2 : ¬ j < 200 := by omega
        go_wp2_with fail
        refine HL.out.mono ?_; rintro e w3 ⟨rfl, b3⟩
        have B3 := Lib.hid (HFin.out _ b3)
        clear b3
        go_wp2_with fail
        go_ret
        exact ⟨rfl, B3.out⟩
      · go_wp2_with fail
        refine HL.out.mono ?_; rintro e w3 ⟨rfl, b3⟩
        have B3 := Lib.hid (HFin.out _ b3)
        clear b3
        go_wp2_with fail
        go_ret
        exact ⟨rfl, B3.out⟩
end Go.Proofs.Ytbjlmhkjlipnmaa.Ow
