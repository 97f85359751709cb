/- Map: every address is turned by a number. No condition. -/
import Derived.Test.YtbjlmhkjlipnmaaTa
set_option linter.unusedVariables false
set_option linter.unusedSimpArgs false
namespace Go.Proofs.Ytbjlmhkjlipnmaa.Tp
open Go.RowKit
open Sr Tb Tf Tg
/-- An address turned by a number. -/
def byV (x n : Int) : Int := if n < 0 ∨ 524288 < n then 0 else x + n
theorem by_it (w : World) (x n : Int) (h1 : -4611686018427387904 ≤ x) (h2 : x ≤ 4611686018427387904) : Calls Try.prog 16 #[.int .i64 x, .int .i64 n] w fun e w' => e = .returned (.int .i64 (byV x n)) ∧ w' = w := by
  unfold byV
  by_cases c1 : n < 0
  · rw [if_pos (.inl c1)]
    have e1 : decide (n < 0) = true := decide_eq_true c1
    go_enter Try.func16, Try.ntmps16
    go_wp2_with fail
    go_ret
    exact ⟨rfl, rfl⟩
  · by_cases c2 : 524288 < n
    · rw [if_pos (.inr c2)]
      have e1 : decide (n < 0) = false := decide_eq_false c1
      have e2 : decide (524288 < n) = true := decide_eq_true c2
      go_enter Try.func16, Try.ntmps16
      go_wp2_with fail
      go_ret
      exact ⟨rfl, rfl⟩
    · rw [if_neg (show ¬ (n < 0 ∨ 524288 < n) by omega)]
      have e1 : decide (n < 0) = false := decide_eq_false c1
      have e2 : decide (524288 < n) = false := decide_eq_false c2
      have e3 : wrap64 (x + n) = x + n := by unfold wrap64; omega
      go_enter Try.func16, Try.ntmps16
      go_wp2_with fail
      go_ret
      exact ⟨rfl, rfl⟩
/-- What a slot becomes. -/
def turn1 (n : Int) (p : Int × Int) : Int × Int := if p.1 ≠ 0 ∧ 1 ≤ byV p.1 n ∧ byV p.1 n ≤ 524288 then (byV p.1 n, p.2) else p
def turned (n : Int) (xs : List (Int × Int)) : List (Int × Int) := xs.map (turn1 n)
def half (n : Int) (xs : List (Int × Int)) (j : Nat) : List (Int × Int) := turned n (xs.take j) ++ xs.drop j
theorem half_length (n : Int) (xs : List (Int × Int)) (j : Nat) : (half n xs j).length = xs.length := by simp [half, turned]; omega
theorem half_get (n : Int) (xs : List (Int × Int)) (j : Nat) (h : j < xs.length) : (half n xs j).getD j (0, 0) = xs.getD j (0, 0) := by
  unfold half turned
  simp only [List.getD_eq_getElem?_getD]
  rw [List.getElem?_append_right (by simp; omega)]
  simp [Nat.min_eq_left (Nat.le_of_lt h)]
theorem half_succ (n : Int) (xs : List (Int × Int)) (j : Nat) (h : j < xs.length) : half n xs (j + 1) = (half n xs j).set j (turn1 n (xs.getD j (0, 0))) := by
  unfold half turned
  rw [List.take_succ_eq_append_getElem h, List.map_append, List.drop_eq_getElem_cons h, List.set_append_right _ _ (by simp; omega)]
  simp [Nat.min_eq_left (Nat.le_of_lt h), List.getD_eq_getElem?_getD, h]
  rw [List.drop_eq_getElem_cons h]
  rfl
theorem half_same (n : Int) (xs : List (Int × Int)) (j : Nat) (h : j < xs.length) (e : turn1 n (xs.getD j (0, 0)) = xs.getD j (0, 0)) : half n xs (j + 1) = half n xs j := by
  rw [half_succ n xs j h, e, ← half_get n xs j h]
  have hl : j < (half n xs j).length := by rw [half_length]; exact h
  rw [List.getD_eq_getElem?_getD, List.getElem?_eq_getElem hl, Option.getD_some, List.set_getElem_self]
theorem half_end (n : Int) (xs : List (Int × Int)) : half n xs xs.length = turned n xs := by simp [half]
theorem half_zero (n : Int) (xs : List (Int × Int)) : half n xs 0 = xs := by simp [half, turned]
theorem hnil (f : Fn) (a b : Array Value) (w : World) : Sem.run Try.prog (binOp BinOp.eql 39 (.func f a b) .nilFunc) w = .ok (.bool false) w := by kernel_rfl
theorem hnil2 (w : World) : Sem.run Try.prog (binOp BinOp.eql 39 .nilFunc .nilFunc) w = .ok (.bool true) w := by kernel_rfl
section
variable {w : World} {g r : Nat} {xs : List (Int × Int)}
theorem clo15_it (w : World) (Bn : Nat) (x n : Int) (hb : w.heap[Bn]? = some (.cells #[.int .i64 n] 3 (0, 0))) (h1 : -4611686018427387904 ≤ x) (h2 : x ≤ 4611686018427387904) :
    Calls Try.prog 15 #[.int .i64 x, .pointer (some ⟨Bn, 0, none⟩)] w fun e w' => e = .returned (.int .i64 (byV x n)) ∧ w' = w := by
  have B := Lib.hid (by_it w x n h1 h2)
  have c := Kit.cells1 hb
  go_enter Try.func15, Try.ntmps15
  go_wp2_with fail
  refine B.out.mono ?_; rintro e w' ⟨rfl, rfl⟩
  go_wp2_with fail
  go_ret
  exact ⟨rfl, rfl⟩
theorem map15_it (T : Tab w g r xs) (Bn : Nat) (n : Int) (hb : w.heap[Bn]? = some (.cells #[.int .i64 n] 3 (0, 0))) (hr : Bn ≠ r) (hx : ∀ j, j < xs.length → 0 ≤ (xs.getD j (0, 0)).1 ∧ (xs.getD j (0, 0)).1 ≤ 524288) :
    Calls Try.prog 14 #[.pointer (some ⟨g, 0, none⟩), .func (.func 15) #[] #[.pointer (some ⟨Bn, 0, none⟩)]] w fun e w' => e = .returned (.tuple #[]) ∧ Tab w' g r (turned n xs) ∧ Kit.Mod [r] w w' := by
  have hnil := hnil
  have ct := Kit.cells1 T.tab
  have HT := Lib.hid T
  have HB := Lib.hid hb
  have HX := Lib.hid hx
  have hs := T.short
  clear T hb hx
  go_enter Try.func14, Try.ntmps14
  go_wp2_with fail
  go_loopw [18] (fun c wr => ∃ j : Nat, j ≤ xs.length ∧ c = .int .i64 j ∧ Hid (Tab wr g r (half n xs j)) ∧ Hid (Kit.Mod [r] w wr)) (fun c _ => xs.length - (intOf c).toNat)
  case atStart => exact ⟨0, Nat.zero_le _, rfl, Lib.hid (by rw [half_zero]; exact HT.out), Kit.Mod.refl _ _⟩
  case round =>
    obtain ⟨j, hj, rfl, O, H⟩ := hrel
    by_cases hlt : j < xs.length
    · have hl2 : j < (half n xs j).length := by rw [half_length]; exact hlt
      have cr := Kit.cells1 O.out.tab
      obtain ⟨c1, c2⟩ := Sr.cell O.out.row j hl2
      rw [half_get n xs j hlt] at c1 c2
      rw [half_length] at cr
      have hxj := HX.out j hlt
      obtain ⟨p, hp⟩ : ∃ p, p = xs.getD j (0, 0) := ⟨_, rfl⟩
      rw [← hp] at c1 c2 hxj
      have HP := Lib.hid hp
      clear hp
      obtain ⟨at1, tn⟩ := p
      dsimp only at c1 c2 hxj
      by_cases e : at1 = 0
      · subst e
        go_wp2_with fail
        go_roundw
        case rel =>
          refine ⟨j + 1, by omega, by simp, Lib.hid ?_, Lib.hid (H.out.alloc _)⟩
          rw [half_same n xs j hlt (by rw [← HP.out]; simp [turn1])]
          exact O.out.keep (Kit.Mod.alloc (Kit.Mod.refl [] _) _) (by simp) (by simp)
        case measure => simp [intOf]; omega
      · have e1 : (at1 == 0) = false := by simp [e]
        have e2 : (at1 = 0) = False := eq_false e
        have C := clo15_it (wr.alloc (.cells #[.int .i64 at1, .int .i64 tn] 54 (0, 0))) Bn at1 n (Kit.keep_alloc (Kit.keep HB.out H.out (by simp [hr])) _) (by omega) (by omega)
        have HC := Lib.hid C
        have A := address_it (wr.alloc (.cells #[.int .i64 at1, .int .i64 tn] 54 (0, 0))) (byV at1 n)
        have TA := O.out.keep (Kit.Mod.alloc (Kit.Mod.refl [] wr) (.cells #[.int .i64 at1, .int .i64 tn] 54 (0, 0))) (by simp) (by simp)
        have da := Kit.cells1 TA.tab
        rw [half_length] at da
        have db := (Sr.cell TA.row j hl2).1
        have df := Sr.frozen TA.row (j * 2)
        have HTA := Lib.hid TA
        have hb0 : turn1 n (at1, tn) = if 1 ≤ byV at1 n ∧ byV at1 n ≤ 524288 then (byV at1 n, tn) else (at1, tn) := by simp [turn1, e]
        clear C TA
        generalize byV at1 n = q at HC A hb0
        by_cases ok : 1 ≤ q ∧ q ≤ 524288
        · rw [decide_eq_true ok] at A
          rw [if_pos ok] at hb0
          have HA := Lib.hid A
          have HQ := Lib.hid hb0
          clear A hb0
          go_wp2_with fail
          refine HC.out.mono ?_; rintro e w3 ⟨rfl, rfl⟩
          go_wp2_with fail
          refine HA.out.mono ?_; rintro e w4 ⟨rfl, rfl⟩
          go_wp2_with fail
          go_roundw
          case rel =>
            refine ⟨j + 1, by omega, by simp, Lib.hid ?_, Lib.hid ((H.out.alloc _).setCell (.inl (by simp)) _)⟩
            rw [half_succ n xs j hlt, ← HP.out, HQ.out]
            have := HTA.out.put1 j hl2 q
            rw [half_get n xs j hlt, ← HP.out] at this
            exact this
          case measure => simp [intOf]; omega
        · rw [decide_eq_false ok] at A
          rw [if_neg ok] at hb0
          have HA := Lib.hid A
          have HQ := Lib.hid hb0
          clear A hb0
          go_wp2_with fail
          refine HC.out.mono ?_; rintro e w3 ⟨rfl, rfl⟩
          go_wp2_with fail
          refine HA.out.mono ?_; rintro e w4 ⟨rfl, rfl⟩
          go_wp2_with fail
          go_roundw
          case rel =>
            refine ⟨j + 1, by omega, by simp, Lib.hid ?_, Lib.hid (H.out.alloc _)⟩
            rw [half_same n xs j hlt (by rw [← HP.out]; exact HQ.out)]
            exact HTA.out
          case measure => simp [intOf]; omega
    · obtain rfl : j = xs.length := by omega
      rw [half_end] at O
      go_wp2_with fail
      go_end0
      exact ⟨rfl, O.out, H.out⟩
theorem clo21_it (w : World) (Bn : Nat) (x n : Int) (hb : w.heap[Bn]? = some (.cells #[.int .i64 n] 3 (0, 0))) (h1 : -4611686018427387904 ≤ x) (h2 : x ≤ 4611686018427387904) :
    Calls Try.prog 21 #[.int .i64 x, .pointer (some ⟨Bn, 0, none⟩)] w fun e w' => e = .returned (.int .i64 (byV x n)) ∧ w' = w := by
  have B := Lib.hid (by_it w x n h1 h2)
  have c := Kit.cells1 hb
  go_enter Try.func21, Try.ntmps21
  go_wp2_with fail
  refine B.out.mono ?_; rintro e w' ⟨rfl, rfl⟩
  go_wp2_with fail
  go_ret
  exact ⟨rfl, rfl⟩
theorem map21_it (T : Tab w g r xs) (Bn : Nat) (n : Int) (hb : w.heap[Bn]? = some (.cells #[.int .i64 n] 3 (0, 0))) (hr : Bn ≠ r) (hx : ∀ j, j < xs.length → 0 ≤ (xs.getD j (0, 0)).1 ∧ (xs.getD j (0, 0)).1 ≤ 524288) :
    Calls Try.prog 14 #[.pointer (some ⟨g, 0, none⟩), .func (.func 21) #[] #[.pointer (some ⟨Bn, 0, none⟩)]] w fun e w' => e = .returned (.tuple #[]) ∧ Tab w' g r (turned n xs) ∧ Kit.Mod [r] w w' := by
  have hnil := hnil
  have ct := Kit.cells1 T.tab
  have HT := Lib.hid T
  have HB := Lib.hid hb
  have HX := Lib.hid hx
  have hs := T.short
  clear T hb hx
  go_enter Try.func14, Try.ntmps14
  go_wp2_with fail
  go_loopw [18] (fun c wr => ∃ j : Nat, j ≤ xs.length ∧ c = .int .i64 j ∧ Hid (Tab wr g r (half n xs j)) ∧ Hid (Kit.Mod [r] w wr)) (fun c _ => xs.length - (intOf c).toNat)
  case atStart => exact ⟨0, Nat.zero_le _, rfl, Lib.hid (by rw [half_zero]; exact HT.out), Kit.Mod.refl _ _⟩
  case round =>
    obtain ⟨j, hj, rfl, O, H⟩ := hrel
    by_cases hlt : j < xs.length
    · have hl2 : j < (half n xs j).length := by rw [half_length]; exact hlt
      have cr := Kit.cells1 O.out.tab
      obtain ⟨c1, c2⟩ := Sr.cell O.out.row j hl2
      rw [half_get n xs j hlt] at c1 c2
      rw [half_length] at cr
      have hxj := HX.out j hlt
      obtain ⟨p, hp⟩ : ∃ p, p = xs.getD j (0, 0) := ⟨_, rfl⟩
      rw [← hp] at c1 c2 hxj
      have HP := Lib.hid hp
      clear hp
      obtain ⟨at1, tn⟩ := p
      dsimp only at c1 c2 hxj
      by_cases e : at1 = 0
      · subst e
        go_wp2_with fail
        go_roundw
        case rel =>
          refine ⟨j + 1, by omega, by simp, Lib.hid ?_, Lib.hid (H.out.alloc _)⟩
          rw [half_same n xs j hlt (by rw [← HP.out]; simp [turn1])]
          exact O.out.keep (Kit.Mod.alloc (Kit.Mod.refl [] _) _) (by simp) (by simp)
        case measure => simp [intOf]; omega
      · have e1 : (at1 == 0) = false := by simp [e]
        have e2 : (at1 = 0) = False := eq_false e
        have C := clo21_it (wr.alloc (.cells #[.int .i64 at1, .int .i64 tn] 54 (0, 0))) Bn at1 n (Kit.keep_alloc (Kit.keep HB.out H.out (by simp [hr])) _) (by omega) (by omega)
        have HC := Lib.hid C
        have A := address_it (wr.alloc (.cells #[.int .i64 at1, .int .i64 tn] 54 (0, 0))) (byV at1 n)
        have TA := O.out.keep (Kit.Mod.alloc (Kit.Mod.refl [] wr) (.cells #[.int .i64 at1, .int .i64 tn] 54 (0, 0))) (by simp) (by simp)
        have da := Kit.cells1 TA.tab
        rw [half_length] at da
        have db := (Sr.cell TA.row j hl2).1
        have df := Sr.frozen TA.row (j * 2)
        have HTA := Lib.hid TA
        have hb0 : turn1 n (at1, tn) = if 1 ≤ byV at1 n ∧ byV at1 n ≤ 524288 then (byV at1 n, tn) else (at1, tn) := by simp [turn1, e]
        clear C TA
        generalize byV at1 n = q at HC A hb0
        by_cases ok : 1 ≤ q ∧ q ≤ 524288
        · rw [decide_eq_true ok] at A
          rw [if_pos ok] at hb0
          have HA := Lib.hid A
          have HQ := Lib.hid hb0
          clear A hb0
          go_wp2_with fail
          refine HC.out.mono ?_; rintro e w3 ⟨rfl, rfl⟩
          go_wp2_with fail
          refine HA.out.mono ?_; rintro e w4 ⟨rfl, rfl⟩
          go_wp2_with fail
          go_roundw
          case rel =>
            refine ⟨j + 1, by omega, by simp, Lib.hid ?_, Lib.hid ((H.out.alloc _).setCell (.inl (by simp)) _)⟩
            rw [half_succ n xs j hlt, ← HP.out, HQ.out]
            have := HTA.out.put1 j hl2 q
            rw [half_get n xs j hlt, ← HP.out] at this
            exact this
          case measure => simp [intOf]; omega
        · rw [decide_eq_false ok] at A
          rw [if_neg ok] at hb0
          have HA := Lib.hid A
          have HQ := Lib.hid hb0
          clear A hb0
          go_wp2_with fail
          refine HC.out.mono ?_; rintro e w3 ⟨rfl, rfl⟩
          go_wp2_with fail
          refine HA.out.mono ?_; rintro e w4 ⟨rfl, rfl⟩
          go_wp2_with fail
          go_roundw
          case rel =>
            refine ⟨j + 1, by omega, by simp, Lib.hid ?_, Lib.hid (H.out.alloc _)⟩
            rw [half_same n xs j hlt (by rw [← HP.out]; exact HQ.out)]
            exact HTA.out
          case measure => simp [intOf]; omega
    · obtain rfl : j = xs.length := by omega
      rw [half_end] at O
      go_wp2_with fail
      go_end0
      exact ⟨rfl, O.out, H.out⟩
theorem mapNil_it (g : Nat) : Calls Try.prog 14 #[.pointer (some ⟨g, 0, none⟩), .nilFunc] w fun e w' => e = .returned (.tuple #[]) ∧ w' = w := by
  have hnil2 := hnil2
  go_enter Try.func14, Try.ntmps14
  go_wp2_with fail
  refine bodyPost_ret (results_none rfl _ _ _) rfl ?_
  exact ⟨rfl, rfl⟩
end
end Go.Proofs.Ytbjlmhkjlipnmaa.Tp
