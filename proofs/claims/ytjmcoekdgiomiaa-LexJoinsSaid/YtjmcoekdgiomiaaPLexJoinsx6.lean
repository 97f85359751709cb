-- laid by a program of this seat, on the kit's print, over contracts written by hand
import Derived.Test.YtjmcoekdgiomiaaPLexJoinsx0
import Derived.Test.YtjmcoekdgiomiaaPLexJoinsx1
import Derived.Test.YtjmcoekdgiomiaaPLexJoinsx5
namespace Go.Proofs.Ytjmcoekdgiomiaa.PLexJoins
open Go.RowKit Go.Proofs.YtjmcoekdgiomiaaW.PrintWords Go.Proofs.YtjmcoekdgiomiaaW.PrintLast Go.Proofs.YtjmcoekdgiomiaaW.PrintMore
attribute [local go_sem] max2_int min2_int max_two min_two max_three min_three max_four min_four   -- for this text's walks alone
set_option linter.unusedVariables false
set_option linter.unusedSimpArgs false

/-! ### middenref05_Run: function 38 -/
def middenref05_Run.l0 : Nat → ByteArray → Int → Option (Int)
  | 0, _, _ => none
  | k + 1, x0, x1 => if x1 < (x0.size : Int) then (if 0 ≤ x1 then ((middenref05_small.f (bt x0 x1)).bind fun t221 => (if t221 = true then (middenref05_Run.l0 k x0 (wrap64 (x1 + 1))) else ((middenref05_large.f (bt x0 x1)).bind fun t222 => (if t222 = true then (middenref05_Run.l0 k x0 (wrap64 (x1 + 1))) else ((middenref05_digit.f (bt x0 x1)).bind fun t223 => (if t223 = true then (middenref05_Run.l0 k x0 (wrap64 (x1 + 1))) else (if (bt x0 x1) = 95 then (middenref05_Run.l0 k x0 (wrap64 (x1 + 1))) else (some x1)))))))) else (none)) else (some x1)
def middenref05_Run.f (k : Nat) (a0 : ByteArray) (a1 : Int) : Option (Int) := middenref05_Run.l0 k a0 a1
theorem middenref05_Run.mono_l : ∀ k, (∀ y0 y1, LeO (middenref05_Run.l0 k y0 y1) (middenref05_Run.l0 (k + 1) y0 y1))
  | 0 => fun _ _ r h => by simp [middenref05_Run.l0] at h
  | k + 1 => by
    have ih0 := middenref05_Run.mono_l k
    · intro y0 y1
      unfold middenref05_Run.l0
      repeat' first
      | (with_reducible exact ih0 _ _)
      | (with_reducible exact LeO.refl _)
      | (with_reducible exact LeO.none _)
      | (with_reducible refine LeO.ite ?_ ?_)
      | (with_reducible refine LeO.bind ?_ (fun _ => ?_))
      | exact ih0 _ _
      | exact LeO.none _
      | refine LeO.ite ?_ ?_
      | refine LeO.bind ?_ (fun _ => ?_)
theorem middenref05_Run.mono : ∀ a0 a1 k, LeO (middenref05_Run.f k a0 a1) (middenref05_Run.f (k + 1) a0 a1) := by
  intro a0 a1 k
  have ih0 := middenref05_Run.mono_l k
  unfold middenref05_Run.f
  repeat' first
      | (with_reducible exact ih0 _ _)
      | (with_reducible exact LeO.refl _)
      | (with_reducible exact LeO.none _)
      | (with_reducible refine LeO.ite ?_ ?_)
      | (with_reducible refine LeO.bind ?_ (fun _ => ?_))
      | exact ih0 _ _
      | exact LeO.none _
      | refine LeO.ite ?_ ?_
      | refine LeO.bind ?_ (fun _ => ?_)
set_option maxHeartbeats 8000000 in
set_option maxRecDepth 100000 in
theorem middenref05_Run.calls (k : Nat) (a0 : ByteArray) (a1 : Int) (r : Int) (w : World) (h : middenref05_Run.f k a0 a1 = some r) :
    Calls Try.prog 38 #[.string a0, .int .i64 a1] w fun e w' => e = .returned (.int .i64 r) ∧ Drawn0 w w' := by
  have H : (middenref05_Run.l0 k a0 a1) = some r := h
  clear h
  have H' := Aside0.mk H
  clear H
  go_enter Try.func38, Try.ntmps38
  go_wp2
  go_loopg [1] k (fun kq v1 w' => ∃ (x1_1 : Int), v1 = .int .i64 x1_1 ∧ Aside0 (middenref05_Run.l0 kq a0 x1_1 = some r) ∧ Aside0 (kq ≤ k) ∧ Drawn0 w w')
  case atStart => exact ⟨(a1), (by first | rfl | (simp; done) | (simp [*]; done)), H', ⟨Nat.le_refl _⟩, by repeat (first | exact Drawn0.refl _ | apply Drawn0.step)⟩
  case round =>
    clear H'
    try clear p2
    obtain ⟨x1_1, rfl, HA, HK1, ⟨m1, rfl⟩⟩ := hrel
    cases gk with
    | zero => exact absurd HA.out (by simp [middenref05_Run.l0])
    | succ k1 =>
      have H := HA.out
      clear HA
      simp only [middenref05_Run.l0] at H
      by_cases c3 : x1_1 < (a0.size : Int)
      · rw [if_pos c3] at H
        have c3b0 : decide (x1_1 < (a0.size : Int)) = true := decide_eq_true c3
        clear c3
        by_cases c4 : 0 ≤ x1_1
        · rw [if_pos c4] at H
          have c4b0 : decide (0 ≤ x1_1) = true := decide_eq_true c4
          clear c4
          replace H := Option.bind_eq_some_iff.mp H
          obtain ⟨t221, A60, H⟩ := H
          replace H : (if t221 = true then (middenref05_Run.l0 k1 a0 (wrap64 (x1_1 + 1))) else ((middenref05_large.f (bt a0 x1_1)).bind fun t222 => (if t222 = true then (middenref05_Run.l0 k1 a0 (wrap64 (x1_1 + 1))) else ((middenref05_digit.f (bt a0 x1_1)).bind fun t223 => (if t223 = true then (middenref05_Run.l0 k1 a0 (wrap64 (x1_1 + 1))) else (if (bt a0 x1_1) = 95 then (middenref05_Run.l0 k1 a0 (wrap64 (x1_1 + 1))) else (some x1_1))))))) = some r := H
          have A6 := Aside0.mk A60
          clear A60
          by_cases c7 : t221 = true
          · subst c7
            have H1 : (middenref05_Run.l0 k1 a0 (wrap64 (x1_1 + 1))) = some r := by rw [if_pos rfl] at H; exact H
            clear H
            have H := H1
            clear H1
            have H' := Aside0.mk H
            clear H
            have p5 : 0 ≤ (x1_1 : Int) := of_decide_eq_true (by first | (with_reducible assumption) | assumption)
            have q5 : x1_1 < (a0.size : Int) := of_decide_eq_true (by first | (with_reducible assumption) | assumption)
            have hx5 := bt_at a0 x1_1
            replace p5 := eq_true p5
            replace q5 := eq_true q5
            go_wp2_with (first | (go_at_call 39; (with_reducible refine (middenref05_small.calls (bt a0 x1_1) true _ A6.out).mono ?_); rintro e w' ⟨rfl, ⟨nd, rfl⟩⟩))
            go_roundg k1
            case measure => have := HK1.out; omega
            case rel => exact ⟨(wrap64 (x1_1 + 1)), (by first | rfl | (simp; done) | (simp [*]; done)), H', ⟨by have := HK1.out; omega⟩, by repeat (first | exact Drawn0.refl _ | apply Drawn0.step)⟩
          · replace c7 := Bool.eq_false_iff.mpr c7
            subst c7
            have H1 : ((middenref05_large.f (bt a0 x1_1)).bind fun t222 => (if t222 = true then (middenref05_Run.l0 k1 a0 (wrap64 (x1_1 + 1))) else ((middenref05_digit.f (bt a0 x1_1)).bind fun t223 => (if t223 = true then (middenref05_Run.l0 k1 a0 (wrap64 (x1_1 + 1))) else (if (bt a0 x1_1) = 95 then (middenref05_Run.l0 k1 a0 (wrap64 (x1_1 + 1))) else (some x1_1)))))) = some r := by rw [if_neg (show ¬ (false = true) by decide)] at H; exact H
            clear H
            have H := H1
            clear H1
            replace H := Option.bind_eq_some_iff.mp H
            obtain ⟨t222, A90, H⟩ := H
            replace H : (if t222 = true then (middenref05_Run.l0 k1 a0 (wrap64 (x1_1 + 1))) else ((middenref05_digit.f (bt a0 x1_1)).bind fun t223 => (if t223 = true then (middenref05_Run.l0 k1 a0 (wrap64 (x1_1 + 1))) else (if (bt a0 x1_1) = 95 then (middenref05_Run.l0 k1 a0 (wrap64 (x1_1 + 1))) else (some x1_1))))) = some r := H
            have A9 := Aside0.mk A90
            clear A90
            by_cases c10 : t222 = true
            · subst c10
              have H1 : (middenref05_Run.l0 k1 a0 (wrap64 (x1_1 + 1))) = some r := by rw [if_pos rfl] at H; exact H
              clear H
              have H := H1
              clear H1
              have H' := Aside0.mk H
              clear H
              have p5 : 0 ≤ (x1_1 : Int) := of_decide_eq_true (by first | (with_reducible assumption) | assumption)
              have q5 : x1_1 < (a0.size : Int) := of_decide_eq_true (by first | (with_reducible assumption) | assumption)
              have hx5 := bt_at a0 x1_1
              replace p5 := eq_true p5
              replace q5 := eq_true q5
              go_wp2_with (first | (go_at_call 39; (with_reducible refine (middenref05_small.calls (bt a0 x1_1) false _ A6.out).mono ?_); rintro e w' ⟨rfl, ⟨nd, rfl⟩⟩; have p8 : 0 ≤ (x1_1 : Int) := of_decide_eq_true (by first | (with_reducible assumption) | assumption); have q8 : x1_1 < (a0.size : Int) := of_decide_eq_true (by first | (with_reducible assumption) | assumption); have hx8 := bt_at a0 x1_1; replace p8 := eq_true p8; replace q8 := eq_true q8) | (go_at_call 40; (with_reducible refine (middenref05_large.calls (bt a0 x1_1) true _ A9.out).mono ?_); rintro e w' ⟨rfl, ⟨nd, rfl⟩⟩))
              go_roundg k1
              case measure => have := HK1.out; omega
              case rel => exact ⟨(wrap64 (x1_1 + 1)), (by first | rfl | (simp; done) | (simp [*]; done)), H', ⟨by have := HK1.out; omega⟩, by repeat (first | exact Drawn0.refl _ | apply Drawn0.step)⟩
            · replace c10 := Bool.eq_false_iff.mpr c10
              subst c10
              have H1 : ((middenref05_digit.f (bt a0 x1_1)).bind fun t223 => (if t223 = true then (middenref05_Run.l0 k1 a0 (wrap64 (x1_1 + 1))) else (if (bt a0 x1_1) = 95 then (middenref05_Run.l0 k1 a0 (wrap64 (x1_1 + 1))) else (some x1_1)))) = some r := by rw [if_neg (show ¬ (false = true) by decide)] at H; exact H
              clear H
              have H := H1
              clear H1
              replace H := Option.bind_eq_some_iff.mp H
              obtain ⟨t223, A120, H⟩ := H
              replace H : (if t223 = true then (middenref05_Run.l0 k1 a0 (wrap64 (x1_1 + 1))) else (if (bt a0 x1_1) = 95 then (middenref05_Run.l0 k1 a0 (wrap64 (x1_1 + 1))) else (some x1_1))) = some r := H
              have A12 := Aside0.mk A120
              clear A120
              by_cases c13 : t223 = true
              · subst c13
                have H1 : (middenref05_Run.l0 k1 a0 (wrap64 (x1_1 + 1))) = some r := by rw [if_pos rfl] at H; exact H
                clear H
                have H := H1
                clear H1
                have H' := Aside0.mk H
                clear H
                have p5 : 0 ≤ (x1_1 : Int) := of_decide_eq_true (by first | (with_reducible assumption) | assumption)
                have q5 : x1_1 < (a0.size : Int) := of_decide_eq_true (by first | (with_reducible assumption) | assumption)
                have hx5 := bt_at a0 x1_1
                replace p5 := eq_true p5
                replace q5 := eq_true q5
                go_wp2_with (first | (go_at_call 39; (with_reducible refine (middenref05_small.calls (bt a0 x1_1) false _ A6.out).mono ?_); rintro e w' ⟨rfl, ⟨nd, rfl⟩⟩; have p8 : 0 ≤ (x1_1 : Int) := of_decide_eq_true (by first | (with_reducible assumption) | assumption); have q8 : x1_1 < (a0.size : Int) := of_decide_eq_true (by first | (with_reducible assumption) | assumption); have hx8 := bt_at a0 x1_1; replace p8 := eq_true p8; replace q8 := eq_true q8) | (go_at_call 40; (with_reducible refine (middenref05_large.calls (bt a0 x1_1) false _ A9.out).mono ?_); rintro e w' ⟨rfl, ⟨nd, rfl⟩⟩; have p11 : 0 ≤ (x1_1 : Int) := of_decide_eq_true (by first | (with_reducible assumption) | assumption); have q11 : x1_1 < (a0.size : Int) := of_decide_eq_true (by first | (with_reducible assumption) | assumption); have hx11 := bt_at a0 x1_1; replace p11 := eq_true p11; replace q11 := eq_true q11) | (go_at_call 41; (with_reducible refine (middenref05_digit.calls (bt a0 x1_1) true _ A12.out).mono ?_); rintro e w' ⟨rfl, ⟨nd, rfl⟩⟩))
                go_roundg k1
                case measure => have := HK1.out; omega
                case rel => exact ⟨(wrap64 (x1_1 + 1)), (by first | rfl | (simp; done) | (simp [*]; done)), H', ⟨by have := HK1.out; omega⟩, by repeat (first | exact Drawn0.refl _ | apply Drawn0.step)⟩
              · replace c13 := Bool.eq_false_iff.mpr c13
                subst c13
                have H1 : (if (bt a0 x1_1) = 95 then (middenref05_Run.l0 k1 a0 (wrap64 (x1_1 + 1))) else (some x1_1)) = some r := by rw [if_neg (show ¬ (false = true) by decide)] at H; exact H
                clear H
                have H := H1
                clear H1
                by_cases c15 : (bt a0 x1_1) = 95
                · rw [if_pos c15] at H
                  have c15b0 : ((bt a0 x1_1) == 95) = true := beq_iff_eq.mpr c15
                  have c15b1 : ((bt a0 x1_1) != 95) = false := bne_eq_false_iff_eq.mpr c15
                  clear c15
                  have H' := Aside0.mk H
                  clear H
                  have p5 : 0 ≤ (x1_1 : Int) := of_decide_eq_true (by first | (with_reducible assumption) | assumption)
                  have q5 : x1_1 < (a0.size : Int) := of_decide_eq_true (by first | (with_reducible assumption) | assumption)
                  have hx5 := bt_at a0 x1_1
                  replace p5 := eq_true p5
                  replace q5 := eq_true q5
                  go_wp2_with (first | (go_at_call 39; (with_reducible refine (middenref05_small.calls (bt a0 x1_1) false _ A6.out).mono ?_); rintro e w' ⟨rfl, ⟨nd, rfl⟩⟩; have p8 : 0 ≤ (x1_1 : Int) := of_decide_eq_true (by first | (with_reducible assumption) | assumption); have q8 : x1_1 < (a0.size : Int) := of_decide_eq_true (by first | (with_reducible assumption) | assumption); have hx8 := bt_at a0 x1_1; replace p8 := eq_true p8; replace q8 := eq_true q8) | (go_at_call 40; (with_reducible refine (middenref05_large.calls (bt a0 x1_1) false _ A9.out).mono ?_); rintro e w' ⟨rfl, ⟨nd, rfl⟩⟩; have p11 : 0 ≤ (x1_1 : Int) := of_decide_eq_true (by first | (with_reducible assumption) | assumption); have q11 : x1_1 < (a0.size : Int) := of_decide_eq_true (by first | (with_reducible assumption) | assumption); have hx11 := bt_at a0 x1_1; replace p11 := eq_true p11; replace q11 := eq_true q11) | (go_at_call 41; (with_reducible refine (middenref05_digit.calls (bt a0 x1_1) false _ A12.out).mono ?_); rintro e w' ⟨rfl, ⟨nd, rfl⟩⟩; have p14 : 0 ≤ (x1_1 : Int) := of_decide_eq_true (by first | (with_reducible assumption) | assumption); have q14 : x1_1 < (a0.size : Int) := of_decide_eq_true (by first | (with_reducible assumption) | assumption); have hx14 := bt_at a0 x1_1; replace p14 := eq_true p14; replace q14 := eq_true q14))
                  go_roundg k1
                  case measure => have := HK1.out; omega
                  case rel => exact ⟨(wrap64 (x1_1 + 1)), (by first | rfl | (simp; done) | (simp [*]; done)), H', ⟨by have := HK1.out; omega⟩, by repeat (first | exact Drawn0.refl _ | apply Drawn0.step)⟩
                · rw [if_neg c15] at H
                  have c15b0 : ((bt a0 x1_1) == 95) = false := beq_eq_false_iff_ne.mpr c15
                  have c15b1 : ((bt a0 x1_1) != 95) = true := bne_iff_ne.mpr c15
                  obtain rfl := Option.some.inj H
                  have p5 : 0 ≤ (x1_1 : Int) := of_decide_eq_true (by first | (with_reducible assumption) | assumption)
                  have q5 : x1_1 < (a0.size : Int) := of_decide_eq_true (by first | (with_reducible assumption) | assumption)
                  have hx5 := bt_at a0 x1_1
                  replace p5 := eq_true p5
                  replace q5 := eq_true q5
                  go_wp2_with (first | (go_at_call 39; (with_reducible refine (middenref05_small.calls (bt a0 x1_1) false _ A6.out).mono ?_); rintro e w' ⟨rfl, ⟨nd, rfl⟩⟩; have p8 : 0 ≤ (x1_1 : Int) := of_decide_eq_true (by first | (with_reducible assumption) | assumption); have q8 : x1_1 < (a0.size : Int) := of_decide_eq_true (by first | (with_reducible assumption) | assumption); have hx8 := bt_at a0 x1_1; replace p8 := eq_true p8; replace q8 := eq_true q8) | (go_at_call 40; (with_reducible refine (middenref05_large.calls (bt a0 x1_1) false _ A9.out).mono ?_); rintro e w' ⟨rfl, ⟨nd, rfl⟩⟩; have p11 : 0 ≤ (x1_1 : Int) := of_decide_eq_true (by first | (with_reducible assumption) | assumption); have q11 : x1_1 < (a0.size : Int) := of_decide_eq_true (by first | (with_reducible assumption) | assumption); have hx11 := bt_at a0 x1_1; replace p11 := eq_true p11; replace q11 := eq_true q11) | (go_at_call 41; (with_reducible refine (middenref05_digit.calls (bt a0 x1_1) false _ A12.out).mono ?_); rintro e w' ⟨rfl, ⟨nd, rfl⟩⟩; have p14 : 0 ≤ (x1_1 : Int) := of_decide_eq_true (by first | (with_reducible assumption) | assumption); have q14 : x1_1 < (a0.size : Int) := of_decide_eq_true (by first | (with_reducible assumption) | assumption); have hx14 := bt_at a0 x1_1; replace p14 := eq_true p14; replace q14 := eq_true q14))
                  go_ret
                  exact ⟨by first | rfl | (simp; done) | (simp [*]; done), by repeat (first | exact Drawn0.refl _ | apply Drawn0.step)⟩
        · rw [if_neg c4] at H
          exact absurd H (by simp)
      · rw [if_neg c3] at H
        have c3b0 : decide (x1_1 < (a0.size : Int)) = false := decide_eq_false c3
        clear c3
        obtain rfl := Option.some.inj H
        go_wp2
        go_ret
        exact ⟨by first | rfl | (simp; done) | (simp [*]; done), by repeat (first | exact Drawn0.refl _ | apply Drawn0.step)⟩

/-! ### middenref05_number: function 42; by hand -/
def middenref05_number.f (a0 : ByteArray) : Option (Int × Bool) := lex_number.f a0
theorem rnum_over (v d : Int) (h0 : 0 ≤ d) (h9 : d ≤ 9) (hv : 0 ≤ v) : (9223372036854775808 - d) / 10 < v ↔ ¬ 10 * v + d ≤ 9223372036854775808 := by omega
theorem rnum_next (v d : Int) (h0 : 0 ≤ d) (h9 : d ≤ 9) (hv : 0 ≤ v) (h : 10 * v + d ≤ 9223372036854775808) : IntKind.u64.wrap (IntKind.u64.wrap (v * 10) + d) = 10 * v + d := by
  rw [IntWalk.u64_in (v * 10) (by omega), IntWalk.u64_in _ (by omega)]
  omega
theorem rnum_end (v : Nat) (h : v ≤ 9223372036854775808) : (wrap64 (v : Int), decide ((v : Int) < 9223372036854775808)) = numOf false v := by
  unfold numOf
  rw [if_neg (by omega)]
  by_cases e : v = 9223372036854775808
  · have e2 : decide ((v : Int) < 9223372036854775808) = false := decide_eq_false (by omega)
    have e3 : wrap64 (v : Int) = -9223372036854775808 := by unfold wrap64; omega
    rw [e2, e3]
    simp [e]
  · have e2 : decide ((v : Int) < 9223372036854775808) = true := decide_eq_true (by omega)
    have e3 : wrap64 (v : Int) = v := by unfold wrap64; omega
    rw [e2, e3]
    simp [e]
theorem rnum_endm (v : Nat) (h : v ≤ 9223372036854775808) (hne : ¬ (v : Int) = 9223372036854775808) : (wrap64 (-wrap64 (v : Int)), true) = numOf true v := by
  unfold numOf
  rw [if_neg (by omega)]
  have e3 : wrap64 (v : Int) = v := by unfold wrap64; omega
  have e4 : wrap64 (-(v : Int)) = -v := by unfold wrap64; omega
  rw [e3, e4]
  rfl
set_option maxHeartbeats 1000000 in
set_option maxRecDepth 100000 in
theorem rnumber_plain (a0 : ByteArray) (w : World) (hs : 0 < a0.size) (hz : a0.size ≤ 140737488351232) (h0 : ¬ (a0[0].toNat : Int) = 45) (hd : a0.data.toList.all digB = true) :
    Calls Try.prog 42 #[.string a0] w fun e w' => e = .returned (.tuple #[.int .i64 (numOf false (digVal a0.data.toList)).1, .bool (numOf false (digVal a0.data.toList)).2]) ∧ Drawn0 w w' := by
  have e0 := beq_eq_false_iff_ne.2 h0
  have z0 : decide (0 < a0.size) = true := decide_eq_true hs
  obtain ⟨V, hV⟩ : ∃ V, V = digVal a0.data.toList := ⟨_, rfl⟩
  rw [← hV]
  have HV0 := Lib.hid hV
  have HD := Lib.hid hd
  clear h0 hd hV
  go_enter Try.func42, Try.ntmps42
  go_wp2_with fail
  go_loop [4, 6, 7] (fun i n c7 => ∃ k : Nat, 0 ≤ k ∧ k ≤ a0.size ∧ i = .int .i64 k ∧ n = .int .u64 (digVal (a0.data.toList.take (k - 0)) : Int) ∧ Hid (digVal (a0.data.toList.take (k - 0)) ≤ 9223372036854775808)) (fun i _ _ => a0.size - (intOf i).toNat)
  case atStart => exact ⟨0, Nat.le_refl _, by omega, rfl, by simp [digVal], Lib.hid (by simp [digVal])⟩
  case round =>
    obtain ⟨k, hk0, hk, rfl, rfl, HV⟩ := hrel
    by_cases hlt : k < a0.size
    · have dd : (48 ≤ (a0[k].toNat : Int) ∧ (a0[k].toNat : Int) ≤ 57) ∧ digVal (a0.data.toList.take (k + 1 - 0)) = 10 * digVal (a0.data.toList.take (k - 0)) + (a0[k].toNat - 48) := by
        exact ⟨number_dig a0 HD.out k hlt, digVal_succ a0 k hlt⟩
      obtain ⟨⟨d1, d2⟩, hs2⟩ := dd
      have HS := Lib.hid hs2
      have HT := Lib.hid (digVal_take a0.data.toList (k + 1 - 0))
      clear hs2
      generalize digVal (a0.data.toList.take (k - 0)) = v at HV HS ⊢
      go_wp2_with fail
      · rename_i h
        have hh : (9223372036854775808 - ((a0[k].toNat : Int) - 48)) / 10 < (v : Int) := by assumption
        rw [rnum_over _ _ (by omega) (by omega) (by omega)] at hh
        go_ret2
        have hb : 9223372036854775808 < V := by rw [HV0.out]; have := HS.out; have := HT.out; omega
        refine ⟨?_, Drawn0.refl _⟩
        unfold numOf
        rw [if_pos hb]
        rfl
      · rename_i h
        have hh : ¬ (9223372036854775808 - ((a0[k].toNat : Int) - 48)) / 10 < (v : Int) := by omega
        rw [rnum_over _ _ (by omega) (by omega) (by omega), Classical.not_not] at hh
        have hn : (v : Int) * 10 + ((a0[k].toNat : Int) - 48) = 10 * (v : Int) + ((a0[k].toNat : Int) - 48) := by omega
        refine ⟨⟨k + 1, by omega, by omega, by simp, ?_, Lib.hid ?_⟩, by simp [intOf]; omega⟩
        · rw [hn, HS.out]
          congr 2
          omega
        · rw [HS.out]; omega
    · obtain rfl : k = a0.size := by omega
      rw [show a0.data.toList.take (a0.size - 0) = a0.data.toList from List.take_of_length_le (by simp), ← HV0.out] at HV ⊢
      have hend := rnum_end V HV.out
      by_cases hm : (V : Int) < 9223372036854775808
      · have hm2 : decide ((V : Int) < 9223372036854775808) = true := decide_eq_true hm
        rw [hm2] at hend
        have HE := Lib.hid hend
        clear hm hend
        go_wp2_with fail
        go_ret2
        refine ⟨?_, Drawn0.refl _⟩
        exact congrArg (fun p : Int × Bool => Ending.returned (.tuple #[.int .i64 p.1, .bool p.2])) HE.out
      · have hm2 : decide ((V : Int) < 9223372036854775808) = false := decide_eq_false hm
        rw [hm2] at hend
        have HE := Lib.hid hend
        clear hm hend
        go_wp2_with fail
        go_ret2
        refine ⟨?_, Drawn0.refl _⟩
        exact congrArg (fun p : Int × Bool => Ending.returned (.tuple #[.int .i64 p.1, .bool p.2])) HE.out
set_option maxHeartbeats 1000000 in
set_option maxRecDepth 100000 in
theorem rnumber_minus (a0 : ByteArray) (w : World) (hs : 0 < a0.size) (hz : a0.size ≤ 140737488351232) (h0 :  (a0[0].toNat : Int) = 45) (hd : (a0.data.toList.drop 1).all digB = true) :
    Calls Try.prog 42 #[.string a0] w fun e w' => e = .returned (.tuple #[.int .i64 (numOf true (digVal (a0.data.toList.drop 1))).1, .bool (numOf true (digVal (a0.data.toList.drop 1))).2]) ∧ Drawn0 w w' := by
  have e0 := beq_iff_eq.2 h0
  have z0 : decide (0 < a0.size) = true := decide_eq_true hs
  obtain ⟨V, hV⟩ : ∃ V, V = digVal (a0.data.toList.drop 1) := ⟨_, rfl⟩
  rw [← hV]
  have HV0 := Lib.hid hV
  have HD := Lib.hid hd
  clear h0 hd hV
  go_enter Try.func42, Try.ntmps42
  go_wp2_with fail
  go_loop [4, 6, 7] (fun i n c7 => ∃ k : Nat, 1 ≤ k ∧ k ≤ a0.size ∧ i = .int .i64 k ∧ n = .int .u64 (digVal ((a0.data.toList.drop 1).take (k - 1)) : Int) ∧ Hid (digVal ((a0.data.toList.drop 1).take (k - 1)) ≤ 9223372036854775808)) (fun i _ _ => a0.size - (intOf i).toNat)
  case atStart => exact ⟨1, Nat.le_refl _, by omega, rfl, by simp [digVal], Lib.hid (by simp [digVal])⟩
  case round =>
    obtain ⟨k, hk0, hk, rfl, rfl, HV⟩ := hrel
    by_cases hlt : k < a0.size
    · have dd : (48 ≤ (a0[k].toNat : Int) ∧ (a0[k].toNat : Int) ≤ 57) ∧ digVal ((a0.data.toList.drop 1).take (k + 1 - 1)) = 10 * digVal ((a0.data.toList.drop 1).take (k - 1)) + (a0[k].toNat - 48) := by
        have hx : (a0.extract 1 a0.size).data.toList = a0.data.toList.drop 1 := by
          simp
          rw [List.take_of_length_le (by simp)]
        have hk2 : k - 1 < (a0.extract 1 a0.size).size := by simp; omega
        have e1 := number_dig (a0.extract 1 a0.size) (by rw [hx]; exact HD.out) (k - 1) hk2
        have e2 := digVal_succ (a0.extract 1 a0.size) (k - 1) hk2
        have e3 : (a0.extract 1 a0.size)[k - 1] = a0[k] := by
          rw [ByteArray.getElem_extract]
          congr 1
          omega
        rw [e3] at e1 e2
        rw [hx] at e2
        rw [show k + 1 - 1 = k - 1 + 1 by omega]
        exact ⟨e1, e2⟩
      obtain ⟨⟨d1, d2⟩, hs2⟩ := dd
      have HS := Lib.hid hs2
      have HT := Lib.hid (digVal_take (a0.data.toList.drop 1) (k + 1 - 1))
      clear hs2
      generalize digVal ((a0.data.toList.drop 1).take (k - 1)) = v at HV HS ⊢
      go_wp2_with fail
      · rename_i h
        have hh : (9223372036854775808 - ((a0[k].toNat : Int) - 48)) / 10 < (v : Int) := by assumption
        rw [rnum_over _ _ (by omega) (by omega) (by omega)] at hh
        go_ret2
        have hb : 9223372036854775808 < V := by rw [HV0.out]; have := HS.out; have := HT.out; omega
        refine ⟨?_, Drawn0.refl _⟩
        unfold numOf
        rw [if_pos hb]
        rfl
      · rename_i h
        have hh : ¬ (9223372036854775808 - ((a0[k].toNat : Int) - 48)) / 10 < (v : Int) := by omega
        rw [rnum_over _ _ (by omega) (by omega) (by omega), Classical.not_not] at hh
        have hn : (v : Int) * 10 + ((a0[k].toNat : Int) - 48) = 10 * (v : Int) + ((a0[k].toNat : Int) - 48) := by omega
        refine ⟨⟨k + 1, by omega, by omega, by simp, ?_, Lib.hid ?_⟩, by simp [intOf]; omega⟩
        · rw [hn, HS.out]
          congr 2
          omega
        · rw [HS.out]; omega
    · obtain rfl : k = a0.size := by omega
      rw [show (a0.data.toList.drop 1).take (a0.size - 1) = (a0.data.toList.drop 1) from List.take_of_length_le (by simp), ← HV0.out] at HV ⊢
      by_cases hm : (V : Int) = 9223372036854775808
      · have hm2 := beq_iff_eq.2 hm
        clear hm
        go_wp2_with fail
        go_ret2
        refine ⟨?_, Drawn0.refl _⟩
        have hm3 := beq_iff_eq.1 hm2
        have : V = 9223372036854775808 := by omega
        subst this
        rfl
      · have hm2 := beq_eq_false_iff_ne.2 hm
        go_wp2_with fail
        go_ret2
        refine ⟨?_, Drawn0.refl _⟩
        exact congrArg (fun p : Int × Bool => Ending.returned (.tuple #[.int .i64 p.1, .bool p.2])) (rnum_endm _ HV.out hm)
theorem middenref05_number.calls (a0 : ByteArray) (r1 : Int) (r2 : Bool) (w : World) (h : middenref05_number.f a0 = some (r1, r2)) :
    Calls Try.prog 42 #[.string a0] w fun e w' => e = .returned (.tuple #[.int .i64 r1, .bool r2]) ∧ Drawn0 w w' := by
  unfold middenref05_number.f lex_number.f at h
  split at h
  case isFalse => cases h
  rename_i hc
  obtain ⟨hs, hz⟩ := hc
  have hh : a0.data.toList.head? = some a0[0] := head_at0 a0 hs
  rw [hh] at h
  split at h
  · rename_i hm
    split at h
    case isFalse => cases h
    rename_i hd
    simp only [Option.some.injEq] at h
    have e : a0[0] = 45 := by simpa using hm
    have := rnumber_minus a0 w hs hz (by rw [e]; rfl) hd
    rw [h] at this
    exact this
  · rename_i hm
    split at h
    case isFalse => cases h
    rename_i hd
    simp only [Option.some.injEq] at h
    have := rnumber_plain a0 w hs hz (fun e => hm (by rw [Option.some.injEq, ← UInt8.toNat_inj]; show a0[0].toNat = 45; omega)) hd
    rw [h] at this
    exact this

end Go.Proofs.Ytjmcoekdgiomiaa.PLexJoins
