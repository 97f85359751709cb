/- Both tests of a frame tell the same. No condition. -/
import Derived.Test.YtedkackmccnkfaaFr
set_option linter.unusedVariables false
set_option linter.unusedSimpArgs false
namespace Go.Proofs.Ytedkackmccnkfaa.Fs
open Go.RowKit
open Fr
def fineP (p : Int) : Prop := 0 ≤ p ∧ p ≤ 524288
instance (p : Int) : Decidable (fineP p) := by unfold fineP; infer_instance
theorem first_bad (ps : List Int) : ∃ k, k ≤ ps.length ∧ (∀ i, i < k → fineP (ps.getD i 0)) ∧ (k < ps.length → ¬ fineP (ps.getD k 0)) ∧ rangeE ps = if k < ps.length then 4 else 0 := by
  induction ps with
  | nil => exact ⟨0, Nat.le_refl _, fun i h => by omega, fun h => by simp at h, by simp [rangeE]⟩
  | cons x xs ih =>
    by_cases e : fineP x
    · obtain ⟨k, h1, h2, h3, h4⟩ := ih
      refine ⟨k + 1, by simpa using h1, fun i hi => ?_, fun hk => h3 (by simpa using hk), ?_⟩
      · cases i with
        | zero => exact e
        | succ i => exact h2 i (by omega)
      · unfold rangeE at h4 ⊢
        have : (∀ p, p ∈ x :: xs → 0 ≤ p ∧ p ≤ 524288) ↔ (∀ p, p ∈ xs → 0 ≤ p ∧ p ≤ 524288) := by
          simp only [List.mem_cons, forall_eq_or_imp]
          exact ⟨fun h => h.2, fun h => ⟨e, h⟩⟩
        simp only [this, List.length_cons, Nat.add_lt_add_iff_right]
        exact h4
    · refine ⟨0, Nat.zero_le _, fun i h => by omega, fun _ => e, ?_⟩
      unfold rangeE
      rw [if_neg (fun h => e (h x (by simp))), if_pos (by simp)]
set_option maxHeartbeats 1000000 in
set_option maxRecDepth 100000 in
theorem right_it (w : World) (k a b : Int) (p : Option Addr) (c : Nat) (ps : List Int) (S : Sl w p ps) (hl : ps.length ≤ 17592186044416) :
    Calls Try.prog 10 #[frameV k a b p ps.length c] w fun e w' => e = .returned (.int .i64 (rightE k a b ps)) ∧ Below w.heap.size w w' := by
  have OF := Lib.hid (fun w => of_it k w)
  have BN := Lib.hid (Kit.new_blk w (.cells #[.int .i64 k, .int .i64 a, .int .i64 b, .slice p ps.length c] 24 (0, 0)))
  have BB := Lib.hid (Kit.allocB (Below.refl w.heap.size w) (.cells #[.int .i64 k, .int .i64 a, .int .i64 b, .slice p ps.length c] 24 (0, 0)))
  have HS := Lib.hid S
  clear S
  unfold frameV rightE
  unfold ofV at OF
  cases hm : mostOf k with
  | none =>
    rw [hm] at OF
    clear hm
    simp only
    go_enter Try.func10, Try.ntmps10
    go_wp2_with fail
    refine (OF.out _).mono ?_; rintro e w1 ⟨rfl, b1⟩
    have B1 := Lib.hid (Kit.stepB BB.out b1)
    clear b1
    go_wp2_with fail
    go_ret
    exact ⟨rfl, Kit.allocB B1.out _⟩
  | some m =>
    obtain ⟨lA, mA, mB, lP, mP⟩ := m
    rw [hm] at OF
    clear hm
    simp only
    obtain ⟨q, q1, q2, q3, q4⟩ := first_bad ps
    rw [q4]
    have Q2 := Lib.hid q2
    have Q3 := Lib.hid q3
    clear q2 q3 q4
    have cases5 : (ps.length : Int) < lP ∨ (lP ≤ ps.length ∧ mP < (ps.length : Int)) ∨ ((lP ≤ ps.length ∧ (ps.length : Int) ≤ mP) ∧ (a < lA ∨ (lA ≤ a ∧ mA < a) ∨ ((lA ≤ a ∧ a ≤ mA) ∧ b < 0) ∨ ((lA ≤ a ∧ a ≤ mA ∧ 0 ≤ b) ∧ mB < b) ∨ (lA ≤ a ∧ a ≤ mA ∧ 0 ≤ b ∧ b ≤ mB))) := by omega
    rcases cases5 with h | ⟨h1, h2⟩ | ⟨⟨h1, h2⟩, h | ⟨h3, h4⟩ | ⟨⟨h3, h4⟩, h5⟩ | ⟨⟨h3, h4, h5⟩, h6⟩ | ⟨h3, h4, h5, h6⟩⟩
    · rw [if_neg (show ¬ (lP ≤ ps.length ∧ (ps.length : Int) ≤ mP) by omega)]
      have d1 : decide ((ps.length : Int) < lP) = true := decide_eq_true h
      go_enter Try.func10, Try.ntmps10
      go_wp2_with fail
      refine (OF.out _).mono ?_; rintro e w1 ⟨rfl, b1⟩
      have B1 := Lib.hid (Kit.stepB BB.out b1)
      have c4 := Kit.cells4 (Kit.keep_alloc (Kit.keepB BN.out b1) (.cells #[.int .i64 lA, .int .i64 mA, .int .i64 mB, .int .i64 lP, .int .i64 mP] 65 (0, 0)))
      clear b1
      go_wp2_with fail
      go_ret
      exact ⟨rfl, Kit.allocB B1.out _⟩
    · rw [if_neg (show ¬ (lP ≤ ps.length ∧ (ps.length : Int) ≤ mP) by omega)]
      have d1 : decide ((ps.length : Int) < lP) = false := decide_eq_false (by omega)
      have d2 : decide (mP < (ps.length : Int)) = true := decide_eq_true h2
      go_enter Try.func10, Try.ntmps10
      go_wp2_with fail
      refine (OF.out _).mono ?_; rintro e w1 ⟨rfl, b1⟩
      have B1 := Lib.hid (Kit.stepB BB.out b1)
      have c4 := Kit.cells4 (Kit.keep_alloc (Kit.keepB BN.out b1) (.cells #[.int .i64 lA, .int .i64 mA, .int .i64 mB, .int .i64 lP, .int .i64 mP] 65 (0, 0)))
      clear b1
      go_wp2_with fail
      go_ret
      exact ⟨rfl, Kit.allocB B1.out _⟩
    · rw [if_pos (show (lP ≤ ps.length ∧ (ps.length : Int) ≤ mP) by omega), if_neg (show ¬ (lA ≤ a ∧ a ≤ mA ∧ 0 ≤ b ∧ b ≤ mB) by omega)]
      have d1 : decide ((ps.length : Int) < lP) = false := decide_eq_false (by omega)
      have d2 : decide (mP < (ps.length : Int)) = false := decide_eq_false (by omega)
      have d3 : decide (a < lA) = true := decide_eq_true h
      go_enter Try.func10, Try.ntmps10
      go_wp2_with fail
      refine (OF.out _).mono ?_; rintro e w1 ⟨rfl, b1⟩
      have B1 := Lib.hid (Kit.stepB BB.out b1)
      have c4 := Kit.cells4 (Kit.keep_alloc (Kit.keepB BN.out b1) (.cells #[.int .i64 lA, .int .i64 mA, .int .i64 mB, .int .i64 lP, .int .i64 mP] 65 (0, 0)))
      clear b1
      go_wp2_with fail
      go_ret
      exact ⟨rfl, Kit.allocB B1.out _⟩
    · rw [if_pos (show (lP ≤ ps.length ∧ (ps.length : Int) ≤ mP) by omega), if_neg (show ¬ (lA ≤ a ∧ a ≤ mA ∧ 0 ≤ b ∧ b ≤ mB) by omega)]
      have d1 : decide ((ps.length : Int) < lP) = false := decide_eq_false (by omega)
      have d2 : decide (mP < (ps.length : Int)) = false := decide_eq_false (by omega)
      have d3 : decide (a < lA) = false := decide_eq_false (by omega)
      have d4 : decide (mA < a) = true := decide_eq_true h4
      go_enter Try.func10, Try.ntmps10
      go_wp2_with fail
      refine (OF.out _).mono ?_; rintro e w1 ⟨rfl, b1⟩
      have B1 := Lib.hid (Kit.stepB BB.out b1)
      have c4 := Kit.cells4 (Kit.keep_alloc (Kit.keepB BN.out b1) (.cells #[.int .i64 lA, .int .i64 mA, .int .i64 mB, .int .i64 lP, .int .i64 mP] 65 (0, 0)))
      clear b1
      go_wp2_with fail
      go_ret
      exact ⟨rfl, Kit.allocB B1.out _⟩
    · rw [if_pos (show (lP ≤ ps.length ∧ (ps.length : Int) ≤ mP) by omega), if_neg (show ¬ (lA ≤ a ∧ a ≤ mA ∧ 0 ≤ b ∧ b ≤ mB) by omega)]
      have d1 : decide ((ps.length : Int) < lP) = false := decide_eq_false (by omega)
      have d2 : decide (mP < (ps.length : Int)) = false := decide_eq_false (by omega)
      have d3 : decide (a < lA) = false := decide_eq_false (by omega)
      have d4 : decide (mA < a) = false := decide_eq_false (by omega)
      have d5 : decide (b < 0) = true := decide_eq_true h5
      go_enter Try.func10, Try.ntmps10
      go_wp2_with fail
      refine (OF.out _).mono ?_; rintro e w1 ⟨rfl, b1⟩
      have B1 := Lib.hid (Kit.stepB BB.out b1)
      have c4 := Kit.cells4 (Kit.keep_alloc (Kit.keepB BN.out b1) (.cells #[.int .i64 lA, .int .i64 mA, .int .i64 mB, .int .i64 lP, .int .i64 mP] 65 (0, 0)))
      clear b1
      go_wp2_with fail
      go_ret
      exact ⟨rfl, Kit.allocB B1.out _⟩
    · rw [if_pos (show (lP ≤ ps.length ∧ (ps.length : Int) ≤ mP) by omega), if_neg (show ¬ (lA ≤ a ∧ a ≤ mA ∧ 0 ≤ b ∧ b ≤ mB) by omega)]
      have d1 : decide ((ps.length : Int) < lP) = false := decide_eq_false (by omega)
      have d2 : decide (mP < (ps.length : Int)) = false := decide_eq_false (by omega)
      have d3 : decide (a < lA) = false := decide_eq_false (by omega)
      have d4 : decide (mA < a) = false := decide_eq_false (by omega)
      have d5 : decide (b < 0) = false := decide_eq_false (by omega)
      have d6 : decide (mB < b) = true := decide_eq_true h6
      go_enter Try.func10, Try.ntmps10
      go_wp2_with fail
      refine (OF.out _).mono ?_; rintro e w1 ⟨rfl, b1⟩
      have B1 := Lib.hid (Kit.stepB BB.out b1)
      have c4 := Kit.cells4 (Kit.keep_alloc (Kit.keepB BN.out b1) (.cells #[.int .i64 lA, .int .i64 mA, .int .i64 mB, .int .i64 lP, .int .i64 mP] 65 (0, 0)))
      clear b1
      go_wp2_with fail
      go_ret
      exact ⟨rfl, Kit.allocB B1.out _⟩
    · rw [if_pos (show (lP ≤ ps.length ∧ (ps.length : Int) ≤ mP) by omega), if_pos (show (lA ≤ a ∧ a ≤ mA ∧ 0 ≤ b ∧ b ≤ mB) by omega)]
      have d1 : decide ((ps.length : Int) < lP) = false := decide_eq_false (by omega)
      have d2 : decide (mP < (ps.length : Int)) = false := decide_eq_false (by omega)
      have d3 : decide (a < lA) = false := decide_eq_false (by omega)
      have d4 : decide (mA < a) = false := decide_eq_false (by omega)
      have d5 : decide (b < 0) = false := decide_eq_false (by omega)
      have d6 : decide (mB < b) = false := decide_eq_false (by omega)
      go_enter Try.func10, Try.ntmps10
      go_wp2_with fail
      refine (OF.out _).mono ?_; rintro e w1 ⟨rfl, b1⟩
      have B1 := Lib.hid (Kit.allocB (Kit.stepB BB.out b1) (.cells #[.int .i64 lA, .int .i64 mA, .int .i64 mB, .int .i64 lP, .int .i64 mP] 65 (0, 0)))
      have c4 := Kit.cells4 (Kit.keep_alloc (Kit.keepB BN.out b1) (.cells #[.int .i64 lA, .int .i64 mA, .int .i64 mB, .int .i64 lP, .int .i64 mP] 65 (0, 0)))
      have HS1 := Lib.hid (HS.out.keepB B1.out)
      clear b1
      go_wp2_with fail
      clear d1 d2 d3 d4 d5 d6 c4
      generalize w1.alloc _ = w2 at *
      go_loop [59, 6] (fun i _ => ∃ j : Nat, j ≤ q ∧ i = .int .i64 j) (fun i _ => ps.length - (intOf i).toNat)
      case atStart => exact ⟨0, Nat.zero_le _, rfl⟩
      case round =>
        obtain ⟨j, hj, rfl⟩ := hrel
        by_cases hlt : j < ps.length
        · obtain ⟨bb, off, rfl, hb, hc⟩ := HS1.out.cells (by omega)
          have cj := hc j hlt
          have PI := Lib.hid (fun w => pointer_it (ps.getD j 0) w)
          have FB : Hid (j < q → fineP (ps.getD j 0)) := fun h => Q2.out j h
          have FC : Hid (j = q → ¬ fineP (ps.getD j 0)) := fun h => h ▸ Q3.out (by omega)
          clear hc hb
          generalize ps.getD j 0 = x at cj PI FB FC
          by_cases hjq : j < q
          · have PT : Hid (decide (0 ≤ x ∧ x ≤ 524288) = true) := decide_eq_true (FB.out hjq)
            go_wp2_with fail
            refine (PI.out _).mono ?_; rintro e w3 ⟨rfl, rfl⟩
            rw [PT.out]
            go_wp2_with fail
            go_round
            case rel => exact ⟨j + 1, by omega, by simp⟩
            case measure => simp [intOf]; omega
          · have PT : Hid (decide (0 ≤ x ∧ x ≤ 524288) = false) := decide_eq_false (FC.out (by omega))
            go_wp2_with fail
            refine (PI.out _).mono ?_; rintro e w3 ⟨rfl, rfl⟩
            rw [PT.out]
            go_wp2_with fail
            go_ret
            exact ⟨rfl, B1.out⟩
        · go_wp2_with fail
          go_ret
          exact ⟨rfl, B1.out⟩
end Go.Proofs.Ytedkackmccnkfaa.Fs
