/- Where a stack may be: the law StackNew answers true for every input. No condition. -/
import Derived.Test.YtedkackmccnkfaaAw
set_option linter.unusedVariables false
set_option linter.unusedSimpArgs false
namespace Go.Proofs.Ytedkackmccnkfaa.LawNew
open Go.RowKit
open Fr Ar Sk Nw
set_option maxHeartbeats 1000000 in
set_option maxRecDepth 100000 in
theorem law (w : World) (n a b : Int) (hb : -9223372036854775808 ≤ b ∧ b ≤ 9223372036854775807) :
    Calls Try.prog 4 #[.int .i64 n, .int .i64 a, .int .i64 b] w fun e w' => e = .returned (.bool true) ∧ Below w.heap.size w w' := by
  by_cases hn : n < 1 ∨ 524288 < n
  · have NB := Lib.hid (new_bad w n hn)
    have NN := Lib.hid (fun w => new_nil w a b)
    go_enter Try.func4, Try.ntmps4
    go_wp2_with fail
    refine NB.out.mono ?_; rintro e w1 ⟨rfl, rfl⟩
    go_wp2_with fail
    refine (NN.out _).mono ?_; rintro e w2 ⟨rfl, rfl⟩
    go_wp2_with fail
    refine (Aw.awake_it _).mono ?_; rintro e w3 ⟨rfl, b3⟩
    go_wp2_with fail
    go_ret
    exact ⟨rfl, b3⟩
  · have hn1 : 1 ≤ n ∧ n ≤ 524288 := by omega
    have NO := Lib.hid (new_ok w n hn1.1 hn1.2)
    obtain ⟨m, rfl⟩ := Int.eq_ofNat_of_zero_le (show 0 ≤ n by omega)
    have ways : (b < 1) ∨ (1 ≤ b ∧ 65536 < b) ∨ ((1 ≤ b ∧ b ≤ 65536) ∧ (a < 0 ∨ (0 ≤ a ∧ (m : Int) < a) ∨ ((0 ≤ a ∧ a ≤ m) ∧ (m : Int) - a < b))) ∨ ((1 ≤ b ∧ b ≤ 65536) ∧ 0 ≤ a ∧ a + b ≤ m) := by omega
    clear hn
    rcases ways with h | ⟨h0, h⟩ | ⟨hb1, h⟩ | ⟨hb1, ha, h⟩
    · have d1 : decide (b < 1) = true := decide_eq_true h
      have NS := Lib.hid (fun w ga => new_size w ga a b (.inl h))
      go_enter Try.func4, Try.ntmps4
      go_wp2_with fail
      refine NO.out.mono ?_; rintro e w1 ⟨ga, r, rfl, hga, hr, O1, b1⟩
      have B1 := Lib.hid b1
      clear O1 b1
      go_wp2_with fail
      refine (NS.out _ _).mono ?_; rintro e w2 ⟨rfl, rfl⟩
      go_wp2_with fail
      refine (Aw.awake_it _).mono ?_; rintro e w3 ⟨rfl, b3⟩
      have B3 := Lib.hid (Kit.stepB B1.out b3)
      go_wp2_with fail
      go_ret
      exact ⟨rfl, B3.out⟩
    · have d1 : decide (b < 1) = false := decide_eq_false (by omega)
      have d2 : decide (65536 < b) = true := decide_eq_true h
      have NS := Lib.hid (fun w ga => new_size w ga a b (.inr h))
      go_enter Try.func4, Try.ntmps4
      go_wp2_with fail
      refine NO.out.mono ?_; rintro e w1 ⟨ga, r, rfl, hga, hr, O1, b1⟩
      have B1 := Lib.hid b1
      clear O1 b1
      go_wp2_with fail
      refine (NS.out _ _).mono ?_; rintro e w2 ⟨rfl, rfl⟩
      go_wp2_with fail
      refine (Aw.awake_it _).mono ?_; rintro e w3 ⟨rfl, b3⟩
      have B3 := Lib.hid (Kit.stepB B1.out b3)
      go_wp2_with fail
      go_ret
      exact ⟨rfl, B3.out⟩
    · have d1 : decide (b < 1) = false := decide_eq_false (by omega)
      have d2 : decide (65536 < b) = false := decide_eq_false (by omega)
      have NS : Hid (∀ w ga r, Own 71 w ga r (List.replicate m 0) → Calls Try.prog 13 #[.pointer (some ⟨ga, 0, none⟩), .int .i64 a, .int .i64 b] w fun e w' => e = .returned (.tuple #[.pointer none, .int .i64 4]) ∧ w' = w) := fun w ga r O => new_range O a b hb1 (by simpa using h)
      rcases h with h | ⟨h, h2⟩ | ⟨⟨h, h2⟩, h3⟩
      · have d3 : decide (a < 0) = true := decide_eq_true h
        go_enter Try.func4, Try.ntmps4
        go_wp2_with fail
        refine NO.out.mono ?_; rintro e w1 ⟨ga, r, rfl, hga, hr, O1, b1⟩
        rw [Int.toNat_natCast] at O1
        have NS1 := Lib.hid (NS.out _ _ _ O1)
        have B1 := Lib.hid b1
        clear O1 b1
        go_wp2_with fail
        refine NS1.out.mono ?_; rintro e w2 ⟨rfl, rfl⟩
        go_wp2_with fail
        refine (Aw.awake_it _).mono ?_; rintro e w3 ⟨rfl, b3⟩
        have B3 := Lib.hid (Kit.stepB B1.out b3)
        go_wp2_with fail
        go_ret
        exact ⟨rfl, B3.out⟩
      · have d3 : decide (a < 0) = false := decide_eq_false (by omega)
        have d4 : decide ((m : Int) < a) = true := decide_eq_true h2
        go_enter Try.func4, Try.ntmps4
        go_wp2_with fail
        refine NO.out.mono ?_; rintro e w1 ⟨ga, r, rfl, hga, hr, O1, b1⟩
        rw [Int.toNat_natCast] at O1
        have NS1 := Lib.hid (NS.out _ _ _ O1)
        have B1 := Lib.hid b1
        clear O1 b1
        go_wp2_with fail
        refine NS1.out.mono ?_; rintro e w2 ⟨rfl, rfl⟩
        go_wp2_with fail
        refine (Aw.awake_it _).mono ?_; rintro e w3 ⟨rfl, b3⟩
        have B3 := Lib.hid (Kit.stepB B1.out b3)
        go_wp2_with fail
        go_ret
        exact ⟨rfl, B3.out⟩
      · have d3 : decide (a < 0) = false := decide_eq_false (by omega)
        have d4 : decide ((m : Int) < a) = false := decide_eq_false (by omega)
        have d5 : decide ((m : Int) - a < b) = true := decide_eq_true h3
        go_enter Try.func4, Try.ntmps4
        go_wp2_with fail
        refine NO.out.mono ?_; rintro e w1 ⟨ga, r, rfl, hga, hr, O1, b1⟩
        rw [Int.toNat_natCast] at O1
        have NS1 := Lib.hid (NS.out _ _ _ O1)
        have B1 := Lib.hid b1
        clear O1 b1
        go_wp2_with fail
        refine NS1.out.mono ?_; rintro e w2 ⟨rfl, rfl⟩
        go_wp2_with fail
        refine (Aw.awake_it _).mono ?_; rintro e w3 ⟨rfl, b3⟩
        have B3 := Lib.hid (Kit.stepB B1.out b3)
        go_wp2_with fail
        go_ret
        exact ⟨rfl, B3.out⟩
    · have d1 : decide (b < 1) = false := decide_eq_false (by omega)
      have d2 : decide (65536 < b) = false := decide_eq_false (by omega)
      have d3 : decide (a < 0) = false := decide_eq_false (by omega)
      have d4 : decide ((m : Int) < a) = false := decide_eq_false (by omega)
      have d5 : decide ((m : Int) - a < b) = false := decide_eq_false (by omega)
      obtain ⟨a', rfl⟩ := Int.eq_ofNat_of_zero_le ha
      obtain ⟨b', rfl⟩ := Int.eq_ofNat_of_zero_le (show 0 ≤ b by omega)
      have d4' : decide (m < a') = false := decide_eq_false (by omega)
      go_enter Try.func4, Try.ntmps4
      go_wp2_with fail
      refine NO.out.mono ?_; rintro e w1 ⟨ga, r, rfl, hga, hr, O1, b1⟩
      rw [Int.toNat_natCast] at O1
      have NS1 := Lib.hid (new_it O1 (O1.ne (by decide)) a' b' (by omega) (by simp; omega))
      have B1 := Lib.hid b1
      clear O1 b1
      go_wp2_with fail
      refine NS1.out.mono ?_; rintro e w2 ⟨g, rfl, hg, K2, b2⟩
      have B2 := Lib.hid (Kit.stepB B1.out b2)
      clear K2 b2
      go_wp2_with fail
      refine (Aw.awake_it _).mono ?_; rintro e w3 ⟨rfl, b3⟩
      have B3 := Lib.hid (Kit.stepB B2.out b3)
      go_wp2_with fail
      go_ret
      exact ⟨rfl, B3.out⟩
end Go.Proofs.Ytedkackmccnkfaa.LawNew
