/- For every 8-bit n, every place and every count, the law ArenaClears tells true: words that are cleared are 0, and all others stay. And ArenaNone: a nil arena has nothing. No condition. -/
import Derived.Test.YtleockiemeabdaaKeeps
set_option linter.unusedVariables false
namespace Go.Proofs.Ytleockiemeabdaa.Clears
open Go.RowKit
open Ar Fi Keeps
theorem over_zero (m a n k : Nat) (h1 : a + n ≤ m) (hk : k < m) : (Rw.over (fillTo m m) a (List.replicate n 0)).getD k 0 = if a ≤ k ∧ k < a + n then 0 else (k : Int) + 1 := by
  rw [Rw.over_getD _ _ _ (by rw [List.length_replicate, length_fillTo]; exact h1), List.length_replicate]
  by_cases c : a ≤ k ∧ k < a + n
  · rw [if_pos c, if_pos c, List.getD_eq_getElem?_getD, List.getElem?_replicate, if_pos (by omega)]
    rfl
  · rw [if_neg c, if_neg c, fillTo_getD m k hk]
set_option maxHeartbeats 2000000 in
theorem law_ok (w : World) (n : Int) (a q m : Nat) (hm : n % 100 + 1 = m) (n0 : 0 ≤ n) (n1 : n ≤ 255) (h1 : a + q ≤ m)
    (hE : clearE m a q = 0) (hV : clearV (fillTo m m) a q = Rw.over (fillTo m m) a (List.replicate q 0)) :
    Calls Try.prog 6 #[.int .u8 n, .int .i64 a, .int .i64 q] w fun e w' => e = .returned (.bool true) ∧ Below w.heap.size w w' := by
  have Hl : Hid ((Rw.over (fillTo m m) a (List.replicate q 0)).length = m) := by
    show _ = _
    rw [Rw.length_over _ _ _ (by simp [length_fillTo]; omega), length_fillTo]
  have Hv : Hid (∀ k, k < m → (Rw.over (fillTo m m) a (List.replicate q 0)).getD k 0 = if a ≤ k ∧ k < a + q then 0 else (k : Int) + 1) := fun k hk => over_zero m a q k h1 hk
  have m1 : 1 ≤ m ∧ m ≤ 100 := by omega
  obtain ⟨m1, m2⟩ := m1
  have HE := Lib.hid hE
  have HV := Lib.hid hV
  clear hE hV
  go_enter Try.func6, Try.ntmps6
  go_wp2_with fail
  refine (filled_any _ m m1 m2).mono ?_; rintro e w1 ⟨g, r, rfl, hg, hr, ho, hb⟩
  have Ho := Lib.hid ho
  have Hr := Lib.hid hr
  have Hb := Lib.hid hb
  clear ho hb hg hr
  go_wp2_with fail
  refine (awake_any _).mono ?_; rintro e w2 ⟨rfl, hb⟩
  have Ho2 := Lib.hid (Own.keepB Ho hb)
  have Hb2 := Lib.hid (Kit.stepB Hb hb)
  clear hb Ho Hb
  go_wp2_with fail
  refine (clear_any _ g r _ a q Ho2 (by omega) (by omega)).mono ?_; rintro e w3 ⟨rfl, hO, hM⟩
  have Hb3 := Lib.hid (Kit.step1 Hb2 hM Hr)
  rw [HV.out] at hO
  rw [length_fillTo, HE.out]
  have Ho3 := Lib.hid hO
  clear hO hM Ho2 Hb2
  go_wp2_with fail
  go_loop [9] (fun i => ∃ k : Nat, k ≤ m ∧ i = .int .i64 k) (fun i => m - (intOf i).toNat)
  case atStart => exact ⟨0, Nat.zero_le _, rfl⟩
  case round =>
    obtain ⟨k, hk, rfl⟩ := hrel
    by_cases hlt : k < m
    · have hrd := read_any w3 g r _ k Ho3
      rw [readV_in _ k (by rw [Hl.out]; exact hlt), Hl.out, atE_in m k hlt, Hv.out k hlt] at hrd
      by_cases c : a ≤ k ∧ k < a + q
      · rw [if_pos c] at hrd
        have Hd := Lib.hid hrd
        obtain ⟨c1, c2⟩ := c
        have z2 : decide ((k : Int) - a < q) = true := by simp; omega
        clear hrd
        go_wp2_with fail
        refine (Hd.out).mono ?_; rintro e w' ⟨rfl, rfl⟩
        go_wp2_with fail
        go_round
        case rel => exact ⟨k + 1, by omega, by go_num⟩
        case measure => simp [intOf]; omega
      · rw [if_neg c] at hrd
        have Hd := Lib.hid hrd
        have c' : k < a ∨ a + q ≤ k := by omega
        have z1 : ((k : Int) + 1 == 0) = false := by simp; omega
        have z2 : a ≤ k → decide ((k : Int) - a < q) = false := by intro _; simp; omega
        have Z2 := Lib.hid z2
        clear hrd c z2
        rcases c' with c1 | c1
        all_goals
          try have z3 := Z2.out (by omega)
          go_wp2_with fail
          refine (Hd.out).mono ?_; rintro e w' ⟨rfl, rfl⟩
          go_wp2_with fail
          go_round
          case rel => exact ⟨k + 1, by omega, by go_num⟩
          case measure => simp [intOf]; omega
    · obtain rfl : k = m := by omega
      go_wp2_with fail
      go_ret
      exact ⟨Kit.ret_bool (by first | rfl | (simp; done)), Hb3⟩
set_option maxHeartbeats 2000000 in
theorem law_bad (w : World) (n a q er : Int) (m : Nat) (hm : n % 100 + 1 = m) (n0 : 0 ≤ n) (n1 : n ≤ 255) (q0 : -9223372036854775808 ≤ q) (q1 : q ≤ 9223372036854775807)
    (hE : clearE m a q = er) (e0 : (er != 0) = true) (hV : clearV (fillTo m m) a q = fillTo m m) :
    Calls Try.prog 6 #[.int .u8 n, .int .i64 a, .int .i64 q] w fun e w' => e = .returned (.bool true) ∧ Below w.heap.size w w' := by
  have m1 : 1 ≤ m ∧ m ≤ 100 := by omega
  obtain ⟨m1, m2⟩ := m1
  have HE := Lib.hid hE
  have HV := Lib.hid hV
  clear hE hV
  go_enter Try.func6, Try.ntmps6
  go_wp2_with fail
  refine (filled_any _ m m1 m2).mono ?_; rintro e w1 ⟨g, r, rfl, hg, hr, ho, hb⟩
  have Ho := Lib.hid ho
  have Hr := Lib.hid hr
  have Hb := Lib.hid hb
  clear ho hb hg hr
  go_wp2_with fail
  refine (awake_any _).mono ?_; rintro e w2 ⟨rfl, hb⟩
  have Ho2 := Lib.hid (Own.keepB Ho hb)
  have Hb2 := Lib.hid (Kit.stepB Hb hb)
  clear hb Ho Hb
  go_wp2_with fail
  refine (clear_any _ g r _ a q Ho2 (by omega) (by omega)).mono ?_; rintro e w3 ⟨rfl, hO, hM⟩
  have Hb3 := Lib.hid (Kit.step1 Hb2 hM Hr)
  rw [HV.out] at hO
  rw [length_fillTo, HE.out]
  have Ho3 := Lib.hid hO
  clear hO hM Ho2 Hb2
  go_wp2_with fail
  go_loop [9] (fun i => ∃ k : Nat, k ≤ m ∧ i = .int .i64 k) (fun i => m - (intOf i).toNat)
  case atStart => exact ⟨0, Nat.zero_le _, rfl⟩
  case round =>
    obtain ⟨k, hk, rfl⟩ := hrel
    by_cases hlt : k < m
    · have hrd := read_any w3 g r _ k Ho3
      rw [readV_in _ k (by rw [length_fillTo]; exact hlt), length_fillTo, atE_in m k hlt, fillTo_getD m k hlt] at hrd
      have Hd := Lib.hid hrd
      clear hrd
      go_wp2_with fail
      refine (Hd.out).mono ?_; rintro e w' ⟨rfl, rfl⟩
      go_wp2_with fail
      go_round
      case rel => exact ⟨k + 1, by omega, by go_num⟩
      case measure => simp [intOf]; omega
    · obtain rfl : k = m := by omega
      go_wp2_with fail
      go_ret
      exact ⟨Kit.ret_bool (by first | rfl | (simp; done)), Hb3⟩
theorem law (w : World) (n a q : Int) (n0 : 0 ≤ n) (n1 : n ≤ 255) (q0 : -9223372036854775808 ≤ q) (q1 : q ≤ 9223372036854775807) :
    Calls Try.prog 6 #[.int .u8 n, .int .i64 a, .int .i64 q] w fun e w' => e = .returned (.bool true) ∧ Below w.heap.size w w' := by
  obtain ⟨m, hm⟩ := Int.eq_ofNat_of_zero_le (show 0 ≤ n % 100 + 1 by omega)
  by_cases c : 0 ≤ q ∧ 0 ≤ a ∧ a ≤ m ∧ q ≤ m - a
  · obtain ⟨a, rfl⟩ := Int.eq_ofNat_of_zero_le c.2.1
    obtain ⟨q, rfl⟩ := Int.eq_ofNat_of_zero_le c.1
    refine law_ok w n a q m hm n0 n1 (by omega) ?_ ?_
    · unfold clearE rowE; rw [if_neg (by omega), if_pos c.2]
    · unfold clearV; rw [length_fillTo, if_pos c]; simp only [Int.toNat_natCast]
  · have hV : clearV (fillTo m m) a q = fillTo m m := by
      unfold clearV; rw [length_fillTo, if_neg c]
    by_cases c0 : q < 0
    · exact law_bad w n a q 7 m hm n0 n1 q0 q1 (by unfold clearE; rw [if_pos c0]) rfl hV
    · exact law_bad w n a q 4 m hm n0 n1 q0 q1 (by unfold clearE rowE; rw [if_neg c0, if_neg (by omega)]) rfl hV
-- a nil arena
theorem at_nil (w : World) (i : Int) : Calls Try.prog 19 #[.pointer none, .int .i64 i] w fun e w' => e = .returned (.int .i64 1) ∧ w = w' := by
  go_enter Try.func19, Try.ntmps19
  go_wp2_with fail
  go_ret
  exact ⟨rfl, rfl⟩
theorem read_nil (w : World) (i : Int) : Calls Try.prog 11 #[.pointer none, .int .i64 i] w fun e w' => e = .returned (.tuple #[.int .u64 0, .int .i64 1]) ∧ w = w' := by
  go_enter Try.func11, Try.ntmps11
  go_wp2_with fail
  refine (at_nil _ i).mono ?_; rintro e w' ⟨rfl, rfl⟩
  go_wp2_with fail
  go_ret2
  exact ⟨rfl, rfl⟩
theorem write_nil (w : World) (i v : Int) : Calls Try.prog 10 #[.pointer none, .int .i64 i, .int .u64 v] w fun e w' => e = .returned (.int .i64 1) ∧ w = w' := by
  go_enter Try.func10, Try.ntmps10
  go_wp2_with fail
  refine (at_nil _ i).mono ?_; rintro e w' ⟨rfl, rfl⟩
  go_wp2_with fail
  go_ret
  exact ⟨rfl, rfl⟩
theorem move_nil (w : World) (a b n : Int) : Calls Try.prog 12 #[.pointer none, .int .i64 a, .int .i64 b, .int .i64 n] w fun e w' => e = .returned (.int .i64 1) ∧ w = w' := by
  go_enter Try.func12, Try.ntmps12
  go_wp2_with fail
  go_ret
  exact ⟨rfl, rfl⟩
theorem clear_nil (w : World) (a n : Int) : Calls Try.prog 17 #[.pointer none, .int .i64 a, .int .i64 n] w fun e w' => e = .returned (.int .i64 1) ∧ w = w' := by
  go_enter Try.func17, Try.ntmps17
  go_wp2_with fail
  go_ret
  exact ⟨rfl, rfl⟩
theorem len_nil (w : World) : Calls Try.prog 18 #[.pointer none] w fun e w' => e = .returned (.int .i64 0) ∧ w = w' := by
  go_enter Try.func18, Try.ntmps18
  go_wp2_with fail
  go_ret
  exact ⟨rfl, rfl⟩
theorem none_law (w : World) (a b n : Int) : Calls Try.prog 7 #[.int .i64 a, .int .i64 b, .int .i64 n] w fun e w' => e = .returned (.bool true) ∧ Below w.heap.size w w' := by
  go_enter Try.func7, Try.ntmps7
  go_wp2_with fail
  refine (read_nil _ a).mono ?_; rintro e w' ⟨rfl, rfl⟩
  go_wp2_with fail
  refine (awake_any _).mono ?_; rintro e w1 ⟨rfl, hb⟩
  have B := Lib.hid hb
  clear hb
  go_wp2_with fail
  refine (write_nil _ a 1).mono ?_; rintro e w' ⟨rfl, rfl⟩
  go_wp2_with fail
  refine (move_nil _ a b n).mono ?_; rintro e w' ⟨rfl, rfl⟩
  go_wp2_with fail
  refine (clear_nil _ b n).mono ?_; rintro e w' ⟨rfl, rfl⟩
  go_wp2_with fail
  refine (len_nil _).mono ?_; rintro e w' ⟨rfl, rfl⟩
  go_wp2_with fail
  go_ret
  exact ⟨rfl, B⟩
end Go.Proofs.Ytleockiemeabdaa.Clears
