/- For every 8-bit n and every act, the law ArenaMoves tells true: words that are moved are what they were, wherever they come to stand, and all others stay. No condition. -/
import Derived.Test.YtleockiemeabdaaKeeps
import Derived.Deep.QuietTactic
import Derived.BigQuiet
set_option linter.unusedVariables false
namespace Go.Proofs.Ytleockiemeabdaa.Moves
open Go.RowKit
open Ar Fi Keeps
theorem over_fill (m a b n k : Nat) (h1 : a + n ≤ m) (h2 : b + n ≤ m) (hk : k < m) : (Rw.over (fillTo m m) a (((fillTo m m).drop b).take n)).getD k 0 = if a ≤ k ∧ k < a + n then (b : Int) + k - a + 1 else (k : Int) + 1 := by
  have hl : (((fillTo m m).drop b).take n).length = n := by simp [length_fillTo]; omega
  rw [Rw.over_getD _ _ _ (by rw [hl, length_fillTo]; exact h1), hl]
  by_cases c : a ≤ k ∧ k < a + n
  · rw [if_pos c, if_pos c, List.getD_eq_getElem?_getD, List.getElem?_take_of_lt (by omega), List.getElem?_drop, ← List.getD_eq_getElem?_getD, fillTo_getD m _ (by omega)]
    omega
  · rw [if_neg c, if_neg c, fillTo_getD m k hk]
set_option maxHeartbeats 2000000 in
theorem law_ok (w : World) (n kd v : Int) (a b q m : Nat) (hm : n % 100 + 1 = m) (n0 : 0 ≤ n) (n1 : n ≤ 255) (h1 : a + q ≤ m) (h2 : b + q ≤ m)
    (hE : moveE m a b q = 0) (hV : moveV (fillTo m m) a b q = Rw.over (fillTo m m) a (((fillTo m m).drop b).take q)) :
    Calls Try.prog 4 #[.int .u8 n, .agg #[.int .i64 kd, .int .i64 a, .int .i64 b, .int .i64 q, .int .u64 v]] w fun e w' => e = .returned (.bool true) ∧ Below w.heap.size w w' := by
  have Hl : Hid ((Rw.over (fillTo m m) a (((fillTo m m).drop b).take q)).length = m) := by
    show _ = _
    rw [Rw.length_over _ _ _ (by simp [length_fillTo]; omega), length_fillTo]
  have Hv : Hid (∀ k, k < m → (Rw.over (fillTo m m) a (((fillTo m m).drop b).take q)).getD k 0 = if a ≤ k ∧ k < a + q then (b : Int) + k - a + 1 else (k : Int) + 1) := fun k hk => over_fill m a b q k h1 h2 hk
  have m1 : 1 ≤ m ∧ m ≤ 100 := by omega
  obtain ⟨m1, m2⟩ := m1
  have HE := Lib.hid hE
  have HV := Lib.hid hV
  clear hE hV
  have K0 := Lib.hid (Kit.allocB (Below.refl w.heap.size w) (.cells #[.int .i64 kd, .int .i64 a, .int .i64 b, .int .i64 q, .int .u64 v] 32 (0, 0)))
  go_enter Try.func4, Try.ntmps4
  go_wp2_with fail
  go_quiet (fail)
  have K1 := Lib.hid (Kit.drawB K0 nq)
  clear K0
  go_wp2_with fail
  refine (filled_any _ m m1 m2).mono ?_; rintro e w1 ⟨g, r, rfl, hg, hr, ho, hb⟩
  have Ho := Lib.hid ho
  have Hr := Lib.hid (Nat.le_trans K1.size hr)
  have Hb := Lib.hid (Kit.stepB K1 hb)
  clear ho hb hg hr K1
  go_wp2_with fail
  refine (awake_any _).mono ?_; rintro e w2 ⟨rfl, hb⟩
  have Ho2 := Lib.hid (Own.keepB Ho hb)
  have Hb2 := Lib.hid (Kit.stepB Hb hb)
  clear hb Ho Hb
  go_wp2_with fail
  refine (move_any _ g r _ a b q Ho2 (by omega) (by omega)).mono ?_; rintro e w3 ⟨rfl, hO, hM⟩
  have Hb3 := Lib.hid (Kit.step1 Hb2 hM Hr)
  rw [HV.out] at hO
  rw [length_fillTo, HE.out]
  have Ho3 := Lib.hid hO
  clear hO hM Ho2 Hb2
  go_wp2_with fail
  go_loop [10] (fun i => ∃ k : Nat, k ≤ m ∧ i = .int .i64 k) (fun i => m - (intOf i).toNat)
  case atStart => exact ⟨0, Nat.zero_le _, rfl⟩
  case round =>
    obtain ⟨k, hk, rfl⟩ := hrel
    by_cases hlt : k < m
    · have hrd := read_any w3 g r _ k Ho3
      rw [readV_in _ k (by rw [Hl.out]; exact hlt), Hl.out, atE_in m k hlt, Hv.out k hlt] at hrd
      by_cases c : a ≤ k ∧ k < a + q
      · rw [if_pos c] at hrd
        have Hd := Lib.hid hrd
        obtain ⟨c1, c2⟩ := c
        clear hrd
        go_wp2_with fail
        refine (Hd.out).mono ?_; rintro e w' ⟨rfl, rfl⟩
        go_wp2_with fail
        go_round
        case rel => exact ⟨k + 1, by omega, by go_num⟩
        case measure => simp [intOf]; omega
      · rw [if_neg c] at hrd
        have Hd := Lib.hid hrd
        have c' : k < a ∨ a + q ≤ k := by omega
        clear hrd c
        rcases c' with c1 | c1
        all_goals
          go_wp2_with fail
          refine (Hd.out).mono ?_; rintro e w' ⟨rfl, rfl⟩
          go_wp2_with fail
          go_round
          case rel => exact ⟨k + 1, by omega, by go_num⟩
          case measure => simp [intOf]; omega
    · obtain rfl : k = m := by omega
      go_wp2_with fail
      go_ret
      exact ⟨Kit.ret_bool (by first | rfl | (simp; done)), Hb3⟩
set_option maxHeartbeats 2000000 in
theorem law_bad (w : World) (n kd v a b q er : Int) (m : Nat) (hm : n % 100 + 1 = m) (n0 : 0 ≤ n) (n1 : n ≤ 255) (q0 : -9223372036854775808 ≤ q) (q1 : q ≤ 9223372036854775807)
    (hE : moveE m a b q = er) (e0 : (er != 0) = true) (hV : moveV (fillTo m m) a b q = fillTo m m) :
    Calls Try.prog 4 #[.int .u8 n, .agg #[.int .i64 kd, .int .i64 a, .int .i64 b, .int .i64 q, .int .u64 v]] w fun e w' => e = .returned (.bool true) ∧ Below w.heap.size w w' := by
  have m1 : 1 ≤ m ∧ m ≤ 100 := by omega
  obtain ⟨m1, m2⟩ := m1
  have HE := Lib.hid hE
  have HV := Lib.hid hV
  clear hE hV
  have K0 := Lib.hid (Kit.allocB (Below.refl w.heap.size w) (.cells #[.int .i64 kd, .int .i64 a, .int .i64 b, .int .i64 q, .int .u64 v] 32 (0, 0)))
  go_enter Try.func4, Try.ntmps4
  go_wp2_with fail
  go_quiet (fail)
  have K1 := Lib.hid (Kit.drawB K0 nq)
  clear K0
  go_wp2_with fail
  refine (filled_any _ m m1 m2).mono ?_; rintro e w1 ⟨g, r, rfl, hg, hr, ho, hb⟩
  have Ho := Lib.hid ho
  have Hr := Lib.hid (Nat.le_trans K1.size hr)
  have Hb := Lib.hid (Kit.stepB K1 hb)
  clear ho hb hg hr K1
  go_wp2_with fail
  refine (awake_any _).mono ?_; rintro e w2 ⟨rfl, hb⟩
  have Ho2 := Lib.hid (Own.keepB Ho hb)
  have Hb2 := Lib.hid (Kit.stepB Hb hb)
  clear hb Ho Hb
  go_wp2_with fail
  refine (move_any _ g r _ a b q Ho2 (by omega) (by omega)).mono ?_; rintro e w3 ⟨rfl, hO, hM⟩
  have Hb3 := Lib.hid (Kit.step1 Hb2 hM Hr)
  rw [HV.out] at hO
  rw [length_fillTo, HE.out]
  have Ho3 := Lib.hid hO
  clear hO hM Ho2 Hb2
  go_wp2_with fail
  go_loop [10] (fun i => ∃ k : Nat, k ≤ m ∧ i = .int .i64 k) (fun i => m - (intOf i).toNat)
  case atStart => exact ⟨0, Nat.zero_le _, rfl⟩
  case round =>
    obtain ⟨k, hk, rfl⟩ := hrel
    by_cases hlt : k < m
    · have hrd := read_any w3 g r _ k Ho3
      rw [readV_in _ k (by rw [length_fillTo]; exact hlt), length_fillTo, atE_in m k hlt, fillTo_getD m k hlt] at hrd
      have Hd := Lib.hid hrd
      clear hrd
      go_wp2_with fail
      refine (Hd.out).mono ?_; rintro e w' ⟨rfl, rfl⟩
      go_wp2_with fail
      go_round
      case rel => exact ⟨k + 1, by omega, by go_num⟩
      case measure => simp [intOf]; omega
    · obtain rfl : k = m := by omega
      go_wp2_with fail
      go_ret
      exact ⟨Kit.ret_bool (by first | rfl | (simp; done)), Hb3⟩
theorem law (w : World) (n kd a b q v : Int) (n0 : 0 ≤ n) (n1 : n ≤ 255) (q0 : -9223372036854775808 ≤ q) (q1 : q ≤ 9223372036854775807) :
    Calls Try.prog 4 #[.int .u8 n, .agg #[.int .i64 kd, .int .i64 a, .int .i64 b, .int .i64 q, .int .u64 v]] w fun e w' => e = .returned (.bool true) ∧ Below w.heap.size w w' := by
  obtain ⟨m, hm⟩ := Int.eq_ofNat_of_zero_le (show 0 ≤ n % 100 + 1 by omega)
  by_cases hE : moveE m a b q = 0
  · have hc : 0 ≤ q ∧ rowE m a q = 0 ∧ rowE m b q = 0 := by
      unfold moveE at hE
      by_cases c0 : q < 0
      · rw [if_pos c0] at hE; omega
      · rw [if_neg c0] at hE
        by_cases c1 : rowE m a q = 0 ∧ rowE m b q = 0
        · exact ⟨by omega, c1⟩
        · rw [if_neg c1] at hE; omega
    have f : ∀ i, rowE m i q = 0 → 0 ≤ i ∧ i ≤ m ∧ q ≤ m - i := fun i hr => by
      unfold rowE at hr
      by_cases d : 0 ≤ i ∧ i ≤ m ∧ q ≤ m - i
      · exact d
      · rw [if_neg d] at hr; omega
    have fa := f a hc.2.1
    have fb := f b hc.2.2
    obtain ⟨a, rfl⟩ := Int.eq_ofNat_of_zero_le fa.1
    obtain ⟨b, rfl⟩ := Int.eq_ofNat_of_zero_le fb.1
    obtain ⟨q, rfl⟩ := Int.eq_ofNat_of_zero_le hc.1
    refine law_ok w n kd v a b q m hm n0 n1 (by omega) (by omega) hE ?_
    unfold moveV
    rw [length_fillTo, if_pos hE]
    simp only [Int.toNat_natCast]
  · have e0 : moveE m a b q = 4 ∨ moveE m a b q = 7 := by
      unfold moveE at hE ⊢
      by_cases c0 : q < 0
      · rw [if_pos c0]; omega
      · rw [if_neg c0] at hE ⊢
        by_cases c1 : rowE m a q = 0 ∧ rowE m b q = 0
        · rw [if_pos c1] at hE; omega
        · rw [if_neg c1]; omega
    have hV : moveV (fillTo m m) a b q = fillTo m m := by
      unfold moveV
      rw [length_fillTo, if_neg hE]
    rcases e0 with e0 | e0
    · exact law_bad w n kd v a b q 4 m hm n0 n1 q0 q1 e0 rfl hV
    · exact law_bad w n kd v a b q 7 m hm n0 n1 q0 q1 e0 rfl hV
end Go.Proofs.Ytleockiemeabdaa.Moves
