/- For every 8-bit n, every place and every word, the law ArenaKeeps tells true: a word that is written changes no other one. No condition. -/
import Derived.Test.YtleockiemeabdaaFi
set_option linter.unusedVariables false
namespace Go.Proofs.Ytleockiemeabdaa.Keeps
open Go.RowKit
open Ar Fi
theorem readV_in (xs : List Int) (k : Nat) (h : k < xs.length) : readV xs k = xs.getD k 0 := by
  unfold readV; rw [if_pos (by omega), Int.toNat_natCast]
theorem atE_in (n k : Nat) (h : k < n) : atE n k = 0 := by unfold atE; rw [if_pos (by omega)]
set_option maxHeartbeats 1000000 in
theorem law_in (w : World) (n v : Int) (a m : Nat) (hm : n % 100 + 1 = m) (n0 : 0 ≤ n) (n1 : n ≤ 255) (ha : a < m) (v0 : 0 ≤ v) (v1 : v ≤ 18446744073709551615) :
    Calls Try.prog 3 #[.int .u8 n, .int .i64 a, .int .u64 v] w fun e w' => e = .returned (.bool true) ∧ Below w.heap.size w w' := by
  have m1 : 1 ≤ m ∧ m ≤ 100 := by omega
  obtain ⟨m1, m2⟩ := m1
  go_enter Try.func3, Try.ntmps3
  go_wp2_with fail
  refine (filled_any _ m m1 m2).mono ?_; rintro e w1 ⟨g, r, rfl, hg, hr, ho, hb⟩
  have Ho := Lib.hid ho
  have Hb := Lib.hid hb
  have Hr := Lib.hid hr
  clear ho hb hg hr
  go_wp2_with fail
  refine (awake_any _).mono ?_; rintro e w2 ⟨rfl, hb⟩
  have Ho2 := Lib.hid (Own.keepB Ho hb)
  have Hb2 := Lib.hid (Kit.stepB Hb hb)
  clear hb Ho Hb
  go_wp2_with fail
  refine (write_any _ g r _ a v Ho2 v0 v1).mono ?_; rintro e w3 ⟨rfl, hO, hM⟩
  have Hb3 := Lib.hid (Kit.step1 Hb2 hM Hr)
  rw [length_fillTo, atE_in m a ha]
  obtain ⟨xs, hxs⟩ : ∃ xs, xs = writeV (fillTo m m) a v := ⟨_, rfl⟩
  rw [← hxs] at hO
  have hl : xs.length = m := by rw [hxs, writeV_length, length_fillTo]
  have hv : ∀ k, k < m → xs.getD k 0 = if k = a then v else (k : Int) + 1 := fun k hk => by
    rw [hxs]
    unfold writeV
    rw [length_fillTo, if_pos (by omega), Int.toNat_natCast, List.getD_eq_getElem?_getD, List.getElem?_set]
    by_cases e : a = k
    · subst e; simp [length_fillTo, hk]
    · rw [if_neg e, if_neg (by omega), ← List.getD_eq_getElem?_getD, fillTo_getD m k hk]
  have Ho3 := Lib.hid hO
  have Hl := Lib.hid hl
  have Hv := Lib.hid hv
  clear hO hM hxs hl hv Ho2 Hb2
  go_wp2_with fail
  go_loop [10] (fun i => ∃ k : Nat, k ≤ m ∧ i = .int .i64 k) (fun i => m - (intOf i).toNat)
  case atStart => exact ⟨0, Nat.zero_le _, rfl⟩
  case round =>
    obtain ⟨k, hk, rfl⟩ := hrel
    by_cases hlt : k < m
    · have hrd := read_any w3 g r xs k Ho3
      rw [readV_in xs k (by rw [Hl.out]; exact hlt), Hl.out, atE_in m k hlt, Hv.out k hlt] at hrd
      by_cases e : k = a
      · rw [if_pos e] at hrd
        have Hd := Lib.hid hrd
        clear hrd
        subst e
        go_wp2_with fail
        refine (Hd.out).mono ?_; rintro e w' ⟨rfl, rfl⟩
        go_wp2_with fail
        go_round
        case rel => exact ⟨k + 1, by omega, by go_num⟩
        case measure => simp [intOf]; omega
      · rw [if_neg e] at hrd
        have Hd := Lib.hid hrd
        clear hrd
        rcases Nat.lt_or_gt_of_ne e with e1 | e1
        all_goals
          clear e
          go_wp2_with fail
          refine (Hd.out).mono ?_; rintro e w' ⟨rfl, rfl⟩
          go_wp2_with fail
          go_round
          case rel => exact ⟨k + 1, by omega, by go_num⟩
          case measure => simp [intOf]; omega
    · obtain rfl : k = m := by omega
      go_wp2_with fail
      go_ret
      exact ⟨Kit.ret_bool (by simp), Hb3⟩
set_option maxHeartbeats 1000000 in
theorem law_out (w : World) (n v a : Int) (m : Nat) (hm : n % 100 + 1 = m) (n0 : 0 ≤ n) (n1 : n ≤ 255) (ha : a < 0 ∨ (m : Int) ≤ a) (v0 : 0 ≤ v) (v1 : v ≤ 18446744073709551615) :
    Calls Try.prog 3 #[.int .u8 n, .int .i64 a, .int .u64 v] w fun e w' => e = .returned (.bool true) ∧ Below w.heap.size w w' := by
  have m1 : 1 ≤ m ∧ m ≤ 100 := by omega
  obtain ⟨m1, m2⟩ := m1
  have hE : atE m a = 4 := by unfold atE; rw [if_neg (by omega)]
  have hW : writeV (fillTo m m) a v = fillTo m m := by unfold writeV; rw [length_fillTo, if_neg (by omega)]
  have HE := Lib.hid hE
  have HW := Lib.hid hW
  clear hE hW
  rcases ha with ha | ha
  all_goals
    go_enter Try.func3, Try.ntmps3
    go_wp2_with fail
    refine (filled_any _ m m1 m2).mono ?_; rintro e w1 ⟨g, r, rfl, hg, hr, ho, hb⟩
    have Ho := Lib.hid ho
    have Hb := Lib.hid hb
    have Hr := Lib.hid hr
    clear ho hb hg hr
    go_wp2_with fail
    refine (awake_any _).mono ?_; rintro e w2 ⟨rfl, hb⟩
    have Ho2 := Lib.hid (Own.keepB Ho hb)
    have Hb2 := Lib.hid (Kit.stepB Hb hb)
    clear hb Ho Hb
    go_wp2_with fail
    refine (write_any _ g r _ a v Ho2 v0 v1).mono ?_; rintro e w3 ⟨rfl, hO, hM⟩
    have Hb3 := Lib.hid (Kit.step1 Hb2 hM Hr)
    rw [HW.out] at hO
    rw [length_fillTo, HE.out]
    have Ho3 := Lib.hid hO
    clear hO hM Ho2 Hb2
    go_wp2_with fail
    go_loop [10] (fun i => ∃ k : Nat, k ≤ m ∧ i = .int .i64 k) (fun i => m - (intOf i).toNat)
    case atStart => exact ⟨0, Nat.zero_le _, rfl⟩
    case round =>
      obtain ⟨k, hk, rfl⟩ := hrel
      by_cases hlt : k < m
      · have hrd := read_any w3 g r _ k Ho3
        rw [readV_in _ k (by rw [length_fillTo]; exact hlt), length_fillTo, atE_in m k hlt, fillTo_getD m k hlt] at hrd
        have Hd := Lib.hid hrd
        clear hrd
        (first | have e1 : a < (k : Int) := by omega | have e1 : (k : Int) < a := by omega)
        go_wp2_with fail
        refine (Hd.out).mono ?_; rintro e w' ⟨rfl, rfl⟩
        go_wp2_with fail
        go_round
        case rel => exact ⟨k + 1, by omega, by go_num⟩
        case measure => simp [intOf]; omega
      · obtain rfl : k = m := by omega
        go_wp2_with fail
        go_ret
        exact ⟨Kit.ret_bool (by first | (simp; done) | (simp; omega)), Hb3⟩
theorem law (w : World) (n v a : Int) (n0 : 0 ≤ n) (n1 : n ≤ 255) (v0 : 0 ≤ v) (v1 : v ≤ 18446744073709551615) :
    Calls Try.prog 3 #[.int .u8 n, .int .i64 a, .int .u64 v] w fun e w' => e = .returned (.bool true) ∧ Below w.heap.size w w' := by
  obtain ⟨m, hm⟩ := Int.eq_ofNat_of_zero_le (show 0 ≤ n % 100 + 1 by omega)
  by_cases ha : 0 ≤ a ∧ a < m
  · obtain ⟨a, rfl⟩ := Int.eq_ofNat_of_zero_le ha.1
    exact law_in w n v a m hm n0 n1 (by omega) v0 v1
  · exact law_out w n v a m hm n0 n1 (by omega) v0 v1
end Go.Proofs.Ytleockiemeabdaa.Keeps
