/- A filled arena, and the first call of each statement of layer 2. -/
import Derived.Test.YtleockiemeabdaaAr
set_option linter.unusedVariables false
namespace Go.Proofs.Ytleockiemeabdaa.Fi
open Go.RowKit
open Ar
def fillTo (n k : Nat) : List Int := (List.range n).map fun i => if i < k then (i : Int) + 1 else 0
theorem length_fillTo (n k : Nat) : (fillTo n k).length = n := by simp [fillTo]
theorem fillTo_zero (n : Nat) : fillTo n 0 = List.replicate n 0 := by
  unfold fillTo
  apply List.ext_getElem
  · simp
  · intro i h1 h2; simp
theorem fillTo_set (n k : Nat) (h : k < n) : (fillTo n k).set k ((k : Int) + 1) = fillTo n (k + 1) := by
  unfold fillTo
  apply List.ext_getElem
  · simp
  · intro i h1 h2
    simp only [List.getElem_set, List.getElem_map, List.getElem_range]
    by_cases e : k = i
    · subst e; simp
    · rw [if_neg e]
      by_cases l : i < k
      · rw [if_pos l, if_pos (by omega)]
      · rw [if_neg l, if_neg (by omega)]
theorem fillTo_getD (n i : Nat) (h : i < n) : (fillTo n n).getD i 0 = (i : Int) + 1 := by
  simp [fillTo, List.getD_eq_getElem?_getD, h]
set_option maxHeartbeats 1000000 in
theorem filled_any (w : World) (n : Nat) (n1 : 1 ≤ n) (n2 : n ≤ 100) :
    Calls Try.prog 8 #[.int .i64 n] w fun e w' => ∃ g r, e = .returned (.pointer (some ⟨g, 0, none⟩)) ∧ w.heap.size ≤ g ∧ w.heap.size ≤ r ∧ Own 53 w' g r (fillTo n n) ∧ Below w.heap.size w w' := by
  go_enter Try.func8, Try.ntmps8
  go_wp2_with fail
  refine (new_ok _ n (by omega) (by omega)).mono ?_; rintro e w1 ⟨g, r, rfl, hg, hr, ho, hb⟩
  rw [Int.toNat_natCast, ← fillTo_zero] at ho
  have Ho := Lib.hid ho
  have Hb := Lib.hid hb
  have Hg := Lib.hid hg
  have Hr := Lib.hid hr
  clear ho hb hg hr
  go_wp2_with fail
  go_loopw [5] (fun i wr => ∃ k : Nat, k ≤ n ∧ i = .int .i64 k ∧ Hid (Own 53 wr g r (fillTo n k)) ∧ Hid (Below w.heap.size w wr)) (fun i _ => n - (intOf i).toNat)
  case atStart => exact ⟨0, Nat.zero_le _, rfl, Ho, Hb⟩
  case round =>
    obtain ⟨k, hk, rfl, hO, hB⟩ := hrel
    by_cases hlt : k < n
    · go_wp2_with fail
      refine (write_any _ g r _ k (k + 1) hO (by omega) (by omega)).mono ?_; rintro e w2 ⟨rfl, hO2, hM⟩
      have e1 : writeV (fillTo n k) k (k + 1) = fillTo n (k + 1) := by
        unfold writeV
        rw [length_fillTo, if_pos (by omega), Int.toNat_natCast, fillTo_set n k hlt]
      rw [e1] at hO2
      have hB2 : Hid (Below w.heap.size w w2) := (Kit.Mod.below ((Kit.Mod.of_below (S := []) hB).trans hM (fun x hx => .inr (by simp at hx; subst hx; exact Hr))))
      have HO2 := Lib.hid hO2
      clear e1 hO2 hM
      go_wp2_with fail
      go_roundw
      case rel => exact ⟨k + 1, by omega, by go_num, HO2, hB2⟩
      case measure => simp [intOf]; omega
    · obtain rfl : k = n := by omega
      go_wp2_with fail
      go_ret
      exact ⟨g, r, rfl, Hg, Hr, hO, hB⟩
theorem awake_any (w : World) : Calls Try.prog 9 #[] w fun e w' => e = .returned (.bool true) ∧ Below w.heap.size w w' := by
  go_enter Try.func9, Try.ntmps9
  go_wp2_with fail
  refine (new_ok _ 4 (by omega) (by omega)).mono ?_; rintro e w1 ⟨g, r, rfl, hg, hr, ho, hb⟩
  have Ho := Lib.hid ho
  have Hb := Lib.hid hb
  have Hr := Lib.hid hr
  clear ho hb hg hr
  go_wp2_with fail
  refine (write_any _ g r _ 1 7 Ho (by omega) (by omega)).mono ?_; rintro e w2 ⟨rfl, hO, hM⟩
  have Hb2 := Lib.hid (Kit.step1 Hb hM Hr)
  have Ho2 : Hid (Own 53 w2 g r [0, 7, 0, 0]) := hO
  clear hO hM Ho Hb
  rw [show atE (List.replicate (4 : Int).toNat (0 : Int)).length 1 = 0 by decide +kernel]
  go_wp2_with fail
  refine (move_any _ g r _ 2 0 2 Ho2 (by omega) (by omega)).mono ?_; rintro e w3 ⟨rfl, hO, hM⟩
  have Hb3 := Lib.hid (Kit.step1 Hb2 hM Hr)
  have Ho3 : Hid (Own 53 w3 g r [0, 7, 0, 7]) := hO
  clear hO hM Ho2 Hb2
  rw [show moveE ([0, 7, 0, 0] : List Int).length 2 0 2 = 0 by decide +kernel]
  go_wp2_with fail
  refine (read_any _ g r _ 3 Ho3).mono ?_; rintro e w' ⟨rfl, rfl⟩
  rw [show readV [0, 7, 0, 7] 3 = 7 by decide +kernel, show atE ([0, 7, 0, 7] : List Int).length 3 = 0 by decide +kernel]
  go_wp2_with fail
  refine (len_any _ g r _ Ho3).mono ?_; rintro e w' ⟨rfl, rfl⟩
  rw [show ((([0, 7, 0, 7] : List Int).length : Nat) : Int) = 4 by decide +kernel]
  go_wp2_with fail
  go_ret
  exact ⟨rfl, Hb3⟩
end Go.Proofs.Ytleockiemeabdaa.Fi
