/- For every size and every list of acts, the law ArenaDoes tells true: every call of an arena is answered as the document says. No condition. -/
import Derived.Test.YtleockiemeabdaaDo
import Derived.Test.YtleockiemeabdaaFi
import Derived.Test.YtleockiemeabdaaAg
set_option linter.unusedVariables false
namespace Go.Proofs.Ytleockiemeabdaa.Does
open Go.RowKit
open Ar Both
theorem readV_in (xs : List Int) (k : Nat) (h : k < xs.length) : readV xs k = xs.getD k 0 := by
  unfold readV; rw [if_pos (by omega), Int.toNat_natCast]
theorem atE_in (n k : Nat) (h : k < n) : atE n k = 0 := by unfold atE; rw [if_pos (by omega)]
set_option maxHeartbeats 1000000 in
theorem same_any (w : World) (g r g' r' : Nat) (xs : List Int) (T : Two w g r g' r' xs) :
    Calls Try.prog 16 #[.pointer (some ⟨g, 0, none⟩), .slice (some ⟨r', 0, none⟩) xs.length xs.length] w fun e w' => e = .returned (.bool true) ∧ w = w' := by
  have hs := T.one.small
  go_enter Try.func16, Try.ntmps16
  go_wp2_with fail
  go_loop [5] (fun i => ∃ k : Nat, k ≤ xs.length ∧ i = .int .i64 k) (fun i => xs.length - (intOf i).toNat)
  case atStart => exact ⟨0, Nat.zero_le _, rfl⟩
  case round =>
    obtain ⟨k, hk, rfl⟩ := hrel
    by_cases hlt : k < xs.length
    · have hrd := read_any w g r xs k T.one
      rw [readV_in xs k hlt, atE_in _ k hlt] at hrd
      have Hd := Lib.hid hrd
      have c := Rw.cell T.two.row k hlt
      generalize xs.getD k 0 = x at *
      clear hrd
      go_wp2_with fail
      refine (Hd.out).mono ?_; rintro e w' ⟨rfl, rfl⟩
      go_wp2_with fail
      go_round
      case rel => exact ⟨k + 1, by omega, by go_num⟩
      case measure => simp [intOf]; omega
    · obtain rfl : k = xs.length := by omega
      go_wp2_with fail
      refine (len_any w g r xs T.one).mono ?_; rintro e w' ⟨rfl, rfl⟩
      go_wp2_with fail
      go_ret
      exact ⟨Kit.ret_bool (by simp), rfl⟩
theorem law_bad (w : World) (n : Int) (A : Option Addr) (len cap : Nat) (h : n < 1 ∨ 524288 < n) :
    Calls Try.prog 5 #[.int .i64 n, .slice A len cap] w fun e w' => e = .returned (.bool true) ∧ Below w.heap.size w w' := by
  go_enter Try.func5, Try.ntmps5
  go_wp2_with fail
  refine (new_bad _ n h).mono ?_; rintro e w' ⟨rfl, rfl⟩
  go_wp2_with fail
  refine (Rf.new_bad _ n h).mono ?_; rintro e w' ⟨rfl, rfl⟩
  go_wp2_with fail
  refine (Fi.awake_any _).mono ?_; rintro e w1 ⟨rfl, hb⟩
  have B := Lib.hid hb
  clear hb
  go_wp2_with fail
  go_ret
  exact ⟨rfl, B⟩
set_option maxHeartbeats 2000000 in
theorem law_ok (w : World) (n : Int) (A : Option Addr) (len cap : Nat) (L : Nat → List Int) (n1 : 1 ≤ n) (n2 : n ≤ 524288) (R : Ag.Rows w A len [.i64, .i64, .i64, .i64, .u64] L) :
    Calls Try.prog 5 #[.int .i64 n, .slice A len cap] w fun e w' => e = .returned (.bool true) ∧ Below w.heap.size w w' := by
  have hmax := R.max
  go_enter Try.func5, Try.ntmps5
  go_wp2_with fail
  refine (new_ok _ n n1 n2).mono ?_; rintro e w1 ⟨g, r, rfl, hg, hr, ho, hb⟩
  have Hg := Lib.hid hg
  have Hr := Lib.hid hr
  have Ho := Lib.hid ho
  have Hb := Lib.hid hb
  clear hg hr ho hb
  go_wp2_with fail
  refine (Rf.new_ok _ n n1 n2).mono ?_; rintro e w2 ⟨g', r', rfl, hg', hr', ho', hb⟩
  have z1 := Kit.lt_of Ho.out.obj
  have z2 := Kit.lt_of Ho.out.row
  have T0 : Hid (Two w2 g r g' r' (List.replicate n.toNat 0)) := ⟨Ho.out.keepB hb, ho', by omega, by omega, by omega, by omega⟩
  have Hg' := Lib.hid (Nat.le_trans Hb.out.size hg')
  have Hr' := Lib.hid (Nat.le_trans Hb.out.size hr')
  have Hb2 := Lib.hid (Kit.stepB Hb hb)
  clear hg' hr' ho' hb z1 z2 Ho Hb
  go_wp2_with fail
  refine (Fi.awake_any _).mono ?_; rintro e w3 ⟨rfl, hb⟩
  have T1 : Hid (Two w3 g r g' r' (List.replicate n.toNat 0)) := ⟨T0.out.one.keepB hb, T0.out.two.keepB hb, T0.out.ne1, T0.out.ne2, T0.out.ne3, T0.out.ne4⟩
  have Hb3 := Lib.hid (Kit.stepB Hb2 hb)
  clear hb T0 Hb2
  go_wp2_with fail
  have Hn : Hid ((List.replicate n.toNat (0 : Int)).length = n.toNat) := List.length_replicate
  go_loopw [9] (fun i wr => ∃ (k : Nat) (xs : List Int), k ≤ len ∧ k ≤ 60 ∧ i = .int .i64 k ∧ Hid (xs.length = n.toNat) ∧ Hid (Two wr g r g' r' xs) ∧ Hid (Below w.heap.size w wr)) (fun i _ => len - (intOf i).toNat)
  case atStart => exact ⟨0, _, Nat.zero_le _, Nat.zero_le _, rfl, Hn, T1, Hb3⟩
  case round =>
    obtain ⟨k, xs, hk, hk6, rfl, hX, hT, hB⟩ := hrel
    clear T1 Hb3 Hn
    have fin : ∀ (h : Hid (xs.length = n.toNat)), 1 ≤ xs.length := fun h => by have := h.out; omega
    have Hx := Lib.hid (fin hX)
    clear fin
    by_cases hlt : k < len ∧ k < 60
    · obtain ⟨l1, l2⟩ := hlt
      obtain ⟨b, off, hA, hb, hc⟩ := R.cells (by omega)
      obtain ⟨hl, hc⟩ := hc k l1
      obtain ⟨x0, _, c0, _⟩ := hc 0 .i64 rfl
      obtain ⟨x1, _, c1, _⟩ := hc 1 .i64 rfl
      obtain ⟨x2, _, c2, _⟩ := hc 2 .i64 rfl
      obtain ⟨x3, _, c3, w3⟩ := hc 3 .i64 rfl
      obtain ⟨x4, _, c4, w4⟩ := hc 4 .u64 rfl
      have b3 := bounds_i64 w3
      have b4 := bounds_u64 w4
      replace c0 := (hB.out.cell (p := ⟨b, off + (k * 5 + 0), none⟩) hb).trans c0
      replace c1 := (hB.out.cell (p := ⟨b, off + (k * 5 + 1), none⟩) hb).trans c1
      replace c2 := (hB.out.cell (p := ⟨b, off + (k * 5 + 2), none⟩) hb).trans c2
      replace c3 := (hB.out.cell (p := ⟨b, off + (k * 5 + 3), none⟩) hb).trans c3
      replace c4 := (hB.out.cell (p := ⟨b, off + (k * 5 + 4), none⟩) hb).trans c4
      rw [Nat.add_zero] at c0
      rw [← Nat.add_assoc] at c1 c2 c3 c4
      subst hA
      clear hc hl w3 w4
      obtain ⟨b30, b31⟩ := b3
      obtain ⟨b40, b41⟩ := b4
      go_wp2_with fail
      refine (do_any _ g r g' r' xs x0 x1 x2 x3 x4 hT Hx b40 b41 b30 b31).mono ?_; rintro e w4 ⟨rfl, hT2, hM⟩
      have T2 := Lib.hid hT2
      have B2 := Lib.hid (Kit.step hB.out hM (fun x hx => by simp at hx; rcases hx with rfl | rfl; exact Hr; exact Hr'))
      have X2 : Hid ((after xs x0 x1 x2 x3 x4).length = n.toNat) := (length_after _ _ _ _ _ _).trans hX
      clear hT2 hM
      go_wp2_with fail
      go_roundw
      case rel => exact ⟨k + 1, _, by omega, by omega, by go_num, X2, T2, B2⟩
      case measure => simp [intOf]; omega
    · have hend : len ≤ k ∨ (k < len ∧ 60 ≤ k) := by omega
      clear hlt
      rcases hend with e1 | ⟨e1, e2⟩
      all_goals
        by_cases big : 4096 < n
        · go_wp2_with fail
          go_ret
          exact ⟨Kit.ret_bool (by simp), hB⟩
        · have c2 := Kit.cells1 hT.out.two.obj
          go_wp2_with fail
          refine (same_any _ g r g' r' xs hT).mono ?_; rintro e w' ⟨rfl, rfl⟩
          go_wp2_with fail
          go_ret
          exact ⟨Kit.ret_bool (by simp), hB⟩
theorem law (w : World) (n : Int) (A : Option Addr) (len cap : Nat) (L : Nat → List Int) (R : Ag.Rows w A len [.i64, .i64, .i64, .i64, .u64] L) :
    Calls Try.prog 5 #[.int .i64 n, .slice A len cap] w fun e w' => e = .returned (.bool true) ∧ Below w.heap.size w w' := by
  by_cases h : n < 1 ∨ 524288 < n
  · exact law_bad w n A len cap h
  · exact law_ok w n A len cap L (by omega) (by omega) R
end Go.Proofs.Ytleockiemeabdaa.Does
