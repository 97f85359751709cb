/- New stacks; how many frames and words; the law's own stack. No condition. -/
import Derived.Test.YtedkackmccnkfaaPo
set_option linter.unusedVariables false
set_option linter.unusedSimpArgs false
namespace Go.Proofs.Ytedkackmccnkfaa.Nw
open Go.RowKit
open Fr Fs Ft Ar Sk Pu Pv Fa Po
section
variable {w w' : World} {g ga r fr wd : Nat} {xs : List Int} {L : List Fm}
theorem len_it (K : Stk w g ga r fr wd xs L) : Calls Try.prog 20 #[.pointer (some ⟨g, 0, none⟩)] w fun e w' => e = .returned (.int .i64 L.length) ∧ w' = w := by
  have cs := Stk.cells K
  clear K
  generalize (lay L).length = ul at *
  generalize L.length = n at *
  go_enter Try.func20, Try.ntmps20
  go_wp2_with fail
  go_ret
  exact ⟨rfl, rfl⟩
theorem used_it (K : Stk w g ga r fr wd xs L) : Calls Try.prog 21 #[.pointer (some ⟨g, 0, none⟩)] w fun e w' => e = .returned (.int .i64 (lay L).length) ∧ w' = w := by
  have cs := Stk.cells K
  clear K
  generalize (lay L).length = ul at *
  generalize L.length = n at *
  go_enter Try.func21, Try.ntmps21
  go_wp2_with fail
  go_ret
  exact ⟨rfl, rfl⟩
theorem len_nil (w : World) : Calls Try.prog 20 #[.pointer none] w fun e w' => e = .returned (.int .i64 0) ∧ w' = w := by
  go_enter Try.func20, Try.ntmps20
  go_wp2_with fail
  go_ret
  exact ⟨rfl, rfl⟩
theorem used_nil (w : World) : Calls Try.prog 21 #[.pointer none] w fun e w' => e = .returned (.int .i64 0) ∧ w' = w := by
  go_enter Try.func21, Try.ntmps21
  go_wp2_with fail
  go_ret
  exact ⟨rfl, rfl⟩
theorem new_nil (w : World) (a b : Int) : Calls Try.prog 13 #[.pointer none, .int .i64 a, .int .i64 b] w fun e w' => e = .returned (.tuple #[.pointer none, .int .i64 1]) ∧ w' = w := by
  go_enter Try.func13, Try.ntmps13
  go_wp2_with fail
  go_ret2
  exact ⟨rfl, rfl⟩
theorem new_size (w : World) (ga : Nat) (a b : Int) (h : b < 1 ∨ 65536 < b) : Calls Try.prog 13 #[.pointer (some ⟨ga, 0, none⟩), .int .i64 a, .int .i64 b] w fun e w' => e = .returned (.tuple #[.pointer none, .int .i64 7]) ∧ w' = w := by
  rcases h with h | h
  · have e1 : decide (b < 1) = true := decide_eq_true h
    go_enter Try.func13, Try.ntmps13
    go_wp2_with fail
    go_ret2
    exact ⟨rfl, rfl⟩
  · have e1 : decide (b < 1) = false := decide_eq_false (by omega)
    have e2 : decide (65536 < b) = true := decide_eq_true h
    go_enter Try.func13, Try.ntmps13
    go_wp2_with fail
    go_ret2
    exact ⟨rfl, rfl⟩
theorem lenS (O : Own 71 w ga r xs) : Calls Try.prog 32 #[.pointer (some ⟨ga, 0, none⟩)] w fun e w' => e = .returned (.int .i64 xs.length) ∧ w' = w := (len_any w ga r xs O).mono fun _ _ h => ⟨h.1, h.2.symm⟩
theorem new_range (O : Own 71 w ga r xs) (a b : Int) (hb : 1 ≤ b ∧ b ≤ 65536) (h : a < 0 ∨ (0 ≤ a ∧ (xs.length : Int) < a) ∨ ((0 ≤ a ∧ a ≤ xs.length) ∧ (xs.length : Int) - a < b)) : Calls Try.prog 13 #[.pointer (some ⟨ga, 0, none⟩), .int .i64 a, .int .i64 b] w fun e w' => e = .returned (.tuple #[.pointer none, .int .i64 4]) ∧ w' = w := by
  have LN := Lib.hid (lenS O)
  have hs := O.small
  clear O
  have e1 : decide (b < 1) = false := decide_eq_false (by omega)
  have e2 : decide (65536 < b) = false := decide_eq_false (by omega)
  generalize xs.length = n at *
  rcases h with h | ⟨h, h2⟩ | ⟨⟨h, h2⟩, h3⟩
  · have e3 : decide (a < 0) = true := decide_eq_true h
    go_enter Try.func13, Try.ntmps13
    go_wp2_with fail
    go_ret2
    exact ⟨rfl, rfl⟩
  · have e3 : decide (a < 0) = false := decide_eq_false (by omega)
    have e4 : decide ((n : Int) < a) = true := decide_eq_true h2
    go_enter Try.func13, Try.ntmps13
    go_wp2_with fail
    refine LN.out.mono ?_; rintro e w1 ⟨rfl, rfl⟩
    go_wp2_with fail
    go_ret2
    exact ⟨rfl, rfl⟩
  · have e3 : decide (a < 0) = false := decide_eq_false (by omega)
    have e4 : decide ((n : Int) < a) = false := decide_eq_false (by omega)
    have e5 : decide ((n : Int) - a < b) = true := decide_eq_true h3
    go_enter Try.func13, Try.ntmps13
    go_wp2_with fail
    refine LN.out.mono ?_; rintro e w1 ⟨rfl, rfl⟩
    go_wp2_with fail
    refine LN.out.mono ?_; rintro e w1 ⟨rfl, rfl⟩
    go_wp2_with fail
    go_ret2
    exact ⟨rfl, rfl⟩
theorem new_it (O : Own 71 w ga r xs) (hne : ga ≠ r) (a b : Nat) (hb : 1 ≤ b ∧ b ≤ 65536) (h : a + b ≤ xs.length) : Calls Try.prog 13 #[.pointer (some ⟨ga, 0, none⟩), .int .i64 a, .int .i64 b] w fun e w' => ∃ g, e = .returned (.tuple #[.pointer (some ⟨g, 0, none⟩), .int .i64 0]) ∧ w.heap.size ≤ g ∧ Stk w' g ga r a b xs [] ∧ Below w.heap.size w w' := by
  have LN := Lib.hid (lenS O)
  have hs := O.small
  have HO := Lib.hid O
  have HH := Lib.hid h
  clear O
  have e1 : decide ((b : Int) < 1) = false := decide_eq_false (by omega)
  have e2 : decide (65536 < (b : Int)) = false := decide_eq_false (by omega)
  have e4 : decide (xs.length < a) = false := decide_eq_false (by omega)
  have e5 : decide ((xs.length : Int) - a < b) = false := decide_eq_false (by omega)
  have ha : (a : Int) ≤ 524288 := by omega
  have e4 : decide ((xs.length : Int) < a) = false := decide_eq_false (by omega)
  clear h
  generalize hn : xs.length = n at *
  have HN := Lib.hid hn
  clear hn
  go_enter Try.func13, Try.ntmps13
  go_wp2_with fail
  refine LN.out.mono ?_; rintro e w1 ⟨rfl, rfl⟩
  go_wp2_with fail
  refine LN.out.mono ?_; rintro e w2 ⟨rfl, rfl⟩
  go_wp2_with fail
  go_ret2
  have l1 := Kit.lt_of HO.out.obj
  have l2 := Kit.lt_of HO.out.row
  exact ⟨_, rfl, Nat.le_refl _, ⟨Kit.new_blk w2 _, HO.out.keepB (Kit.allocB (Below.refl _ _) _), by omega, by rw [HN.out]; exact ⟨by simp [lay], HH.out⟩, fun i hi => by simp [lay] at hi, fun f hf => by simp at hf⟩, Kit.allocB (Below.refl _ _) _⟩
theorem made_it (w : World) (n : Nat) (h1 : 1 ≤ n) (h2 : n ≤ 65536) : Calls Try.prog 14 #[.int .i64 n] w fun e w' => ∃ g ga r, e = .returned (.tuple #[.pointer (some ⟨g, 0, none⟩), .pointer (some ⟨ga, 0, none⟩)]) ∧ (w.heap.size ≤ g ∧ w.heap.size ≤ ga ∧ w.heap.size ≤ r) ∧ Stk w' g ga r 5 n (List.replicate (n + 10) 0) [] ∧ Below w.heap.size w w' := by
  have NA := new_ok w ((n : Int) + 10) (by omega) (by omega)
  rw [show ((n : Int) + 10).toNat = n + 10 by omega] at NA
  have NA := Lib.hid NA
  rename_i NA2
  clear NA2
  go_enter Try.func14, Try.ntmps14
  go_wp2_with fail
  refine NA.out.mono ?_; rintro e w1 ⟨ga, r, rfl, hga, hr, O1, b1⟩
  have NS := Lib.hid (new_it O1 (O1.ne (by decide)) 5 n ⟨h1, h2⟩ (by simp; omega))
  have B1 := Lib.hid b1
  clear O1 b1
  go_wp2_with fail
  refine NS.out.mono ?_; rintro e w2 ⟨g, rfl, hg, K2, b2⟩
  have HK := Lib.hid K2
  have B2 := Lib.hid (Kit.stepB B1.out b2)
  have hz := B1.out.size
  clear K2 b2
  go_wp2_with fail
  go_ret2
  exact ⟨_, _, r, rfl, ⟨by omega, hga, hr⟩, HK.out, B2.out⟩
end
end Go.Proofs.Ytedkackmccnkfaa.Nw
