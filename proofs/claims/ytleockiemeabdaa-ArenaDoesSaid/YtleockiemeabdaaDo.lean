/- One act of both arenas: they tell the same, and hold the same words behind it. -/
import Derived.Test.YtleockiemeabdaaRf
import Derived.Deep.RegionHeld3
set_option linter.unusedVariables false
namespace Go.Proofs.Ytleockiemeabdaa.Both
open Go.RowKit
open Ar
/-- Both arenas, apart from each other, with the same words. -/
structure Two (w : World) (g r g' r' : Nat) (xs : List Int) : Prop where
  one : Own 53 w g r xs
  two : Own 45 w g' r' xs
  ne1 : g ≠ r'
  ne2 : r ≠ g'
  ne3 : r ≠ r'
  ne4 : g ≠ g'
theorem Own.drew {T : TypeId} {w : World} {g r : Nat} {xs : List Int} (h : Own T w g r xs) : Own T w.drew g r xs := ⟨h.obj, h.row, h.small, h.rng⟩
theorem box_keep {w w1 : World} {S : List Nat} {q : Nat} {c0 c1 c2 c3 c4 : Value} {t : TypeId} (K : w.heap[q]? = some (.cells #[c0, c1, c2, c3, c4] t (0, 0))) (m : Kit.Mod S w w1) (hq : q ∉ S) :
    w1.heap[q]? = some (.cells #[c0, c1, c2, c3, c4] t (0, 0)) ∧ w1.cell? ⟨q, 1, none⟩ = some c1 ∧ w1.cell? ⟨q, 2, none⟩ = some c2 ∧ w1.cell? ⟨q, 3, none⟩ = some c3 ∧ w1.cell? ⟨q, 4, none⟩ = some c4 := by
  have h := Kit.keep K m hq
  exact ⟨h, (Kit.cell_of h 1).trans rfl, (Kit.cell_of h 2).trans rfl, (Kit.cell_of h 3).trans rfl, (Kit.cell_of h 4).trans rfl⟩
set_option maxHeartbeats 4000000 in
theorem do_write (w : World) (g r g' r' : Nat) (xs : List Int) (a b n v : Int) (T : Two w g r g' r' xs) (v0 : 0 ≤ v) (v1 : v ≤ 18446744073709551615) :
    Calls Try.prog 15 #[.pointer (some ⟨g, 0, none⟩), .pointer (some ⟨g', 0, none⟩), .agg #[.int .i64 0, .int .i64 a, .int .i64 b, .int .i64 n, .int .u64 v]] w fun e w' => e = .returned (.bool true) ∧ Two w' g r g' r' (writeV xs a v) ∧ Kit.Mod [r, r'] w w' := by
  have K0 := Lib.hid (Kit.new_blk w (.cells #[.int .i64 0, .int .i64 a, .int .i64 b, .int .i64 n, .int .u64 v] 32 (0, 0)))
  have O0 := Lib.hid (T.one.keep ((Kit.Mod.refl [] w).alloc (.cells #[.int .i64 0, .int .i64 a, .int .i64 b, .int .i64 n, .int .u64 v] 32 (0, 0))) (by simp) (by simp))
  have P0 := Lib.hid (T.two.keep ((Kit.Mod.refl [] w).alloc (.cells #[.int .i64 0, .int .i64 a, .int .i64 b, .int .i64 n, .int .u64 v] 32 (0, 0))) (by simp) (by simp))
  have M0 := Lib.hid (((Kit.Mod.refl [r, r'] w).alloc (.cells #[.int .i64 0, .int .i64 a, .int .i64 b, .int .i64 n, .int .u64 v] 32 (0, 0))).drew)
  have nr : w.heap.size ∉ [r] := by have := Kit.lt_of T.one.row; simp; omega
  have nr' : w.heap.size ∉ [r'] := by have := Kit.lt_of T.two.row; simp; omega
  have ng : g' ∉ [r] := by have := T.ne2; simp; omega
  have nq : r' ∉ [r] := by have := T.ne3; simp; omega
  have ng2 : g ∉ [r'] := by have := T.ne1; simp; omega
  have nq2 : r ∉ [r'] := by have := T.ne3; simp; omega
  have NR := Lib.hid nr
  have NR' := Lib.hid nr'
  have NG := Lib.hid ng
  have NQ := Lib.hid nq
  have NG2 := Lib.hid ng2
  have NQ2 := Lib.hid nq2
  clear nr nr' ng nq ng2 nq2
  go_enter Try.func15, Try.ntmps15
  go_wp2_with fail
  go_region_held3 (fun w' => w'.cell? ⟨w.heap.size, 1, none⟩ = some (.int .i64 a) ∧ w'.cell? ⟨w.heap.size, 4, none⟩ = some (.int .u64 v))
    (first | go_keep | (refine ⟨?_, ?_⟩ <;> assumption) | (refine ⟨?_, ?_, ?_⟩ <;> assumption))
    (first
      | (go_at_call 10; refine (write_any _ g r xs a v (by exact (Own.drew O0)) v0 v1).mono ?_; rintro e w1 ⟨rfl, hO1, hM1⟩; have O1 := Lib.hid hO1; have M1 := Lib.hid hM1; obtain ⟨k1, q1, q2, q3, q4⟩ := box_keep (w := ((w.alloc (.cells #[.int .i64 0, .int .i64 a, .int .i64 b, .int .i64 n, .int .u64 v] 32 (0, 0))).drew)) K0 hM1 NR; have K1 := Lib.hid k1; clear hO1 hM1 k1)
      | (go_at_call 21; refine (Rf.write_any _ g' r' xs a v (by exact ((Own.drew P0).keep M1 NG NQ)) v0 v1).mono ?_; rintro e w2 ⟨rfl, hO2, hM2⟩; have O2 := Lib.hid hO2; have M2 := Lib.hid hM2; obtain ⟨k2, p1, p2, p3, p4⟩ := box_keep K1.out hM2 NR'; clear hO2 hM2 k2))
  go_wp2_with fail
  go_ret
  have mm : Kit.Mod [r, r'] w w2 := (Kit.Mod.trans M0 (Kit.Mod.mono M1 (fun x hx => .inl (by simp at hx; simp [hx]))) (fun x hx => .inl hx)).trans (Kit.Mod.mono M2 (fun x hx => .inl (by simp at hx; simp [hx])) : Kit.Mod [r, r'] _ _) (fun x hx => .inl hx)
  exact ⟨Kit.ret_bool (by simp), ⟨O1.out.keep M2 NG2 NQ2, O2, T.ne1, T.ne2, T.ne3, T.ne4⟩, mm⟩
set_option maxHeartbeats 4000000 in
theorem do_move (w : World) (g r g' r' : Nat) (xs : List Int) (a b n v : Int) (T : Two w g r g' r' xs) (hx : 1 ≤ xs.length) (n0 : -9223372036854775808 ≤ n) (n1 : n ≤ 9223372036854775807) :
    Calls Try.prog 15 #[.pointer (some ⟨g, 0, none⟩), .pointer (some ⟨g', 0, none⟩), .agg #[.int .i64 1, .int .i64 a, .int .i64 b, .int .i64 n, .int .u64 v]] w fun e w' => e = .returned (.bool true) ∧ Two w' g r g' r' (moveV xs a b n) ∧ Kit.Mod [r, r'] w w' := by
  have K0 := Lib.hid (Kit.new_blk w (.cells #[.int .i64 1, .int .i64 a, .int .i64 b, .int .i64 n, .int .u64 v] 32 (0, 0)))
  have O0 := Lib.hid (T.one.keep ((Kit.Mod.refl [] w).alloc (.cells #[.int .i64 1, .int .i64 a, .int .i64 b, .int .i64 n, .int .u64 v] 32 (0, 0))) (by simp) (by simp))
  have P0 := Lib.hid (T.two.keep ((Kit.Mod.refl [] w).alloc (.cells #[.int .i64 1, .int .i64 a, .int .i64 b, .int .i64 n, .int .u64 v] 32 (0, 0))) (by simp) (by simp))
  have M0 := Lib.hid (((Kit.Mod.refl [r, r'] w).alloc (.cells #[.int .i64 1, .int .i64 a, .int .i64 b, .int .i64 n, .int .u64 v] 32 (0, 0))).drew)
  have nr : w.heap.size ∉ [r] := by have := Kit.lt_of T.one.row; simp; omega
  have nr' : w.heap.size ∉ [r'] := by have := Kit.lt_of T.two.row; simp; omega
  have ng : g' ∉ [r] := by have := T.ne2; simp; omega
  have nq : r' ∉ [r] := by have := T.ne3; simp; omega
  have ng2 : g ∉ [r'] := by have := T.ne1; simp; omega
  have nq2 : r ∉ [r'] := by have := T.ne3; simp; omega
  have NR := Lib.hid nr
  have NR' := Lib.hid nr'
  have NG := Lib.hid ng
  have NQ := Lib.hid nq
  have NG2 := Lib.hid ng2
  have NQ2 := Lib.hid nq2
  clear nr nr' ng nq ng2 nq2
  go_enter Try.func15, Try.ntmps15
  go_wp2_with fail
  go_region_held3 (fun w' => w'.cell? ⟨w.heap.size, 1, none⟩ = some (.int .i64 a) ∧ w'.cell? ⟨w.heap.size, 2, none⟩ = some (.int .i64 b) ∧ w'.cell? ⟨w.heap.size, 3, none⟩ = some (.int .i64 n))
    (first | go_keep | (refine ⟨?_, ?_⟩ <;> assumption) | (refine ⟨?_, ?_, ?_⟩ <;> assumption))
    (first
      | (go_at_call 12; refine (move_any _ g r xs a b n (by exact (Own.drew O0)) n0 n1).mono ?_; rintro e w1 ⟨rfl, hO1, hM1⟩; have O1 := Lib.hid hO1; have M1 := Lib.hid hM1; obtain ⟨k1, q1, q2, q3, q4⟩ := box_keep (w := ((w.alloc (.cells #[.int .i64 1, .int .i64 a, .int .i64 b, .int .i64 n, .int .u64 v] 32 (0, 0))).drew)) K0 hM1 NR; have K1 := Lib.hid k1; clear hO1 hM1 k1)
      | (go_at_call 22; refine (Rf.move_any _ g' r' xs a b n (by exact ((Own.drew P0).keep M1 NG NQ)) hx n0 n1).mono ?_; rintro e w2 ⟨rfl, hO2, hM2⟩; have O2 := Lib.hid hO2; have M2 := Lib.hid hM2; obtain ⟨k2, p1, p2, p3, p4⟩ := box_keep K1.out hM2 NR'; clear hO2 hM2 k2))
  go_wp2_with fail
  go_ret
  have mm : Kit.Mod [r, r'] w w2 := (Kit.Mod.trans M0 (Kit.Mod.mono M1 (fun x hx => .inl (by simp at hx; simp [hx]))) (fun x hx => .inl hx)).trans (Kit.Mod.mono M2 (fun x hx => .inl (by simp at hx; simp [hx])) : Kit.Mod [r, r'] _ _) (fun x hx => .inl hx)
  exact ⟨Kit.ret_bool (by simp), ⟨O1.out.keep M2 NG2 NQ2, O2, T.ne1, T.ne2, T.ne3, T.ne4⟩, mm⟩
set_option maxHeartbeats 4000000 in
theorem do_clear (w : World) (g r g' r' : Nat) (xs : List Int) (a b n v : Int) (T : Two w g r g' r' xs) (n0 : -9223372036854775808 ≤ n) (n1 : n ≤ 9223372036854775807) :
    Calls Try.prog 15 #[.pointer (some ⟨g, 0, none⟩), .pointer (some ⟨g', 0, none⟩), .agg #[.int .i64 2, .int .i64 a, .int .i64 b, .int .i64 n, .int .u64 v]] w fun e w' => e = .returned (.bool true) ∧ Two w' g r g' r' (clearV xs b n) ∧ Kit.Mod [r, r'] w w' := by
  have K0 := Lib.hid (Kit.new_blk w (.cells #[.int .i64 2, .int .i64 a, .int .i64 b, .int .i64 n, .int .u64 v] 32 (0, 0)))
  have O0 := Lib.hid (T.one.keep ((Kit.Mod.refl [] w).alloc (.cells #[.int .i64 2, .int .i64 a, .int .i64 b, .int .i64 n, .int .u64 v] 32 (0, 0))) (by simp) (by simp))
  have P0 := Lib.hid (T.two.keep ((Kit.Mod.refl [] w).alloc (.cells #[.int .i64 2, .int .i64 a, .int .i64 b, .int .i64 n, .int .u64 v] 32 (0, 0))) (by simp) (by simp))
  have M0 := Lib.hid (((Kit.Mod.refl [r, r'] w).alloc (.cells #[.int .i64 2, .int .i64 a, .int .i64 b, .int .i64 n, .int .u64 v] 32 (0, 0))).drew)
  have nr : w.heap.size ∉ [r] := by have := Kit.lt_of T.one.row; simp; omega
  have nr' : w.heap.size ∉ [r'] := by have := Kit.lt_of T.two.row; simp; omega
  have ng : g' ∉ [r] := by have := T.ne2; simp; omega
  have nq : r' ∉ [r] := by have := T.ne3; simp; omega
  have ng2 : g ∉ [r'] := by have := T.ne1; simp; omega
  have nq2 : r ∉ [r'] := by have := T.ne3; simp; omega
  have NR := Lib.hid nr
  have NR' := Lib.hid nr'
  have NG := Lib.hid ng
  have NQ := Lib.hid nq
  have NG2 := Lib.hid ng2
  have NQ2 := Lib.hid nq2
  clear nr nr' ng nq ng2 nq2
  go_enter Try.func15, Try.ntmps15
  go_wp2_with fail
  go_region_held3 (fun w' => w'.cell? ⟨w.heap.size, 2, none⟩ = some (.int .i64 b) ∧ w'.cell? ⟨w.heap.size, 3, none⟩ = some (.int .i64 n))
    (first | go_keep | (refine ⟨?_, ?_⟩ <;> assumption) | (refine ⟨?_, ?_, ?_⟩ <;> assumption))
    (first
      | (go_at_call 17; refine (clear_any _ g r xs b n (by exact (Own.drew O0)) n0 n1).mono ?_; rintro e w1 ⟨rfl, hO1, hM1⟩; have O1 := Lib.hid hO1; have M1 := Lib.hid hM1; obtain ⟨k1, q1, q2, q3, q4⟩ := box_keep (w := ((w.alloc (.cells #[.int .i64 2, .int .i64 a, .int .i64 b, .int .i64 n, .int .u64 v] 32 (0, 0))).drew)) K0 hM1 NR; have K1 := Lib.hid k1; clear hO1 hM1 k1)
      | (go_at_call 23; refine (Rf.clear_any _ g' r' xs b n (by exact ((Own.drew P0).keep M1 NG NQ)) n0 n1).mono ?_; rintro e w2 ⟨rfl, hO2, hM2⟩; have O2 := Lib.hid hO2; have M2 := Lib.hid hM2; obtain ⟨k2, p1, p2, p3, p4⟩ := box_keep K1.out hM2 NR'; clear hO2 hM2 k2))
  go_wp2_with fail
  go_ret
  have mm : Kit.Mod [r, r'] w w2 := (Kit.Mod.trans M0 (Kit.Mod.mono M1 (fun x hx => .inl (by simp at hx; simp [hx]))) (fun x hx => .inl hx)).trans (Kit.Mod.mono M2 (fun x hx => .inl (by simp at hx; simp [hx])) : Kit.Mod [r, r'] _ _) (fun x hx => .inl hx)
  exact ⟨Kit.ret_bool (by simp), ⟨O1.out.keep M2 NG2 NQ2, O2, T.ne1, T.ne2, T.ne3, T.ne4⟩, mm⟩
set_option maxHeartbeats 4000000 in
theorem do_read (w : World) (g r g' r' : Nat) (xs : List Int) (kd a b n v : Int) (T : Two w g r g' r' xs) (d0 : (kd == 0) = false) (d1 : (kd == 1) = false) (d2 : (kd == 2) = false) :
    Calls Try.prog 15 #[.pointer (some ⟨g, 0, none⟩), .pointer (some ⟨g', 0, none⟩), .agg #[.int .i64 kd, .int .i64 a, .int .i64 b, .int .i64 n, .int .u64 v]] w fun e w' => e = .returned (.bool true) ∧ Two w' g r g' r' xs ∧ Kit.Mod [r, r'] w w' := by
  have M0 := Lib.hid ((Kit.Mod.refl [r, r'] w).alloc (.cells #[.int .i64 kd, .int .i64 a, .int .i64 b, .int .i64 n, .int .u64 v] 32 (0, 0)))
  have O0 := Lib.hid (T.one.keep ((Kit.Mod.refl [] w).alloc (.cells #[.int .i64 kd, .int .i64 a, .int .i64 b, .int .i64 n, .int .u64 v] 32 (0, 0))) (by simp) (by simp))
  have P0 := Lib.hid (T.two.keep ((Kit.Mod.refl [] w).alloc (.cells #[.int .i64 kd, .int .i64 a, .int .i64 b, .int .i64 n, .int .u64 v] 32 (0, 0))) (by simp) (by simp))
  go_enter Try.func15, Try.ntmps15
  go_wp2_with fail
  refine (read_any _ g r xs b O0).mono ?_; rintro e w' ⟨rfl, rfl⟩
  go_wp2_with fail
  refine (Rf.read_any _ g' r' xs b P0).mono ?_; rintro e w' ⟨rfl, rfl⟩
  go_wp2_with fail
  go_ret
  exact ⟨Kit.ret_bool (by simp), ⟨O0, P0, T.ne1, T.ne2, T.ne3, T.ne4⟩, M0⟩
/-- The words behind one act. -/
def after (xs : List Int) (kd a b n v : Int) : List Int := if kd = 0 then writeV xs a v else if kd = 1 then moveV xs a b n else if kd = 2 then clearV xs b n else xs
theorem length_after (xs : List Int) (kd a b n v : Int) : (after xs kd a b n v).length = xs.length := by
  unfold after
  by_cases d0 : kd = 0
  · rw [if_pos d0, writeV_length]
  rw [if_neg d0]
  by_cases d1 : kd = 1
  · rw [if_pos d1]
    unfold moveV
    by_cases c : moveE xs.length a b n = 0
    · rw [if_pos c]
      have hc : 0 ≤ n ∧ rowE xs.length a n = 0 ∧ rowE xs.length b n = 0 := by
        unfold moveE at c
        by_cases c0 : n < 0
        · rw [if_pos c0] at c; omega
        · rw [if_neg c0] at c
          by_cases c1 : rowE xs.length a n = 0 ∧ rowE xs.length b n = 0
          · exact ⟨by omega, c1⟩
          · rw [if_neg c1] at c; omega
      have f : ∀ i, rowE xs.length i n = 0 → 0 ≤ i ∧ i ≤ xs.length ∧ n ≤ xs.length - i := fun i hr => by
        unfold rowE at hr
        by_cases d : 0 ≤ i ∧ i ≤ xs.length ∧ n ≤ xs.length - i
        · exact d
        · rw [if_neg d] at hr; omega
      have fa := f a hc.2.1
      have fb := f b hc.2.2
      rw [Rw.length_over]
      simp only [List.length_take, List.length_drop]
      omega
    · rw [if_neg c]
  rw [if_neg d1]
  by_cases d2 : kd = 2
  · rw [if_pos d2]
    unfold clearV
    by_cases c : 0 ≤ n ∧ 0 ≤ b ∧ b ≤ xs.length ∧ n ≤ xs.length - b
    · rw [if_pos c, Rw.length_over]
      rw [List.length_replicate]; omega
    · rw [if_neg c]
  · rw [if_neg d2]
theorem do_any (w : World) (g r g' r' : Nat) (xs : List Int) (kd a b n v : Int) (T : Two w g r g' r' xs) (hx : 1 ≤ xs.length) (v0 : 0 ≤ v) (v1 : v ≤ 18446744073709551615) (n0 : -9223372036854775808 ≤ n) (n1 : n ≤ 9223372036854775807) :
    Calls Try.prog 15 #[.pointer (some ⟨g, 0, none⟩), .pointer (some ⟨g', 0, none⟩), .agg #[.int .i64 kd, .int .i64 a, .int .i64 b, .int .i64 n, .int .u64 v]] w fun e w' => e = .returned (.bool true) ∧ Two w' g r g' r' (after xs kd a b n v) ∧ Kit.Mod [r, r'] w w' := by
  unfold after
  by_cases d0 : kd = 0
  · rw [if_pos d0]; subst d0; exact do_write w g r g' r' xs a b n v T v0 v1
  rw [if_neg d0]
  by_cases d1 : kd = 1
  · rw [if_pos d1]; subst d1; exact do_move w g r g' r' xs a b n v T hx n0 n1
  rw [if_neg d1]
  by_cases d2 : kd = 2
  · rw [if_pos d2]; subst d2; exact do_clear w g r g' r' xs a b n v T n0 n1
  · rw [if_neg d2]; exact do_read w g r g' r' xs kd a b n v T (by simpa using d0) (by simpa using d1) (by simpa using d2)
end Go.Proofs.Ytleockiemeabdaa.Both
