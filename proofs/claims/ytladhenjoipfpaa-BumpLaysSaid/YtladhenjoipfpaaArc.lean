/- The arena's Clear by contract. No condition. -/
import Derived.Test.YtladhenjoipfpaaAr
set_option linter.unusedVariables false
namespace Go.Proofs.Ytladhenjoipfpaa.Arc
open Go.RowKit
open Rw (row)
open Ar
theorem row_any (w : World) (g r : Nat) (xs : List Int) (i m : Int) (h : Own 75 w g r xs) (m0 : -9223372036854775808 ≤ m) (m1 : m ≤ 9223372036854775807) :
    Calls Try.prog 44 #[.pointer (some ⟨g, 0, none⟩), .int .i64 i, .int .i64 m] w fun e w' => e = .returned (.int .i64 (rowE xs.length i m)) ∧ w = w' := by
  have c := Kit.cells1 h.obj
  have hs := h.small
  unfold rowE
  by_cases hi : 0 ≤ i ∧ i ≤ xs.length ∧ m ≤ xs.length - i
  · rw [if_pos hi]
    obtain ⟨h0, h1, h2⟩ := hi
    go_enter Try.func44, Try.ntmps44
    go_wp2_with fail
    go_ret
    exact ⟨rfl, rfl⟩
  · rw [if_neg hi]
    by_cases h0 : i < 0
    · go_enter Try.func44, Try.ntmps44
      go_wp2_with fail
      go_ret
      exact ⟨rfl, rfl⟩
    · by_cases h1 : xs.length < i
      · clear hi
        go_enter Try.func44, Try.ntmps44
        go_wp2_with fail
        go_ret
        exact ⟨rfl, rfl⟩
      · have h2 : xs.length - i < m := by omega
        have h1' : i ≤ xs.length := by omega
        clear hi
        go_enter Try.func44, Try.ntmps44
        go_wp2_with fail
        go_ret
        exact ⟨rfl, rfl⟩
theorem Own.setCells {T : TypeId} {w : World} {g r : Nat} {xs : List Int} (h : Own T w g r xs) (hT : T ≠ 42) (o : Nat) (ys : List Int) (hl : o + ys.length ≤ xs.length) (hy : ∀ y ∈ ys, 0 ≤ y ∧ y ≤ 18446744073709551615) :
    Own T (w.setCells r o (ys.map (Value.int .u64))) g r (Rw.over xs o ys) := by
  have e := Rw.length_over xs o ys hl
  refine ⟨?_, Rw.setCells_row ys w o xs h.row hl, by rw [e]; exact h.small, ?_⟩
  · rw [e]; exact Rw.setCells_far (h.ne hT) _ _ _ h.obj
  · intro x hx
    simp only [Rw.over, List.mem_append] at hx
    rcases hx with hx | hx | hx
    · exact h.rng x (List.mem_of_mem_take hx)
    · exact hy x hx
    · exact h.rng x (List.mem_of_mem_drop hx)
/-- What a clearing tells and leaves. -/
def clearE (n : Nat) (i m : Int) : Int := if m < 0 then 7 else rowE n i m
def clearV (xs : List Int) (i m : Int) : List Int := if 0 ≤ m ∧ 0 ≤ i ∧ i ≤ xs.length ∧ m ≤ xs.length - i then Rw.over xs i.toNat (List.replicate m.toNat 0) else xs
theorem clear_any (w : World) (g r : Nat) (xs : List Int) (i m : Int) (h : Own 75 w g r xs) (m0 : -9223372036854775808 ≤ m) (m1 : m ≤ 9223372036854775807) :
    Calls Try.prog 29 #[.pointer (some ⟨g, 0, none⟩), .int .i64 i, .int .i64 m] w fun e w' => e = .returned (.int .i64 (clearE xs.length i m)) ∧ Own 75 w' g r (clearV xs i m) ∧ Kit.Mod [r] w w' := by
  have hr := row_any w g r xs i m h m0 m1
  have c := Kit.cells1 h.obj
  have hs := h.small
  unfold clearE clearV
  by_cases n0 : m < 0
  · rw [if_pos n0, if_neg (by omega)]
    go_enter Try.func29, Try.ntmps29
    go_wp2_with fail
    go_ret
    exact ⟨rfl, h, Kit.Mod.refl _ _⟩
  · rw [if_neg n0]
    unfold rowE at hr ⊢
    by_cases hi : 0 ≤ i ∧ i ≤ xs.length ∧ m ≤ xs.length - i
    · rw [if_pos hi] at hr ⊢
      rw [if_pos ⟨by omega, hi⟩]
      have Hr := Lib.hid hr
      clear hr
      obtain ⟨h0, h1, h2⟩ := hi
      obtain ⟨k, rfl⟩ := Int.eq_ofNat_of_zero_le h0
      obtain ⟨q, rfl⟩ := Int.eq_ofNat_of_zero_le (show 0 ≤ m by omega)
      have e1 : (k : Int).toNat = k := Int.toNat_natCast k
      have e2 : (q : Int).toNat = q := Int.toNat_natCast q
      rw [e1, e2]
      clear e1 e2
      by_cases hq : q = 0
      · subst hq
        have hcl := fun a c => Rw.cleared_none Try.prog w 73 0 42 Try.underlying73 a c
        go_enter Try.func29, Try.ntmps29
        go_wp2_with fail
        refine (Hr.out).mono ?_; rintro e w' ⟨rfl, rfl⟩
        by_cases hk : xs.length = k
        all_goals
          go_wp2_with fail
          go_ret
          exact ⟨rfl, by rw [List.replicate_zero, Rw.over_nil]; exact h, Kit.Mod.refl _ _⟩
      · have hcl := Rw.cleared Try.prog h.row 73 0 Try.underlying73 zeroU k q (xs.length - k) (by omega) (by omega)
        go_enter Try.func29, Try.ntmps29
        go_wp2_with fail
        refine (Hr.out).mono ?_; rintro e w' ⟨rfl, rfl⟩
        go_wp2_with fail
        go_ret
        rw [← List.map_replicate]
        exact ⟨rfl, Arc.Own.setCells h (by decide) k _ (by simp; omega) (fun y hy => by rw [List.mem_replicate] at hy; omega), Rw.setCells_mod _ _ _ _ _ (Kit.Mod.refl _ _) (.inl (by simp))⟩
    · rw [if_neg hi] at hr ⊢
      rw [if_neg (by omega)]
      have Hr := Lib.hid hr
      clear hr hi
      go_enter Try.func29, Try.ntmps29
      go_wp2_with fail
      refine (Hr.out).mono ?_; rintro e w' ⟨rfl, rfl⟩
      go_wp2_with fail
      go_ret
      exact ⟨rfl, h, Kit.Mod.refl _ _⟩
end Go.Proofs.Ytladhenjoipfpaa.Arc
