/- Handles told and handles gone: plain laws of the table's slots. No condition. -/
import Derived.Test.YtbjlmhkjlipnmaaFu
set_option linter.unusedVariables false
set_option linter.unusedSimpArgs false
namespace Go.Proofs.Ytbjlmhkjlipnmaa.Pu
open Go.RowKit
open Sr Tb Tf Tg Tm Ta
theorem live_count (xs : List (Int × Int)) : (live xs).length = xs.countP (fun p => p.1 != 0) := by
  unfold live; rw [List.length_map, List.countP_eq_length_filter]
theorem live_add (xs : List (Int × Int)) : ∀ j, j < xs.length → (xs.getD j (0, 0)).1 = 0 → ∀ a t : Int, a ≠ 0 → (live (xs.set j (a, t))).length = (live xs).length + 1 := by
  induction xs with
  | nil => intro j h; simp at h
  | cons x xs ih =>
    intro j h hz a t ha
    cases j with
    | zero =>
      have hz : x.1 = 0 := hz
      simp [live, hz, ha]
    | succ j =>
      have := ih j (by simpa using h) hz a t ha
      by_cases e : x.1 = 0
      · simpa [live, e] using this
      · simpa [live, e] using this
theorem live_sub (xs : List (Int × Int)) : ∀ j, j < xs.length → (xs.getD j (0, 0)).1 ≠ 0 → ∀ t : Int, (live (xs.set j (0, t))).length + 1 = (live xs).length := by
  induction xs with
  | nil => intro j h; simp at h
  | cons x xs ih =>
    intro j h hz t
    cases j with
    | zero =>
      have hz : x.1 ≠ 0 := hz
      simp [live, hz]
    | succ j =>
      have := ih j (by simpa using h) hz t
      by_cases e : x.1 = 0
      · simpa [live, e] using this
      · simp only [live, List.set_cons_succ] at this ⊢
        simp [e] at this ⊢
        omega
/-- Slots, handles told, handles gone. -/
structure Inv (n : Nat) (xs : List (Int × Int)) (told gone : List Int) : Prop where
  len : xs.length = n
  turns : ∀ j, j < n → 1 ≤ (xs.getD j (0, 0)).2 ∧ (xs.getD j (0, 0)).2 ≤ 1 + gone.length
  tell : ∀ h, h ∈ told → 0 ≤ h ∧ h % 256 < n ∧ h / 256 ≤ (xs.getD (h % 256).toNat (0, 0)).2 ∧ (h / 256 = (xs.getD (h % 256).toNat (0, 0)).2 → (xs.getD (h % 256).toNat (0, 0)).1 ≠ 0)
  went : ∀ h, h ∈ gone → 0 ≤ h ∧ h % 256 < n ∧ h / 256 < (xs.getD (h % 256).toNat (0, 0)).2
  count : (live xs).length + gone.length = told.length
theorem inv_start (n : Nat) (h : 1 ≤ n) : Inv n (List.replicate n (0, 1)) [] [] := by
  refine ⟨by simp, ?_, ?_, ?_, ?_⟩
  · intro j hj; simp [List.getD_eq_getElem?_getD, hj]
  · intro h hh; cases hh
  · intro h hh; cases hh
  · simp [live]
theorem get_set (xs : List (Int × Int)) (k : Nat) (p : Int × Int) (i : Nat) (hk : k < xs.length) : (xs.set k p).getD i (0, 0) = if i = k then p else xs.getD i (0, 0) := by
  rw [List.getD_eq_getElem?_getD, List.getElem?_set]
  by_cases e : k = i
  · subst e; rw [if_pos rfl, if_pos hk, if_pos rfl]; rfl
  · rw [if_neg e, if_neg (by omega), ← List.getD_eq_getElem?_getD]
section
variable {n : Nat} {xs : List (Int × Int)} {told gone : List Int}
/-- A new handle was never told. -/
theorem Inv.fresh (I : Inv n xs told gone) (n256 : n ≤ 256) (k : Nat) (hk : k < n) (hz : (xs.getD k (0, 0)).1 = 0) : ∀ h, h ∈ told → h ≠ (xs.getD k (0, 0)).2 * 256 + k := fun h hh e => by
  obtain ⟨h0, h1, h2, h3⟩ := I.tell h hh
  have t := I.turns k hk
  have e1 : h % 256 = k := by omega
  have e2 : h / 256 = (xs.getD k (0, 0)).2 := by omega
  rw [e1, Int.toNat_natCast] at h3
  exact h3 e2 hz
theorem Inv.made (I : Inv n xs told gone) (n256 : n ≤ 256) (k : Nat) (hk : k < n) (hz : (xs.getD k (0, 0)).1 = 0) : Inv n (xs.set k (7, (xs.getD k (0, 0)).2)) (told ++ [(xs.getD k (0, 0)).2 * 256 + k]) gone := by
  have hl : k < xs.length := by rw [I.len]; exact hk
  have t := I.turns k hk
  refine ⟨by rw [List.length_set]; exact I.len, ?_, ?_, ?_, ?_⟩
  · intro j hj
    rw [get_set _ _ _ _ hl]
    by_cases e : j = k
    · subst e; rw [if_pos rfl]; exact t
    · rw [if_neg e]; exact I.turns j hj
  · intro h hh
    rw [get_set _ _ _ _ hl]
    rw [List.mem_append, List.mem_singleton] at hh
    rcases hh with hh | rfl
    · obtain ⟨h0, h1, h2, h3⟩ := I.tell h hh
      refine ⟨h0, h1, ?_, ?_⟩
      · by_cases e : (h % 256).toNat = k
        · rw [if_pos e]; rw [e] at h2; exact h2
        · rw [if_neg e]; exact h2
      · by_cases e : (h % 256).toNat = k
        · rw [if_pos e]; intro _; simp
        · rw [if_neg e]; exact h3
    · have e1 : ((xs.getD k (0, 0)).2 * 256 + (k : Int)) % 256 = k := by omega
      refine ⟨by omega, by omega, ?_, ?_⟩
      · rw [if_pos (by omega)]; simp only; omega
      · rw [if_pos (by omega)]; intro _; simp
  · intro h hh
    obtain ⟨h0, h1, h2⟩ := I.went h hh
    rw [get_set _ _ _ _ hl]
    refine ⟨h0, h1, ?_⟩
    by_cases e : (h % 256).toNat = k
    · rw [if_pos e]; rw [e] at h2; exact h2
    · rw [if_neg e]; exact h2
  · rw [live_add xs k hl hz 7 _ (by decide), List.length_append]
    have := I.count
    simp; omega
theorem Inv.freed (I : Inv n xs told gone) (n256 : n ≤ 256) (h : Int) (hh : h ∈ told) (hg : good xs h) : Inv n (freed xs h) told (gone ++ [h]) := by
  obtain ⟨g0, g1, g2, g3⟩ := hg
  have hg' : good xs h := ⟨g0, g1, g2, g3⟩
  unfold Tg.freed
  rw [if_pos hg']
  obtain ⟨k, hk⟩ := Int.eq_ofNat_of_zero_le (show 0 ≤ h % 256 by omega)
  rw [hk, Int.toNat_natCast] at g2 g3 ⊢
  have hl : k < xs.length := by omega
  have hn := I.len
  refine ⟨by rw [List.length_set]; exact I.len, ?_, ?_, ?_, ?_⟩
  · intro j hj
    rw [get_set _ _ _ _ hl, List.length_append]
    have t := I.turns j hj
    by_cases e : j = k
    · subst e; rw [if_pos rfl]; simp only [List.length_cons, List.length_nil]; omega
    · rw [if_neg e]; simp only [List.length_cons, List.length_nil]; omega
  · intro x hx
    obtain ⟨h0, h1, h2, h3⟩ := I.tell x hx
    rw [get_set _ _ _ _ hl]
    refine ⟨h0, h1, ?_, ?_⟩
    · by_cases e : (x % 256).toNat = k
      · rw [if_pos e]; rw [e] at h2; simp only; omega
      · rw [if_neg e]; exact h2
    · by_cases e : (x % 256).toNat = k
      · rw [if_pos e]; rw [e] at h2; simp only; intro e2; omega
      · rw [if_neg e]; exact h3
  · intro x hx
    rw [get_set _ _ _ _ hl]
    rw [List.mem_append, List.mem_singleton] at hx
    rcases hx with hx | rfl
    · obtain ⟨h0, h1, h2⟩ := I.went x hx
      refine ⟨h0, h1, ?_⟩
      by_cases e : (x % 256).toNat = k
      · rw [if_pos e]; rw [e] at h2; simp only; omega
      · rw [if_neg e]; exact h2
    · refine ⟨g0, by omega, ?_⟩
      rw [if_pos (by omega)]; simp only; omega
  · have := live_sub xs k hl g2 ((xs.getD k (0, 0)).2 + 1)
    have := I.count
    rw [List.length_append]
    simp only [List.length_cons, List.length_nil]; omega
/-- What is gone is nobody's. -/
theorem Inv.stale (I : Inv n xs told gone) (h : Int) (hh : h ∈ gone) : ¬ good xs h := fun hg => by
  have := (I.went h hh).2.2
  have := hg.2.2.2
  omega
end
end Go.Proofs.Ytbjlmhkjlipnmaa.Pu
