/- The runs of free blocks, as a list. No condition. -/
import Derived.Test.YtladhenjoipfpaaPl
set_option linter.unusedVariables false
set_option linter.unusedSimpArgs false
namespace Go.Proofs.Ytladhenjoipfpaa.Rn
open Pl
def tw (l : List Int) : Nat := (l.takeWhile (fun x => decide (x < 0))).length
theorem tw_le (l : List Int) : tw l ≤ l.length := by
  unfold tw
  induction l with
  | nil => simp
  | cons x l ih =>
    rw [List.takeWhile_cons]
    split
    · simp; exact ih
    · simp
theorem tw_neg (l : List Int) : ∀ i, i < tw l → l.getD i 0 < 0 := by
  unfold tw
  induction l with
  | nil => intro i h; simp at h
  | cons x l ih =>
    intro i h
    rw [List.takeWhile_cons] at h
    split at h
    · rename_i hx
      cases i with
      | zero => simpa using hx
      | succ i => exact ih i (by simpa using h)
    · simp at h
theorem tw_end (l : List Int) : tw l < l.length → 0 ≤ l.getD (tw l) 0 := by
  unfold tw
  induction l with
  | nil => intro h; simp at h
  | cons x l ih =>
    intro h
    rw [List.takeWhile_cons] at h ⊢
    by_cases hx : x < 0
    · rw [if_pos (decide_eq_true hx)] at h ⊢
      exact ih (by simpa using h)
    · rw [if_neg (by simpa using hx)]
      simpa using hx
/-- How many free blocks stand in a row from a place on. -/
def fl (fs : List Int) (p : Nat) : Nat := tw (fs.drop p)
section
variable {fs ms : List Int}
theorem drop_get (p i : Nat) : (fs.drop p).getD i 0 = fs.getD (p + i) 0 := by simp [List.getD_eq_getElem?_getD]
theorem fl_le (p : Nat) (h : p ≤ fs.length) : p + fl fs p ≤ fs.length := by
  have := tw_le (fs.drop p)
  rw [List.length_drop] at this
  unfold fl; omega
theorem fl_neg (p i : Nat) (h1 : p ≤ i) (h2 : i < p + fl fs p) : fs.getD i 0 < 0 := by
  have := tw_neg (fs.drop p) (i - p) (by unfold fl at h2; omega)
  rw [drop_get] at this
  rw [show p + (i - p) = i by omega] at this
  exact this
theorem fl_end (p : Nat) (h : p + fl fs p < fs.length) : 0 ≤ fs.getD (p + fl fs p) 0 := by
  have := tw_end (fs.drop p) (by rw [List.length_drop]; unfold fl at h; omega)
  rw [drop_get] at this
  exact this
theorem fl_pos (p : Nat) (h : p < fs.length) (hn : fs.getD p 0 < 0) : 1 ≤ fl fs p := by
  by_cases e : 1 ≤ fl fs p
  · exact e
  · have h0 : fl fs p = 0 := by omega
    have := fl_end (fs := fs) p (by omega)
    rw [h0, Nat.add_zero] at this
    omega
/-- The runs from a place on. -/
def runsFrom (fs : List Int) (p : Nat) : List (Nat × Nat) :=
  if p < fs.length then
    if fs.getD p 0 < 0 then (p, fl fs p) :: runsFrom fs (p + max 1 (fl fs p)) else runsFrom fs (p + 1)
  else []
termination_by fs.length - p
decreasing_by all_goals omega
theorem runs_end (p : Nat) (h : fs.length ≤ p) : runsFrom fs p = [] := by
  rw [runsFrom, if_neg (by omega)]
theorem runs_free (p : Nat) (h : p < fs.length) (hn : fs.getD p 0 < 0) : runsFrom fs p = (p, fl fs p) :: runsFrom fs (p + fl fs p) := by
  have := fl_pos p h hn
  rw [runsFrom, if_pos h, if_pos hn, show max 1 (fl fs p) = fl fs p by omega]
theorem runs_taken (p : Nat) (h : p < fs.length) (hn : 0 ≤ fs.getD p 0) : runsFrom fs p = runsFrom fs (p + 1) := by
  rw [runsFrom, if_pos h, if_neg (by omega)]
theorem runs_skip (p m : Nat) (h : p + m ≤ fs.length) (hn : ∀ j, p ≤ j → j < p + m → 0 ≤ fs.getD j 0) : runsFrom fs p = runsFrom fs (p + m) := by
  induction m with
  | zero => rfl
  | succ m ih =>
    rw [ih (by omega) (fun j h1 h2 => hn j h1 (by omega)), runs_taken (p + m) (by omega) (hn _ (by omega) (by omega))]
    rfl
theorem runs_length (p : Nat) : (runsFrom fs p).length ≤ fs.length - p := by
  induction h : fs.length - p using Nat.strongRecOn generalizing p with
  | _ d ih =>
    by_cases hp : p < fs.length
    · by_cases hn : fs.getD p 0 < 0
      · have h1 := fl_pos p hp hn
        have h2 := fl_le (fs := fs) p (by omega)
        rw [runs_free p hp hn, List.length_cons]
        have := ih (fs.length - (p + fl fs p)) (by omega) (p + fl fs p) rfl
        omega
      · rw [runs_taken p hp (by omega)]
        have := ih (fs.length - (p + 1)) (by omega) (p + 1) rfl
        omega
    · rw [runs_end p (by omega)]
      simp
/-- Where a range may stand: at a free block, or at a group's first. -/
def Edge (fs : List Int) (p : Nat) : Prop := p < fs.length → 0 ≤ fs.getD p 0 → fs.getD p 0 = p
theorem Edge.group (W : Wf fs ms) (p : Nat) (h : p < fs.length) (he : Edge fs p) (hn : 0 ≤ fs.getD p 0) : ∃ m : Nat, fs.getD p 0 = p ∧ ms.getD p 0 = m ∧ 1 ≤ m ∧ p + m ≤ fs.length ∧ (∀ j, p ≤ j → j < p + m → fs.getD j 0 = p) ∧ Edge fs (p + m) := by
  rcases W p h with h1 | ⟨f, m, h1, h2, h3, h4, h5, h6⟩
  · omega
  · have e := he h hn
    have : f = p := by omega
    subst this
    refine ⟨m, e, h2, h3, h4, h6, fun hl h0 => ?_⟩
    rcases W (f + m) hl with k1 | ⟨f', m', k1, k2, k3, k4, k5, k6⟩
    · omega
    · by_cases e2 : f' = f + m
      · rw [k1, e2]
      · have a := k6 (f + m - 1) (by omega) (by omega)
        have b := h6 (f + m - 1) (by omega) (by omega)
        have : f' = f := by omega
        subst this
        have : m' = m := by omega
        omega
theorem Edge.run (W : Wf fs ms) (p : Nat) (h : p < fs.length) (hn : fs.getD p 0 < 0) : Edge fs (p + fl fs p) := fun hl h0 => by
  have h1 := fl_pos p h hn
  rcases W _ hl with k1 | ⟨f', m', k1, k2, k3, k4, k5, k6⟩
  · omega
  · by_cases e2 : f' = p + fl fs p
    · rw [k1, e2]
    · have a := k6 (p + fl fs p - 1) (by omega) (by omega)
      have b := fl_neg (fs := fs) p (p + fl fs p - 1) (by omega) (by omega)
      omega
theorem Edge.zero (W : Wf fs ms) : Edge fs 0 := fun h h0 => by
  rcases W 0 h with k1 | ⟨f', m', k1, k2, k3, k4, k5, k6⟩
  · omega
  · omega
end
end Go.Proofs.Ytladhenjoipfpaa.Rn
