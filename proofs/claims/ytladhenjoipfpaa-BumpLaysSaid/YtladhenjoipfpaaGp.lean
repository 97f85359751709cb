/- A pool's groups as a list. No condition. -/
import Derived.Test.YtladhenjoipfpaaWl
set_option linter.unusedVariables false
set_option linter.unusedSimpArgs false
namespace Go.Proofs.Ytladhenjoipfpaa.Gp
open Go.RowKit
open Pl Rn Ov Lf Wl
variable {fs ms : List Int}
/-- The groups whose first block lies below k. -/
def grp (fs ms : List Int) : Nat → List (Nat × Nat)
  | 0 => []
  | k + 1 => grp fs ms k ++ (if fs.getD k 0 = k then [(k, (ms.getD k 0).toNat)] else [])
theorem grp_yes (k : Nat) (h : fs.getD k 0 = k) : grp fs ms (k + 1) = grp fs ms k ++ [(k, (ms.getD k 0).toNat)] := by simp only [grp]; rw [if_pos h]
theorem grp_no (k : Nat) (h : fs.getD k 0 ≠ k) : grp fs ms (k + 1) = grp fs ms k := by simp only [grp]; rw [if_neg h, List.append_nil]
theorem grp_length (k : Nat) : (grp fs ms k).length ≤ k := by
  induction k with
  | zero => simp [grp]
  | succ k ih =>
    by_cases h : fs.getD k 0 = k
    · rw [grp_yes k h]; simp; omega
    · rw [grp_no k h]; omega
/-- What a group is, by the pool's rightness. -/
theorem first_group (W : Wf fs ms) (k : Nat) (hk : k < fs.length) (h : fs.getD k 0 = k) : ∃ m : Nat, ms.getD k 0 = m ∧ 1 ≤ m ∧ k + m ≤ fs.length ∧ ∀ j, k ≤ j → j < k + m → fs.getD j 0 = k := by
  rcases W k hk with e | ⟨f, m, e1, e2, e3, e4, e5, e6⟩
  · rw [h] at e; omega
  · obtain rfl : k = f := by rw [h] at e1; omega
    exact ⟨m, e2, e3, e4, e6⟩
theorem grp_mem (W : Wf fs ms) (k : Nat) (hk : k ≤ fs.length) : ∀ r ∈ grp fs ms k, r.1 < k ∧ fs.getD r.1 0 = r.1 ∧ ms.getD r.1 0 = r.2 ∧ 1 ≤ r.2 ∧ r.1 + r.2 ≤ fs.length ∧ ∀ j, r.1 ≤ j → j < r.1 + r.2 → fs.getD j 0 = r.1 := by
  induction k with
  | zero => simp [grp]
  | succ k ih =>
    intro r hr
    have I := ih (by omega)
    by_cases h : fs.getD k 0 = k
    · rw [grp_yes k h] at hr
      rcases List.mem_append.1 hr with hr | hr
      · have := I r hr; exact ⟨by omega, this.2⟩
      · obtain ⟨m, e1, e2, e3, e4⟩ := first_group W k (by omega) h
        rw [e1, Int.toNat_natCast] at hr
        have hr := List.mem_singleton.1 hr
        subst hr
        exact ⟨by omega, h, e1, e2, e3, e4⟩
    · rw [grp_no k h] at hr
      have := I r hr; exact ⟨by omega, this.2⟩
end Go.Proofs.Ytladhenjoipfpaa.Gp
