/- The pool's range over its groups, for every body of a loop that keeps what lay; Groups. No condition. -/
import Derived.Test.YtladhenjoipfpaaGp
set_option linter.unusedVariables false
set_option linter.unusedSimpArgs false
namespace Go.Proofs.Ytladhenjoipfpaa.Gs
open Go.RowKit Go.Shelf
open Pl Rn Rs Ov Tw Kp Rc K1 Lf Gp
attribute [local go_sem] Oper.semAt_some
theorem grp_post {fs ms : List Int} (j k : Nat) (h : j ≤ k) : ∃ post, grp fs ms k = grp fs ms j ++ post := by
  induction k with
  | zero => obtain rfl : j = 0 := by omega
            exact ⟨[], by simp⟩
  | succ k ih =>
    by_cases e : j = k + 1
    · subst e; exact ⟨[], by simp⟩
    · obtain ⟨post, hp⟩ := ih (by omega)
      refine ⟨post ++ (if fs.getD k 0 = k then [(k, (ms.getD k 0).toNat)] else []), ?_⟩
      simp only [grp]; rw [hp, List.append_assoc]
end Go.Proofs.Ytladhenjoipfpaa.Gs
