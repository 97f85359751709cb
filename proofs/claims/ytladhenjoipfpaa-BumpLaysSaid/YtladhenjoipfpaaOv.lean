/- Numbers laid over others: one more. No condition. -/
import Derived.Test.YtladhenjoipfpaaRw
set_option linter.unusedVariables false
set_option linter.unusedSimpArgs false
namespace Go.Proofs.Ytladhenjoipfpaa.Ov
theorem some_getD (l : List Int) (i : Nat) (h : i < l.length) : l[i]? = some (l.getD i 0) := by simp [List.getD_eq_getElem?_getD, h]
theorem over_take (xs : List Int) (o : Nat) (ps : List Int) (j : Nat) (h : o + ps.length ≤ xs.length) (hj : j < ps.length) : (Rw.over xs o (ps.take j)).set (o + j) (ps.getD j 0) = Rw.over xs o (ps.take (j + 1)) := by
  apply List.ext_getElem?
  intro i
  have l1 : (Rw.over xs o (ps.take j)).length = xs.length := Rw.length_over _ _ _ (by simp; omega)
  have l2 : (Rw.over xs o (ps.take (j + 1))).length = xs.length := Rw.length_over _ _ _ (by simp; omega)
  by_cases hi : i < xs.length
  · have a1 : ((Rw.over xs o (ps.take j)).set (o + j) (ps.getD j 0))[i]? = some (((Rw.over xs o (ps.take j)).set (o + j) (ps.getD j 0)).getD i 0) := some_getD _ _ (by rw [List.length_set, l1]; exact hi)
    have a2 : (Rw.over xs o (ps.take (j + 1)))[i]? = some ((Rw.over xs o (ps.take (j + 1))).getD i 0) := some_getD _ _ (by rw [l2]; exact hi)
    rw [a1, a2, Rw.over_getD _ _ _ (by simp; omega)]
    congr 1
    have e : ((Rw.over xs o (ps.take j)).set (o + j) (ps.getD j 0)).getD i 0 = if i = o + j then ps.getD j 0 else (Rw.over xs o (ps.take j)).getD i 0 := by
      simp only [List.getD_eq_getElem?_getD, List.getElem?_set, l1]
      by_cases e : i = o + j
      · subst e; simp [hi]
      · simp [e, show ¬ o + j = i by omega]
    rw [e, Rw.over_getD _ _ _ (by simp; omega)]
    simp only [List.length_take]
    by_cases c1 : i = o + j
    · subst c1
      rw [if_pos rfl, if_pos (by omega)]
      simp [List.getD_eq_getElem?_getD, List.getElem?_take_of_lt (show j < j + 1 by omega)]
    · rw [if_neg c1]
      by_cases c2 : o ≤ i ∧ i < o + j
      · rw [if_pos (by omega), if_pos (by omega)]
        simp [List.getD_eq_getElem?_getD, List.getElem?_take_of_lt (show i - o < j by omega), List.getElem?_take_of_lt (show i - o < j + 1 by omega)]
      · rw [if_neg (by omega), if_neg (by omega)]
  · rw [List.getElem?_eq_none (by rw [List.length_set, l1]; omega), List.getElem?_eq_none (by rw [l2]; omega)]
theorem over_snoc (xs : List Int) (o : Nat) (ps : List Int) (c : Int) (h : o + (ps.length + 1) ≤ xs.length) : (Rw.over xs o ps).set (o + ps.length) c = Rw.over xs o (ps ++ [c]) := by
  have := over_take xs o (ps ++ [c]) ps.length (by simp; omega) (by simp)
  rw [List.take_left, show (ps ++ [c]).getD ps.length 0 = c by simp [List.getD_eq_getElem?_getD], List.take_of_length_le (by simp)] at this
  exact this
/-- The same number laid over a stretch. -/
def fill (xs : List Int) (o k : Nat) (v : Int) : List Int := Rw.over xs o (List.replicate k v)
theorem fill_zero (xs : List Int) (o : Nat) (v : Int) : fill xs o 0 v = xs := by simp [fill, Rw.over_nil]
theorem fill_length (xs : List Int) (o k : Nat) (v : Int) (h : o + k ≤ xs.length) : (fill xs o k v).length = xs.length := Rw.length_over _ _ _ (by simpa using h)
theorem fill_succ (xs : List Int) (o k : Nat) (v : Int) (h : o + (k + 1) ≤ xs.length) : (fill xs o k v).set (o + k) v = fill xs o (k + 1) v := by
  unfold fill
  have := over_snoc xs o (List.replicate k v) v (by simpa using h)
  rw [List.length_replicate] at this
  rw [this, List.replicate_succ']
theorem fill_get (xs : List Int) (o k : Nat) (v : Int) (h : o + k ≤ xs.length) (i : Nat) : (fill xs o k v).getD i 0 = if o ≤ i ∧ i < o + k then v else xs.getD i 0 := by
  unfold fill
  rw [Rw.over_getD _ _ _ (by simpa using h), List.length_replicate]
  by_cases c : o ≤ i ∧ i < o + k
  · rw [if_pos c, if_pos c]
    simp [List.getD_eq_getElem?_getD, show i - o < k by omega]
  · rw [if_neg c, if_neg c]
end Go.Proofs.Ytladhenjoipfpaa.Ov
