/- What a table holds after makings and a Map: plain laws for StableMoves. No condition. -/
import Derived.Test.YtbjlmhkjlipnmaaOn
set_option linter.unusedVariables false
set_option linter.unusedSimpArgs false
namespace Go.Proofs.Ytbjlmhkjlipnmaa.Mp
open Go.RowKit
open Sr Tb Tf Tg Tm Ta Fu On Tp
/-- A table of n slots in which these addresses lie, one behind the other. -/
def lies (n : Nat) (was : List Int) : List (Int × Int) := was.map (fun x => (x, 1)) ++ List.replicate (n - was.length) (0, 1)
theorem lies_length (n : Nat) (was : List Int) (h : was.length ≤ n) : (lies n was).length = n := by simp [lies]; omega
theorem lies_nil (n : Nat) : lies n [] = List.replicate n (0, 1) := by simp [lies]
theorem lies_in (n : Nat) (was : List Int) (i : Nat) (h : i < was.length) : (lies n was).getD i (0, 0) = (was.getD i 0, 1) := by
  unfold lies
  simp only [List.getD_eq_getElem?_getD]
  rw [List.getElem?_append_left (by simpa using h)]
  simp [h]
theorem lies_out (n : Nat) (was : List Int) (i : Nat) (h1 : was.length ≤ i) (h2 : i < n) : (lies n was).getD i (0, 0) = (0, 1) := by
  unfold lies
  simp only [List.getD_eq_getElem?_getD]
  rw [List.getElem?_append_right (by simpa using h1)]
  have : i - was.length < n - was.length := by omega
  simp [this]
theorem lies_more (n : Nat) (was : List Int) (x : Int) (h : was.length < n) : (lies n was).set was.length (x, 1) = lies n (was ++ [x]) := by
  unfold lies
  rw [List.set_append_right _ _ (by simp)]
  have e : n - was.length = (n - (was.length + 1)) + 1 := by omega
  rw [e, List.replicate_succ]
  simp
/-- The handles told. -/
def hands (c : Nat) : List Int := (List.range c).map fun (q : Nat) => 256 + (q : Int)
theorem hands_length (c : Nat) : (hands c).length = c := by simp [hands]
theorem hands_more (c : Nat) : hands (c + 1) = hands c ++ [256 + (c : Int)] := by simp [hands, List.range_succ]
theorem hands_get (c q : Nat) (h : q < c) : (hands c).getD q 0 = 256 + (q : Int) := by simp [hands, List.getD_eq_getElem?_getD, h]
/-- What a handle tells behind a Map. -/
def want (x n : Int) : Int := if 1 ≤ byV x n ∧ byV x n ≤ 524288 then byV x n else x
theorem turned_get (n : Int) (xs : List (Int × Int)) (i : Nat) (h : i < xs.length) : (turned n xs).getD i (0, 0) = turn1 n (xs.getD i (0, 0)) := by
  simp [turned, List.getD_eq_getElem?_getD, h]
theorem turned_length (n : Int) (xs : List (Int × Int)) : (turned n xs).length = xs.length := by simp [turned]
theorem turned_want (n : Int) (k : Nat) (was : List Int) (i : Nat) (h : i < was.length) (hk : was.length ≤ k) (hx : was.getD i 0 ≠ 0) : (turned n (lies k was)).getD i (0, 0) = (want (was.getD i 0) n, 1) := by
  rw [turned_get _ _ _ (by rw [lies_length k was hk]; omega), lies_in k was i h]
  unfold turn1 want
  simp only
  by_cases c : 1 ≤ byV (was.getD i 0) n ∧ byV (was.getD i 0) n ≤ 524288
  · rw [if_pos ⟨hx, c⟩, if_pos c]
  · rw [if_neg (fun h => c h.2), if_neg c]
end Go.Proofs.Ytbjlmhkjlipnmaa.Mp
