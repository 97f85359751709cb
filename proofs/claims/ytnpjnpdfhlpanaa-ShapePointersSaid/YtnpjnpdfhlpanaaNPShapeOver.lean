/- Numbers of layer 4: which headers are right, their sizes, what they become: here and in the document's answer the same. Plain. -/
import Derived.Test.YtnpjnpdfhlpanaaPShapeOverx
import Derived.OpenShut
set_option linter.unusedVariables false
set_option linter.unusedSimpArgs false
namespace Go.Proofs.Ytnpjnpdfhlpanaa.NPShapeOver
open Go.RowKit Go.Proofs.Ytnpjnpdfhlpanaa.PShapeOver Go.Proofs.YtnpjnpdfhlpanaaW.PrintWords Go.Proofs.YtnpjnpdfhlpanaaW.PrintLast Go.Proofs.YtnpjnpdfhlpanaaW.PrintMore
def partsOk (k p n : Int) : Prop :=
  (k = 1 ∧ 0 ≤ p ∧ p ≤ 8 ∧ n = 0) ∨ (k = 2 ∧ p = 0 ∧ n = 1) ∨ (k = 3 ∧ 0 ≤ p ∧ p ≤ 255 ∧ n = 0) ∨ ((k = 4 ∨ k = 5) ∧ 2 ≤ p ∧ p ≤ 9 ∧ n = 0) ∨ (k = 6 ∧ ((1 ≤ p ∧ p ≤ 255 ∧ n = 0) ∨ (p = 0 ∧ n = 1))) ∨
  (k = 7 ∧ p = 1 ∧ n = 1) ∨ (k = 8 ∧ p = 1 ∧ 0 ≤ n ∧ n ≤ 4094) ∨ ((k = 9 ∨ k = 12) ∧ p = 0 ∧ 1 ≤ n ∧ n ≤ 4095) ∨ (k = 10 ∧ p = 1 ∧ n = 0) ∨ (k = 11 ∧ 0 ≤ p ∧ p ≤ 1024 ∧ n = 0)
instance (k p n : Int) : Decidable (partsOk k p n) := by unfold partsOk; infer_instance
def infoOk (k i : Int) : Prop := 0 ≤ i ∧ i ≤ 1048575 ∧ (k = 1 ∨ k = 3 ∨ k = 6 ∨ k = 7 ∨ i = 0)
instance (k i : Int) : Decidable (infoOk k i) := by unfold infoOk; infer_instance
/-- What is wrong with a header: kind k, info i, pointers p, others n. -/
def right (k i p n : Int) : Int := if 1 ≤ k ∧ k ≤ 12 then (if partsOk k p n then (if infoOk k i then 0 else 2) else 7) else 6
def In (x : Int) : Prop := -9223372036854775808 ≤ x ∧ x ≤ 9223372036854775807
theorem kinds (k : Int) (h : 1 ≤ k ∧ k ≤ 12) : k = 1 ∨ k = 2 ∨ k = 3 ∨ k = 4 ∨ k = 5 ∨ k = 6 ∨ k = 7 ∨ k = 8 ∨ k = 9 ∨ k = 10 ∨ k = 11 ∨ k = 12 := by omega
theorem j2_it (m : Nat) (b : Bool) (k i p n l q e : Int) (more info : Bool) : shape_Right.j2 (m + 1) b k i p n l q e more info = some (if b = true then 7 else if i < 0 ∨ 1048576 ≤ i ∨ (info = false ∧ i ≠ 0) then 2 else 0) := by
  simp only [shape_Right.j2]
  cases b
  · simp only [Bool.false_eq_true, if_false]
    by_cases c1 : i < 0
    · rw [if_pos c1, if_pos (Or.inl c1)]
    · rw [if_neg c1]
      by_cases c2 : i ≥ 1048576
      · rw [if_pos c2, if_pos (Or.inr (Or.inl c2))]
      · rw [if_neg c2]
        cases info
        · simp only [Bool.false_eq_true, if_false]
          by_cases c3 : i = 0
          · rw [if_pos c3, if_neg (by rintro (h | h | h); exact c1 h; exact c2 h; exact h.2 c3)]
          · rw [if_neg c3, if_pos (Or.inr (Or.inr ⟨by trivial, c3⟩))]
        · simp only [if_true]
          rw [if_neg (by rintro (h | h | h); exact c1 h; exact c2 h; exact absurd h.1 (by decide))]
  · simp only [if_true]
theorem j1_it (m : Nat) (k i p n l q e : Int) (more info : Bool) (hl : 0 ≤ l) (hp : In p) :
    shape_Right.j1 (m + 2) k i p n l q e more info = some (if p < l ∨ q < p ∨ n < e ∨ (more = false ∧ n ≠ e) ∨ 4095 - p < n then 7 else if i < 0 ∨ 1048576 ≤ i ∨ (info = false ∧ i ≠ 0) then 2 else 0) := by
  unfold In at hp
  simp only [shape_Right.j1]
  by_cases c1 : p < l
  · rw [if_pos c1, j2_it, if_pos rfl, if_pos (Or.inl c1)]
  rw [if_neg c1]
  have ew : wrap64 (4095 - p) = 4095 - p := by unfold wrap64; omega
  by_cases c2 : p > q
  · rw [if_pos c2, j2_it, if_pos rfl, if_pos (Or.inr (Or.inl c2))]
  rw [if_neg c2]
  by_cases c3 : n < e
  · rw [if_pos c3, j2_it, if_pos rfl, if_pos (Or.inr (Or.inr (Or.inl c3)))]
  rw [if_neg c3, ew]
  have last : some (if (decide (n > 4095 - p)) = true then (7 : Int) else if i < 0 ∨ 1048576 ≤ i ∨ (info = false ∧ i ≠ 0) then 2 else 0) = some (if 4095 - p < n then 7 else if i < 0 ∨ 1048576 ≤ i ∨ (info = false ∧ i ≠ 0) then 2 else 0) := by
    by_cases c : 4095 - p < n
    · simp [c]
    · simp [c]
  cases more
  · simp only [Bool.false_eq_true, if_false]
    by_cases c4 : n = e
    · rw [if_pos c4, j2_it, last]
      by_cases c5 : 4095 - p < n
      · rw [if_pos c5, if_pos (Or.inr (Or.inr (Or.inr (Or.inr c5))))]
      · rw [if_neg c5, if_neg (c := p < l ∨ _) (by rintro (h | h | h | h | h); exact c1 h; exact c2 h; exact c3 h; exact h.2 c4; exact c5 h)]
    · rw [if_neg c4, j2_it, if_pos rfl, if_pos (Or.inr (Or.inr (Or.inr (Or.inl ⟨by trivial, c4⟩))))]
  · simp only [if_true]
    rw [j2_it, last]
    by_cases c5 : 4095 - p < n
    · rw [if_pos c5, if_pos (Or.inr (Or.inr (Or.inr (Or.inr c5))))]
    · rw [if_neg c5, if_neg (c := p < l ∨ _) (by rintro (h | h | h | h | h); exact c1 h; exact c2 h; exact c3 h; exact absurd h.1 (by decide); exact c5 h)]
theorem of_1 : shape_of.f 12 1 = some (0, 8, 0, false, true, true) := by decide +kernel
theorem of_2 : shape_of.f 12 2 = some (0, 0, 1, false, false, true) := by decide +kernel
theorem of_3 : shape_of.f 12 3 = some (0, 255, 0, false, true, true) := by decide +kernel
theorem of_4 : shape_of.f 12 4 = some (2, 9, 0, false, false, true) := by decide +kernel
theorem of_5 : shape_of.f 12 5 = some (2, 9, 0, false, false, true) := by decide +kernel
theorem of_6 : shape_of.f 12 6 = some (0, 255, 0, false, true, true) := by decide +kernel
theorem of_7 : shape_of.f 12 7 = some (1, 1, 1, false, true, true) := by decide +kernel
theorem of_8 : shape_of.f 12 8 = some (1, 1, 0, true, false, true) := by decide +kernel
theorem of_9 : shape_of.f 12 9 = some (0, 0, 1, true, false, true) := by decide +kernel
theorem of_10 : shape_of.f 12 10 = some (1, 1, 0, false, false, true) := by decide +kernel
theorem of_11 : shape_of.f 12 11 = some (0, 1024, 0, false, false, true) := by decide +kernel
theorem of_12 : shape_of.f 12 12 = some (0, 0, 1, true, false, true) := by decide +kernel
theorem of_out (k : Int) (h : ¬ (1 ≤ k ∧ k ≤ 12)) : shape_of.f 12 k = some (0, 0, 0, false, false, false) := by
  have ne : ∀ x : Int, 1 ≤ x → x ≤ 12 → ¬ k = x := fun x h1 h2 e => h (by omega)
  have nb : ∀ x : Int, 1 ≤ x → x ≤ 12 → (k == x) = false := fun x h1 h2 => beq_eq_false_iff_ne.2 (ne x h1 h2)
  simp only [shape_of.f, shape_of.j0, shape_of.j1, ne 1 (by decide) (by decide), ne 2 (by decide) (by decide), ne 3 (by decide) (by decide), ne 4 (by decide) (by decide), nb 5 (by decide) (by decide), ne 6 (by decide) (by decide), ne 7 (by decide) (by decide), ne 8 (by decide) (by decide), ne 9 (by decide) (by decide), nb 12 (by decide) (by decide), ne 10 (by decide) (by decide), ne 11 (by decide) (by decide), if_false, Bool.false_eq_true]
theorem join (k i p n : Int) (A B : Prop) [Decidable A] [Decidable B] (hc : 1 ≤ k ∧ k ≤ 12) (h1 : A ↔ ¬ partsOk k p n) (h2 : B ↔ ¬ infoOk k i) : (if A then (7 : Int) else if B then 2 else 0) = right k i p n := by
  unfold right
  rw [if_pos hc]
  by_cases a : partsOk k p n
  · rw [if_neg (fun h => (h1.1 h) a), if_pos a]
    by_cases b : infoOk k i
    · rw [if_neg (fun h => (h2.1 h) b), if_pos b]
    · rw [if_pos (h2.2 b), if_neg b]
  · rw [if_pos (h1.2 a), if_neg a]
theorem right_it (k i p n : Int) (hp : In p) : shape_Right.f 12 k i p n = some (right k i p n) := by
  by_cases c : 1 ≤ k ∧ k ≤ 12
  · unfold shape_Right.f
    rcases kinds k c with rfl | rfl | rfl | rfl | rfl | rfl | rfl | rfl | rfl | rfl | rfl | rfl
    · rw [of_1]
      simp only [Option.bind_some, if_true, shape_Right.j0, Bool.false_eq_true, if_false]
      rw [if_neg (by decide), j1_it 9 _ _ _ _ _ _ _ _ _ (by decide) hp]
      exact congrArg some (join _ _ _ _ _ _ c (by unfold partsOk; first | (simp; done) | (simp; omega)) (by unfold infoOk; first | (simp; done) | (simp; omega)))
    · rw [of_2]
      simp only [Option.bind_some, if_true, shape_Right.j0, Bool.false_eq_true, if_false]
      rw [if_neg (by decide), j1_it 9 _ _ _ _ _ _ _ _ _ (by decide) hp]
      exact congrArg some (join _ _ _ _ _ _ c (by unfold partsOk; first | (simp; done) | (simp; omega)) (by unfold infoOk; first | (simp; done) | (simp; omega)))
    · rw [of_3]
      simp only [Option.bind_some, if_true, shape_Right.j0, Bool.false_eq_true, if_false]
      rw [if_neg (by decide), j1_it 9 _ _ _ _ _ _ _ _ _ (by decide) hp]
      exact congrArg some (join _ _ _ _ _ _ c (by unfold partsOk; first | (simp; done) | (simp; omega)) (by unfold infoOk; first | (simp; done) | (simp; omega)))
    · rw [of_4]
      simp only [Option.bind_some, if_true, shape_Right.j0, Bool.false_eq_true, if_false]
      rw [if_neg (by decide), j1_it 9 _ _ _ _ _ _ _ _ _ (by decide) hp]
      exact congrArg some (join _ _ _ _ _ _ c (by unfold partsOk; first | (simp; done) | (simp; omega)) (by unfold infoOk; first | (simp; done) | (simp; omega)))
    · rw [of_5]
      simp only [Option.bind_some, if_true, shape_Right.j0, Bool.false_eq_true, if_false]
      rw [if_neg (by decide), j1_it 9 _ _ _ _ _ _ _ _ _ (by decide) hp]
      exact congrArg some (join _ _ _ _ _ _ c (by unfold partsOk; first | (simp; done) | (simp; omega)) (by unfold infoOk; first | (simp; done) | (simp; omega)))
    · rw [of_6]
      simp only [Option.bind_some, if_true, shape_Right.j0]
      by_cases z : p = 0
      · rw [show (p == 0) = true from beq_iff_eq.2 z, if_pos rfl, j1_it 9 _ _ _ _ _ _ _ _ _ (by decide) hp]
        exact congrArg some (join _ _ _ _ _ _ c (by unfold partsOk; first | (simp; done) | (simp; omega)) (by unfold infoOk; first | (simp; done) | (simp; omega)))
      · rw [show (p == 0) = false from beq_eq_false_iff_ne.2 z, if_neg (by decide), j1_it 9 _ _ _ _ _ _ _ _ _ (by decide) hp]
        exact congrArg some (join _ _ _ _ _ _ c (by unfold partsOk; first | (simp; done) | (simp; omega)) (by unfold infoOk; first | (simp; done) | (simp; omega)))
    · rw [of_7]
      simp only [Option.bind_some, if_true, shape_Right.j0, Bool.false_eq_true, if_false]
      rw [if_neg (by decide), j1_it 9 _ _ _ _ _ _ _ _ _ (by decide) hp]
      exact congrArg some (join _ _ _ _ _ _ c (by unfold partsOk; first | (simp; done) | (simp; omega)) (by unfold infoOk; first | (simp; done) | (simp; omega)))
    · rw [of_8]
      simp only [Option.bind_some, if_true, shape_Right.j0, Bool.false_eq_true, if_false]
      rw [if_neg (by decide), j1_it 9 _ _ _ _ _ _ _ _ _ (by decide) hp]
      exact congrArg some (join _ _ _ _ _ _ c (by unfold partsOk; first | (simp; done) | (simp; omega)) (by unfold infoOk; first | (simp; done) | (simp; omega)))
    · rw [of_9]
      simp only [Option.bind_some, if_true, shape_Right.j0, Bool.false_eq_true, if_false]
      rw [if_neg (by decide), j1_it 9 _ _ _ _ _ _ _ _ _ (by decide) hp]
      exact congrArg some (join _ _ _ _ _ _ c (by unfold partsOk; first | (simp; done) | (simp; omega)) (by unfold infoOk; first | (simp; done) | (simp; omega)))
    · rw [of_10]
      simp only [Option.bind_some, if_true, shape_Right.j0, Bool.false_eq_true, if_false]
      rw [if_neg (by decide), j1_it 9 _ _ _ _ _ _ _ _ _ (by decide) hp]
      exact congrArg some (join _ _ _ _ _ _ c (by unfold partsOk; first | (simp; done) | (simp; omega)) (by unfold infoOk; first | (simp; done) | (simp; omega)))
    · rw [of_11]
      simp only [Option.bind_some, if_true, shape_Right.j0, Bool.false_eq_true, if_false]
      rw [if_neg (by decide), j1_it 9 _ _ _ _ _ _ _ _ _ (by decide) hp]
      exact congrArg some (join _ _ _ _ _ _ c (by unfold partsOk; first | (simp; done) | (simp; omega)) (by unfold infoOk; first | (simp; done) | (simp; omega)))
    · rw [of_12]
      simp only [Option.bind_some, if_true, shape_Right.j0, Bool.false_eq_true, if_false]
      rw [if_neg (by decide), j1_it 9 _ _ _ _ _ _ _ _ _ (by decide) hp]
      exact congrArg some (join _ _ _ _ _ _ c (by unfold partsOk; first | (simp; done) | (simp; omega)) (by unfold infoOk; first | (simp; done) | (simp; omega)))
  · unfold shape_Right.f right
    rw [of_out k c, if_neg c]
    simp
theorem parts_bound (k p n : Int) (h : partsOk k p n) : 0 ≤ p ∧ 0 ≤ n ∧ p + n ≤ 4095 := by unfold partsOk at h; omega
theorem right_zero (k i p n : Int) (h : right k i p n = 0) : partsOk k p n ∧ infoOk k i ∧ 1 ≤ k ∧ k ≤ 12 := by
  unfold right at h
  by_cases c : 1 ≤ k ∧ k ≤ 12
  · rw [if_pos c] at h
    by_cases a : partsOk k p n
    · rw [if_pos a] at h
      by_cases b : infoOk k i
      · exact ⟨a, b, c⟩
      · rw [if_neg b] at h; omega
    · rw [if_neg a] at h; omega
  · rw [if_neg c] at h; omega
theorem right_of (k i p n : Int) (a : partsOk k p n) (b : infoOk k i) (c : 1 ≤ k ∧ k ≤ 12) : right k i p n = 0 := by
  unfold right; rw [if_pos c, if_pos a, if_pos b]
def size (k i p n : Int) : Int := if right k i p n = 0 then 1 + p + n else 0
theorem size_it (k i p n : Int) (hp : In p) : shape_Size.f 12 k i p n = some (size k i p n) := by
  unfold shape_Size.f size
  rw [right_it k i p n hp]
  simp only [Option.bind_some]
  by_cases c : right k i p n = 0
  · have b := parts_bound k p n (right_zero k i p n c).1
    rw [if_pos c, if_pos c, show wrap64 (1 + p) = 1 + p by unfold wrap64; omega, show wrap64 (1 + p + n) = 1 + p + n by unfold wrap64; omega]
  · rw [if_neg c, if_neg c]
/-- What a thunk's header becomes. -/
def over (k i p n q : Int) : Int × Int × Int × Int × Int :=
  if q ≠ 8 ∧ q ≠ 9 ∧ q ≠ 12 then (0, 0, 0, 0, 6) else if right k i p n ≠ 0 then (0, 0, 0, 0, right k i p n) else if ¬ (5 ≤ k ∧ k ≤ 7) ∧ k ≠ 9 then (0, 0, 0, 0, 6)
  else if q = 8 then (8, 0, 1, p + n - 1, 0) else (q, 0, 0, p + n, 0)
theorem at_more_right {k i p n r : Int} (m : Nat) {q : Nat} (h : shape_Right.f q k i p n = some r) : shape_Right.f (q + m) k i p n = some r := by
  induction m with
  | zero => exact h
  | succ m ih => exact shape_Right.mono _ _ _ _ _ _ ih
theorem at_more {k i p n r : Int} (m : Nat) (h : shape_Size.f 12 k i p n = some r) : shape_Size.f (m + 12) k i p n = some r := by
  induction m with
  | zero => rw [Nat.zero_add]; exact h
  | succ m ih => rw [Nat.succ_add]; exact shape_Size.mono _ _ _ _ _ _ ih
theorem over_it (k i p n q : Int) (hp : In p) : shape_Over.f 14 k i p n q = some (over k i p n q) := by
  have j1 : ∀ (m : Nat) (b : Bool), right k i p n = 0 → shape_Over.j1 (m + 13) q b k i p n = some (if b = true then (0, 0, 0, 0, 6) else if q = 8 then (8, 0, 1, p + n - 1, 0) else (q, 0, 0, p + n, 0)) := fun m b hr => by
    have hb := parts_bound k p n (right_zero k i p n hr).1
    have hs : shape_Size.f (m + 12) k i p n = some (1 + p + n) := by
      have h0 := size_it k i p n hp
      rw [show size k i p n = 1 + p + n by unfold size; rw [if_pos hr]] at h0
      exact at_more m h0
    simp only [shape_Over.j1]
    cases b
    · simp only [Bool.false_eq_true, if_false]
      rw [hs]
      simp only [Option.bind_some]
      rw [show wrap64 (1 + p + n - 1) = p + n by unfold wrap64; omega]
      by_cases c : q = 8
      · rw [if_pos c, if_pos c, show wrap64 (p + n - 1) = p + n - 1 by unfold wrap64; omega, c]
      · rw [if_neg c, if_neg c]
    · simp only [if_true]
  have j0 : shape_Over.j0 14 q false k i p n = some (if right k i p n ≠ 0 then (0, 0, 0, 0, right k i p n) else if ¬ (5 ≤ k ∧ k ≤ 7) ∧ k ≠ 9 then (0, 0, 0, 0, 6) else if q = 8 then (8, 0, 1, p + n - 1, 0) else (q, 0, 0, p + n, 0)) := by
    simp only [shape_Over.j0]
    rw [if_neg (by decide), at_more_right 1 (right_it k i p n hp)]
    simp only [Option.bind_some]
    by_cases c : right k i p n = 0
    · rw [if_pos c, if_neg (c := right k i p n ≠ 0) (fun h => h c)]
      unfold shape_Thunk.f
      by_cases c5 : k ≥ 5
      · rw [if_pos c5]
        simp only [Option.bind_some]
        by_cases c7 : k ≤ 7
        · rw [decide_eq_true c7, if_pos rfl, j1 0 false c, if_neg (by decide), if_neg (show ¬ (¬ (5 ≤ k ∧ k ≤ 7) ∧ k ≠ 9) by omega)]
        · rw [decide_eq_false c7, if_neg (by decide), j1 0 _ c]
          by_cases c9 : k = 9
          · rw [show (k != 9) = false by simp [c9], if_neg (by decide), if_neg (show ¬ (¬ (5 ≤ k ∧ k ≤ 7) ∧ k ≠ 9) by omega)]
          · rw [show (k != 9) = true by simp [c9], if_pos rfl, if_pos (show ¬ (5 ≤ k ∧ k ≤ 7) ∧ k ≠ 9 by omega)]
      · rw [if_neg c5]
        simp only [Option.bind_some]
        rw [if_neg (by decide), j1 0 _ c, show (k != 9) = true by simp; omega, if_pos rfl, if_pos (show ¬ (5 ≤ k ∧ k ≤ 7) ∧ k ≠ 9 by omega)]
    · rw [if_neg c, if_pos c]
  have jt : shape_Over.j0 14 q true k i p n = some (0, 0, 0, 0, 6) := by simp only [shape_Over.j0]; rw [if_pos (by trivial)]
  unfold shape_Over.f over
  by_cases c8 : q = 8
  · rw [if_pos c8, if_neg (show ¬ (q ≠ 8 ∧ q ≠ 9 ∧ q ≠ 12) by omega)]; exact j0
  rw [if_neg c8]
  by_cases c9 : q = 9
  · rw [if_pos c9, if_neg (show ¬ (q ≠ 8 ∧ q ≠ 9 ∧ q ≠ 12) by omega)]; exact j0
  rw [if_neg c9]
  by_cases c12 : q = 12
  · rw [show (q != 12) = false by simp [c12], if_neg (show ¬ (q ≠ 8 ∧ q ≠ 9 ∧ q ≠ 12) by omega)]; exact j0
  · rw [show (q != 12) = true by simp [c12], if_pos ⟨c8, c9, c12⟩]; exact jt
theorem awake_true : middenlaw04_awake.f 20 = some true := by decide +kernel
theorem between_it (a l m : Int) : middenref04_between.f a l m = some (decide (l ≤ a ∧ a ≤ m)) := by
  unfold middenref04_between.f
  by_cases c : a ≥ l
  · rw [if_pos c]; simp; omega
  · rw [if_neg c]; simp; omega
theorem parts_it (k i p n : Int) (hc : 1 ≤ k ∧ k ≤ 12) : middenref04_parts.f 12 k i p n = some (decide (partsOk k p n)) := by
  have fin : ∀ (x : Option Bool) (P : Prop) [Decidable P], x = some (decide P) → ∀ (Q : Prop) [Decidable Q], (P ↔ Q) → x = some (decide Q) := fun x P _ hx Q _ h => by
    rw [hx]; congr 1; exact decide_eq_decide.2 h
  have two : ∀ (b : Bool) (m : Int), (if b = true then (some (n == m) : Option Bool) else some false) = some (decide (b = true ∧ n = m)) := fun b m => by
    cases b
    · simp
    · simp; rfl
  have p1 : ∀ (x m : Int), (if p = x then (some (n == m) : Option Bool) else some false) = some (decide (p = x ∧ n = m)) := fun x m => by
    by_cases h : p = x
    · rw [if_pos h]; simp [h]; rfl
    · rw [if_neg h]; simp [h]
  rcases kinds k hc with rfl | rfl | rfl | rfl | rfl | rfl | rfl | rfl | rfl | rfl | rfl | rfl
  all_goals
    unfold middenref04_parts.f
    simp only [middenref04_parts.j0, middenref04_parts.j1, between_it, Option.bind_some, two, p1, show ((4 : Int) == 4) = true from rfl, show ((5 : Int) == 5) = true from rfl, show ((9 : Int) == 9) = true from rfl, show ((12 : Int) == 12) = true from rfl, show ((6 : Int) == 5) = false from rfl, show ((7 : Int) == 5) = false from rfl, show ((8 : Int) == 5) = false from rfl, show ((9 : Int) == 5) = false from rfl, show ((10 : Int) == 5) = false from rfl, show ((11 : Int) == 5) = false from rfl, show ((12 : Int) == 5) = false from rfl, show ((10 : Int) == 12) = false from rfl, show ((11 : Int) == 12) = false from rfl]
    repeat (first | rw [if_pos (by trivial)] | rw [if_neg (by decide)] | rw [if_pos rfl])
  · exact fin _ _ rfl _ (by unfold partsOk; simp; try omega)
  · exact fin _ _ rfl _ (by unfold partsOk; simp; try omega)
  · exact fin _ _ rfl _ (by unfold partsOk; simp; try omega)
  · exact fin _ _ rfl _ (by unfold partsOk; simp; try omega)
  · exact fin _ _ rfl _ (by unfold partsOk; simp; try omega)
  · by_cases a : 1 ≤ p ∧ p ≤ 255
    · rw [show decide (1 ≤ p ∧ p ≤ 255) = true from decide_eq_true a, if_pos rfl]
      by_cases b : n = 0
      · rw [if_pos b]; exact fin _ True (by simp) _ (by unfold partsOk; simp; omega)
      · rw [if_neg b]; exact fin _ _ rfl _ (by unfold partsOk; simp; omega)
    · rw [show decide (1 ≤ p ∧ p ≤ 255) = false from decide_eq_false a, if_neg (by decide)]
      exact fin _ _ rfl _ (by unfold partsOk; simp; omega)
  · exact fin _ _ rfl _ (by unfold partsOk; simp; try omega)
  · by_cases b : p = 1
    · rw [if_pos b]; exact fin _ _ rfl _ (by unfold partsOk; simp; omega)
    · rw [if_neg b]; exact fin _ False (by simp) _ (by unfold partsOk; simp; omega)
  · by_cases b : p = 0
    · rw [if_pos b]; exact fin _ _ rfl _ (by unfold partsOk; simp; omega)
    · rw [if_neg b]; exact fin _ False (by simp) _ (by unfold partsOk; simp; omega)
  · exact fin _ _ rfl _ (by unfold partsOk; simp; try omega)
  · exact fin _ _ rfl _ (by unfold partsOk; simp; try omega)
  · by_cases b : p = 0
    · rw [if_pos b]; exact fin _ _ rfl _ (by unfold partsOk; simp; omega)
    · rw [if_neg b]; exact fin _ False (by simp) _ (by unfold partsOk; simp; omega)
theorem refRight_it (k i p n : Int) : middenref04_Right.f 12 k i p n = some (right k i p n) := by
  unfold middenref04_Right.f right
  rw [between_it]
  simp only [Option.bind_some]
  by_cases c : 1 ≤ k ∧ k ≤ 12
  · rw [decide_eq_true c, if_pos rfl, if_pos c, parts_it k i p n c]
    simp only [Option.bind_some]
    by_cases a : partsOk k p n
    · rw [decide_eq_true a, if_pos rfl, if_pos a]
      simp only [between_it, Option.bind_some, decide_eq_true_eq]
      by_cases b : 0 ≤ i ∧ i ≤ 1048575
      · simp only [if_pos b]
        by_cases k1 : k = 1
        · rw [if_pos k1, if_pos (show infoOk k i by unfold infoOk; omega)]
        rw [if_neg k1]
        by_cases k3 : k = 3
        · rw [if_pos k3, if_pos (show infoOk k i by unfold infoOk; omega)]
        rw [if_neg k3]
        by_cases k6 : k = 6
        · rw [if_pos k6, if_pos (show infoOk k i by unfold infoOk; omega)]
        rw [if_neg k6]
        by_cases k7 : k = 7
        · rw [if_pos k7, if_pos (show infoOk k i by unfold infoOk; omega)]
        rw [if_neg k7]
        by_cases i0 : i = 0
        · rw [if_pos i0, if_pos (show infoOk k i by unfold infoOk; omega)]
        · rw [if_neg i0, if_neg (show ¬ infoOk k i by unfold infoOk; omega)]
      · simp only [if_neg b]
        rw [if_neg (show ¬ infoOk k i by unfold infoOk; omega)]
        by_cases k1 : k = 1
        · rw [if_pos k1]
        rw [if_neg k1]
        by_cases k3 : k = 3
        · rw [if_pos k3]
        rw [if_neg k3]
        by_cases k6 : k = 6
        · rw [if_pos k6]
        rw [if_neg k6]
    · rw [decide_eq_false a, if_neg (by decide), if_neg a]
  · rw [decide_eq_false c, if_neg (by decide), if_neg c]
theorem at_more_ref {k i p n r : Int} (m : Nat) {q : Nat} (h : middenref04_Right.f q k i p n = some r) : middenref04_Right.f (q + m) k i p n = some r := by
  induction m with
  | zero => exact h
  | succ m ih => exact middenref04_Right.mono _ _ _ _ _ _ ih
theorem refThunk_it (k : Int) : middenref04_Thunk.f k = some (decide (5 ≤ k ∧ k ≤ 7)) := by
  unfold middenref04_Thunk.f
  by_cases c5 : k = 5
  · rw [if_pos c5]; simp; omega
  rw [if_neg c5]
  by_cases c6 : k = 6
  · rw [if_pos c6]; simp; omega
  rw [if_neg c6]
  by_cases c7 : k = 7
  · simp [c7]
  · rw [show (k == 7) = false by simp [c7]]; simp; omega
theorem refOver_it (k i p n q : Int) : middenref04_Over.f 14 k i p n q = some (over k i p n q) := by
  have j1 : ∀ (b : Bool), right k i p n = 0 → middenref04_Over.j1 13 q b k i p n = some (if b = true then (0, 0, 0, 0, 6) else if q = 8 then (8, 0, 1, p + n - 1, 0) else (q, 0, 0, p + n, 0)) := fun b hr => by
    have hb := parts_bound k p n (right_zero k i p n hr).1
    simp only [middenref04_Over.j1]
    cases b
    · simp only [Bool.false_eq_true, if_false]
      rw [show wrap64 (p + n) = p + n by unfold wrap64; omega]
      by_cases c : q = 8
      · rw [if_pos c, if_pos c, show wrap64 (p + n - 1) = p + n - 1 by unfold wrap64; omega]
      · rw [if_neg c, if_neg c]
    · simp only [if_true]
  have j0 : middenref04_Over.j0 14 q false k i p n = some (if right k i p n ≠ 0 then (0, 0, 0, 0, right k i p n) else if ¬ (5 ≤ k ∧ k ≤ 7) ∧ k ≠ 9 then (0, 0, 0, 0, 6) else if q = 8 then (8, 0, 1, p + n - 1, 0) else (q, 0, 0, p + n, 0)) := by
    simp only [middenref04_Over.j0]
    rw [if_neg (by decide), at_more_ref 1 (refRight_it k i p n), refThunk_it]
    simp only [Option.bind_some]
    by_cases c : right k i p n = 0
    · rw [if_pos c, if_neg (c := right k i p n ≠ 0) (fun h => h c)]
      by_cases c5 : 5 ≤ k ∧ k ≤ 7
      · rw [decide_eq_true c5, if_pos rfl, j1 false c, if_neg (by decide), if_neg (show ¬ (¬ (5 ≤ k ∧ k ≤ 7) ∧ k ≠ 9) by omega)]
      · rw [decide_eq_false c5, if_neg (by decide), j1 _ c]
        by_cases c9 : k = 9
        · rw [show (k != 9) = false by simp [c9], if_neg (by decide), if_neg (show ¬ (¬ (5 ≤ k ∧ k ≤ 7) ∧ k ≠ 9) by omega)]
        · rw [show (k != 9) = true by simp [c9], if_pos rfl, if_pos (show ¬ (5 ≤ k ∧ k ≤ 7) ∧ k ≠ 9 by omega)]
    · rw [if_neg c, if_pos c]
  have jt : middenref04_Over.j0 14 q true k i p n = some (0, 0, 0, 0, 6) := by simp only [middenref04_Over.j0]; rw [if_pos (by trivial)]
  unfold middenref04_Over.f over
  by_cases c8 : q = 8
  · rw [if_pos c8, if_neg (show ¬ (q ≠ 8 ∧ q ≠ 9 ∧ q ≠ 12) by omega)]; exact j0
  rw [if_neg c8]
  by_cases c9 : q = 9
  · rw [if_pos c9, if_neg (show ¬ (q ≠ 8 ∧ q ≠ 9 ∧ q ≠ 12) by omega)]; exact j0
  rw [if_neg c9]
  by_cases c12 : q = 12
  · rw [show (q != 12) = false by simp [c12], if_neg (show ¬ (q ≠ 8 ∧ q ≠ 9 ∧ q ≠ 12) by omega)]; exact j0
  · rw [show (q != 12) = true by simp [c12], if_pos ⟨c8, c9, c12⟩]; exact jt
theorem up_Over {k i p n q : Int} {r} (m : Nat) {j : Nat} (h : shape_Over.f j k i p n q = some r) : shape_Over.f (j + m) k i p n q = some r := by
  induction m with
  | zero => exact h
  | succ m ih => exact shape_Over.mono _ _ _ _ _ _ _ ih
theorem up_OverR {k i p n q : Int} {r} (m : Nat) {j : Nat} (h : middenref04_Over.f j k i p n q = some r) : middenref04_Over.f (j + m) k i p n q = some r := by
  induction m with
  | zero => exact h
  | succ m ih => exact middenref04_Over.mono _ _ _ _ _ _ _ ih
theorem up_awake (m : Nat) : middenlaw04_awake.f (20 + m) = some true := by
  induction m with
  | zero => exact awake_true
  | succ m ih => exact middenlaw04_awake.mono _ _ ih
theorem law_it (k i p n q : Int) (hp : In p) : middenlaw04_ShapeOver.f 20 k i p n q = some true := by
  unfold middenlaw04_ShapeOver.f
  rw [up_Over 6 (over_it k i p n q hp), up_OverR 6 (refOver_it k i p n q)]
  simp only [Option.bind_some]
  rw [awake_true]
  simp
end Go.Proofs.Ytnpjnpdfhlpanaa.NPShapeOver
