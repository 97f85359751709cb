/- A pool stays right: laws of lists alone. No condition. -/
import Derived.Test.YtladhenjoipfpaaLf
set_option linter.unusedVariables false
set_option linter.unusedSimpArgs false
namespace Go.Proofs.Ytladhenjoipfpaa.Wl
open Go.RowKit
open Pl Rn Ov Lf
variable {fs ms : List Int}
theorem wf_new (n : Nat) : Wf (List.replicate n (-1)) (List.replicate n 0) := fun i hi => by
  simp at hi
  exact .inl (by simp [List.getD_eq_getElem?_getD, hi])
theorem set_get (l : List Int) (i j : Nat) (v : Int) (h : i < l.length) : (l.set i v).getD j 0 = if j = i then v else l.getD j 0 := by
  simp only [List.getD_eq_getElem?_getD, List.getElem?_set]
  by_cases e : i = j
  · subst e; simp [h]
  · rw [if_neg e, if_neg (fun e' => e e'.symm)]
theorem wf_alloc (W : Wf fs ms) (hl : ms.length = fs.length) (p N : Nat) (h1 : 1 ≤ N) (h2 : p + N ≤ fs.length) (hf : ∀ i, p ≤ i → i < p + N → fs.getD i 0 < 0) : Wf (fill fs p N p) (ms.set p N) := fun i hi => by
  rw [fill_length fs p N p h2] at hi
  have G := fill_get fs p N p h2
  by_cases hr : p ≤ i ∧ i < p + N
  · refine .inr ⟨p, N, ?_, ?_, h1, by rw [fill_length fs p N p h2]; exact h2, hr, fun j a b => ?_⟩
    · rw [G i, if_pos hr]
    · rw [set_get ms p p N (by omega), if_pos rfl]
    · rw [G j, if_pos ⟨a, b⟩]
  · rcases W i hi with h | ⟨f, m, e1, e2, e3, e4, e5, e6⟩
    · exact .inl (by rw [G i, if_neg hr]; exact h)
    · have out : ∀ j, f ≤ j → j < f + m → ¬ (p ≤ j ∧ j < p + N) := fun j a b c => by
        have := hf j c.1 c.2
        rw [e6 j a b] at this
        omega
      refine .inr ⟨f, m, by rw [G i, if_neg hr]; exact e1, ?_, e3, by rw [fill_length fs p N p h2]; exact e4, e5, fun j a b => by rw [G j, if_neg (out j a b)]; exact e6 j a b⟩
      have := out f (Nat.le_refl _) (by omega)
      rw [set_get ms p f N (by omega), if_neg (by omega)]
      exact e2
theorem wf_free (W : Wf fs ms) (hl : ms.length = fs.length) (p m : Nat) (h0 : fs.getD p 0 = p) (hm : ms.getD p 0 = m) (h1 : 1 ≤ m) (h2 : p + m ≤ fs.length) (hf : ∀ j, p ≤ j → j < p + m → fs.getD j 0 = p) : Wf (fill fs p m (-1)) (ms.set p 0) := fun i hi => by
  rw [fill_length fs p m (-1) h2] at hi
  have G := fill_get fs p m (-1) h2
  by_cases hr : p ≤ i ∧ i < p + m
  · exact .inl (by rw [G i, if_pos hr])
  · rcases W i hi with h | ⟨f, k, e1, e2, e3, e4, e5, e6⟩
    · exact .inl (by rw [G i, if_neg hr]; exact h)
    · have hne : f ≠ p := fun e => by
        subst e
        have : k = m := by rw [hm] at e2; omega
        omega
      have out : ∀ j, f ≤ j → j < f + k → ¬ (p ≤ j ∧ j < p + m) := fun j a b c => by
        have := hf j c.1 c.2
        rw [e6 j a b] at this
        omega
      refine .inr ⟨f, k, by rw [G i, if_neg hr]; exact e1, ?_, e3, by rw [fill_length fs p m (-1) h2]; exact e4, e5, fun j a b => by rw [G j, if_neg (out j a b)]; exact e6 j a b⟩
      rw [set_get ms p f 0 (by omega), if_neg hne]
      exact e2
/-- In a run all is free. -/
theorem runs_mem : ∀ p, ∀ r ∈ runsFrom fs p, p ≤ r.1 ∧ 1 ≤ r.2 ∧ r.1 + r.2 ≤ fs.length ∧ ∀ i, r.1 ≤ i → i < r.1 + r.2 → fs.getD i 0 < 0 := by
  intro p
  induction hd : fs.length - p using Nat.strongRecOn generalizing p with
  | _ d ih =>
    intro r hr
    by_cases hp : fs.length ≤ p
    · rw [runs_end p hp] at hr; cases hr
    · by_cases hn : fs.getD p 0 < 0
      · rw [runs_free p (by omega) hn] at hr
        have pos := fl_pos p (by omega) hn
        rcases List.mem_cons.1 hr with rfl | hr
        · exact ⟨Nat.le_refl _, pos, fl_le p (by omega), fun i a b => fl_neg p i a b⟩
        · have := ih (fs.length - (p + fl fs p)) (by omega) _ rfl r hr
          exact ⟨by omega, this.2⟩
      · rw [runs_taken p (by omega) (by omega)] at hr
        have := ih (fs.length - (p + 1)) (by omega) _ rfl r hr
        exact ⟨by omega, this.2⟩
/-- What Alloc leaves is right again. -/
theorem wf_alloc_run (W : Wf fs ms) (hl : ms.length = fs.length) {ini post : List (Nat × Nat)} {p k N : Nat} (hr : runsFrom fs 0 = ini ++ (p, k) :: post) (h1 : 1 ≤ N) (hk : N ≤ k) : Wf (fill fs p N p) (ms.set p N) ∧ p + N ≤ fs.length ∧ ∀ i, p ≤ i → i < p + N → fs.getD i 0 < 0 := by
  have := runs_mem (fs := fs) 0 (p, k) (by rw [hr]; simp)
  exact ⟨wf_alloc W hl p N h1 (by omega) (fun i a b => this.2.2.2 i a (by simp; omega)), by omega, fun i a b => this.2.2.2 i a (by simp; omega)⟩
def L8 : List Int := [-1, -1, -1, -1, -1, -1, -1, -1]
def L83 : List Int := [0, 0, 0, -1, -1, -1, -1, -1]
def L832 : List Int := [0, 0, 0, 3, 3, -1, -1, -1]
theorem runs8 : runsFrom L8 0 = [(0, 8)] := by
  rw [runs_free 0 (by decide) (by decide), show fl L8 0 = 8 by decide, runs_end 8 (by decide)]
theorem runs83 : runsFrom L83 0 = [(3, 5)] := by
  rw [runs_taken 0 (by decide) (by decide), runs_taken 1 (by decide) (by decide), runs_taken 2 (by decide) (by decide), runs_free 3 (by decide) (by decide), show fl L83 3 = 5 by decide, runs_end 8 (by decide)]
theorem runs832 : runsFrom L832 0 = [(5, 3)] := by
  rw [runs_taken 0 (by decide) (by decide), runs_taken 1 (by decide) (by decide), runs_taken 2 (by decide) (by decide), runs_taken 3 (by decide) (by decide), runs_taken 4 (by decide) (by decide), runs_free 5 (by decide) (by decide), show fl L832 5 = 3 by decide, runs_end 8 (by decide)]
end Go.Proofs.Ytladhenjoipfpaa.Wl
