/- How many blocks are free, by counting; what Alloc and Free leave of it. No condition. -/
import Derived.Test.YtladhenjoipfpaaNn
set_option linter.unusedVariables false
set_option linter.unusedSimpArgs false
namespace Go.Proofs.Ytladhenjoipfpaa.Ct
open Go.RowKit
open Pl Rn Ov Lf Wl
variable {fs ms : List Int}
/-- The free blocks among the last d. -/
def cn (fs : List Int) : Nat → Nat
  | 0 => 0
  | d + 1 => (if fs.getD (fs.length - (d + 1)) 0 < 0 then 1 else 0) + cn fs d
theorem cn_run (p k : Nat) (h : p + k ≤ fs.length) (hf : ∀ i, p ≤ i → i < p + k → fs.getD i 0 < 0) : cn fs (fs.length - p) = k + cn fs (fs.length - (p + k)) := by
  induction k with
  | zero => simp
  | succ k ih =>
    rw [ih (by omega) (fun i a b => hf i a (by omega))]
    have e : fs.length - (p + k) = (fs.length - (p + (k + 1))) + 1 := by omega
    rw [e, cn, if_pos (by
      have e2 : fs.length - (fs.length - (p + (k + 1)) + 1) = p + k := by omega
      rw [e2]; exact hf _ (by omega) (by omega))]
    omega
theorem sum_cn : ∀ p, sumR (runsFrom fs p) = cn fs (fs.length - p) := by
  intro p
  induction hd : fs.length - p using Nat.strongRecOn generalizing p with
  | _ d ih =>
    by_cases hp : fs.length ≤ p
    · rw [runs_end p hp]
      have : d = 0 := by omega
      subst this; rfl
    · by_cases hn : fs.getD p 0 < 0
      · have pos := fl_pos p (by omega) hn
        have le := fl_le (fs := fs) p (by omega)
        rw [runs_free p (by omega) hn, ← hd, cn_run p (fl fs p) le (fun i a b => fl_neg p i a b), ← ih (fs.length - (p + fl fs p)) (by omega) _ rfl]
        simp [sumR]
      · rw [runs_taken p (by omega) (by omega), ih (fs.length - (p + 1)) (by omega) _ rfl, ← hd]
        have e : fs.length - p = (fs.length - (p + 1)) + 1 := by omega
        rw [e, cn, if_neg (by
          have e2 : fs.length - (fs.length - (p + 1) + 1) = p := by omega
          rw [e2]; exact hn)]
        omega
theorem cn_fill (p N : Nat) (h : p + N ≤ fs.length) (hf : ∀ i, p ≤ i → i < p + N → fs.getD i 0 < 0) : ∀ d, d ≤ fs.length → cn fs d = cn (fill fs p N p) d + (if fs.length - d ≤ p then N else if fs.length - d < p + N then p + N - (fs.length - d) else 0) := by
  intro d
  have G := fill_get fs p N p h
  have L := fill_length fs p N p h
  induction d with
  | zero => intro _; simp only [cn]; split <;> (try split) <;> omega
  | succ d ih =>
    intro hd
    have e := ih (by omega)
    simp only [cn, L, G]
    have ha : fs.length - d = fs.length - (d + 1) + 1 := by omega
    have hn := hf (fs.length - (d + 1))
    rw [ha] at e
    rw [e]
    generalize fs.length - (d + 1) = x at *
    generalize fs.getD x 0 = y at *
    generalize cn (fill fs p N p) d = c at *
    clear e ih ha
    by_cases h1 : p ≤ x
    · by_cases h2 : x < p + N
      · have := hn h1 h2
        rw [if_pos this, if_pos (show p ≤ x ∧ x < p + N from ⟨h1, h2⟩), if_neg (show ¬ ((p : Int) < 0) by omega), if_neg (show ¬ x + 1 ≤ p by omega)]
        by_cases h3 : x ≤ p
        · rw [if_pos h3]
          split <;> omega
        · rw [if_neg h3, if_pos h2]
          split <;> omega
      · rw [if_neg (show ¬ (p ≤ x ∧ x < p + N) by omega), if_neg (show ¬ x + 1 ≤ p by omega), if_neg (show ¬ x + 1 < p + N by omega), if_neg h2]
        by_cases h3 : x ≤ p
        · rw [if_pos h3]; omega
        · rw [if_neg h3]; omega
    · rw [if_neg (show ¬ (p ≤ x ∧ x < p + N) by omega), if_pos (show x + 1 ≤ p by omega), if_pos (show x ≤ p by omega)]
      omega
theorem sum_alloc (p N : Nat) (h : p + N ≤ fs.length) (hf : ∀ i, p ≤ i → i < p + N → fs.getD i 0 < 0) : sumR (runsFrom fs 0) = sumR (runsFrom (fill fs p N p) 0) + N := by
  rw [sum_cn, sum_cn, fill_length fs p N p h, Nat.sub_zero, cn_fill p N h hf fs.length (Nat.le_refl _), if_pos (by omega)]
theorem max_fold (l : List (Nat × Nat)) : ∀ m, m ≤ l.foldl (fun m r => max m r.2) m ∧ (∀ r ∈ l, r.2 ≤ l.foldl (fun m r => max m r.2) m) ∧ ∀ b, m < b → (∀ r ∈ l, r.2 < b) → l.foldl (fun m r => max m r.2) m < b := by
  induction l with
  | nil => intro m; exact ⟨Nat.le_refl _, by simp, fun b h _ => h⟩
  | cons x t ih =>
    intro m
    obtain ⟨h1, h2, h3⟩ := ih (max m x.2)
    simp only [List.foldl_cons]
    refine ⟨by omega, fun r hr => ?_, fun b hb hr => h3 b (by have := hr x (by simp); omega) (fun r h => hr r (by simp [h]))⟩
    rcases List.mem_cons.1 hr with rfl | hr
    · omega
    · exact h2 r hr
theorem max_ge (r : Nat × Nat) (h : r ∈ runsFrom fs 0) : r.2 ≤ maxR (runsFrom fs 0) := (max_fold _ 0).2.1 r h
theorem max_lt (N : Nat) (h1 : 1 ≤ N) (h : ∀ r ∈ runsFrom fs 0, r.2 < N) : maxR (runsFrom fs 0) < N := (max_fold _ 0).2.2 N h1 h
/-- What Alloc takes and Free gives back is as it was. -/
theorem fill_back (W : Wf fs ms) (p N : Nat) (h : p + N ≤ fs.length) (hf : ∀ i, p ≤ i → i < p + N → fs.getD i 0 < 0) : fill (fill fs p N p) p N (-1) = fs := by
  have L := fill_length fs p N p h
  have L2 := fill_length (fill fs p N p) p N (-1) (by rw [L]; exact h)
  apply List.ext_getElem?
  intro i
  by_cases hi : i < fs.length
  · have G := fill_get (fill fs p N p) p N (-1) (by rw [L]; exact h) i
    have G1 := fill_get fs p N p h i
    have e : (fill (fill fs p N p) p N (-1)).getD i 0 = fs.getD i 0 := by
      rw [G]
      split
      · rename_i hr
        have neg := hf i hr.1 hr.2
        rcases W i hi with w | ⟨f, m, w, _⟩
        · rw [w]
        · omega
      · rename_i hr
        rw [G1, if_neg hr]
    rw [Ov.some_getD _ i (by omega), Ov.some_getD fs i hi, e]
  · rw [List.getElem?_eq_none (by omega), List.getElem?_eq_none (by omega)]
theorem alloc_keep (w : World) (g a b : Nat) (WF : Wf fs ms) (P : Pool w g a b fs ms) (n : Int) (hn : n ≤ 9223372036854775807) : Calls Try.prog 25 #[.pointer (some ⟨g, 0, none⟩), .int .i64 n] w fun e w' =>
    ∃ x c : Int, e = .returned (.tuple #[.int .i64 x, .int .i64 c]) ∧ ∃ fs' ms', Pool w' g a b fs' ms' ∧ Wf fs' ms' ∧ fs'.length = fs.length ∧ Kit.Mod [a, b] w w' := by
  by_cases h1 : n < 1
  · refine (Nn.alloc_small w g n h1).mono ?_
    rintro e w' ⟨rfl, hB⟩
    exact ⟨_, _, rfl, fs, ms, P.keepB hB, WF, rfl, Kit.Mod.of_below hB⟩
  · obtain ⟨N, rfl⟩ : ∃ N : Nat, n = N := ⟨n.toNat, by omega⟩
    refine (Al.alloc_all w g a b fs ms N WF P (by omega) (by omega)).mono ?_
    rintro e w' (⟨rfl, _, hB⟩ | ⟨ini, p, k, post, hr, _, hk, rfl, h, m⟩)
    · exact ⟨_, _, rfl, fs, ms, P.keepB hB, WF, rfl, Kit.Mod.of_below hB⟩
    · have := wf_alloc_run WF P.len hr (by omega) (by omega : N ≤ k)
      exact ⟨_, _, rfl, _, _, h, this.1, fill_length fs p N p this.2.1, m⟩
theorem free_keep (w : World) (g a b : Nat) (WF : Wf fs ms) (P : Pool w g a b fs ms) (n : Int) : Calls Try.prog 33 #[.pointer (some ⟨g, 0, none⟩), .int .i64 n] w fun e w' =>
    ∃ c : Int, e = .returned (.int .i64 c) ∧ ∃ fs' ms', Pool w' g a b fs' ms' ∧ Wf fs' ms' ∧ fs'.length = fs.length ∧ Kit.Mod [a, b] w w' := by
  by_cases hb : n < 0 ∨ (fs.length : Int) ≤ n ∨ (0 ≤ n ∧ n < fs.length ∧ fs.getD n.toNat 0 ≠ n)
  · refine (free_bad P n hb).mono ?_
    rintro e w' ⟨rfl, rfl⟩
    exact ⟨_, rfl, fs, ms, P, WF, rfl, Kit.Mod.refl _ _⟩
  · obtain ⟨f, rfl⟩ : ∃ f : Nat, n = f := ⟨n.toNat, by omega⟩
    have hl : f < fs.length := by omega
    have he : fs.getD f 0 = f := by
      rcases Classical.em (fs.getD f 0 = f) with h | h
      · exact h
      · exact absurd (.inr (.inr ⟨by omega, by omega, by simpa using h⟩)) hb
    rcases WF f hl with h | ⟨f', m, e1, e2, e3, e4, e5, e6⟩
    · rw [he] at h; omega
    · obtain rfl : f = f' := by rw [he] at e1; omega
      refine (free_it P f m he e2 e4 e3).mono ?_
      rintro e w' ⟨rfl, h, m1⟩
      exact ⟨_, rfl, _, _, h, wf_free WF P.len f m he e2 e3 e4 e6, fill_length fs f m (-1) e4, m1⟩
end Go.Proofs.Ytladhenjoipfpaa.Ct
