/- Groups: they lie in order, they are just the firsts; groups and runs cover each block once; when no group is left one run has all. No condition. -/
import Derived.Test.YtladhenjoipfpaaSn
import Derived.Test.YtladhenjoipfpaaCt
set_option linter.unusedVariables false
set_option linter.unusedSimpArgs false
namespace Go.Proofs.Ytladhenjoipfpaa.Gq
open Go.RowKit
open Pl Rn Ov Lf Wl Gp Ct Sn
variable {fs ms : List Int}
theorem grp_lt (k : Nat) : ∀ r ∈ grp fs ms k, r.1 < k := by
  induction k with
  | zero => simp [grp]
  | succ k ih =>
    intro r hr
    by_cases h : fs.getD k 0 = k
    · rw [grp_yes k h] at hr
      rcases List.mem_append.1 hr with hr | hr
      · have := ih r hr; omega
      · have := List.mem_singleton.1 hr; subst this; simp
    · rw [grp_no k h] at hr; have := ih r hr; omega
theorem grp_sorted (k : Nat) : (grp fs ms k).Pairwise (fun r s => r.1 < s.1) := by
  induction k with
  | zero => simp [grp]
  | succ k ih =>
    by_cases h : fs.getD k 0 = k
    · rw [grp_yes k h, List.pairwise_append]
      refine ⟨ih, by simp, fun r hr s hs => ?_⟩
      have := List.mem_singleton.1 hs; subst this
      exact grp_lt k r hr
    · rw [grp_no k h]; exact ih
theorem grp_first (k : Nat) : ∀ x, x < k → (fs.getD x 0 = x ↔ x ∈ (grp fs ms k).map (·.1)) := by
  induction k with
  | zero => intro x h; omega
  | succ k ih =>
    intro x hx
    by_cases h : fs.getD k 0 = k
    · rw [grp_yes k h, List.map_append, List.mem_append]
      by_cases e : x = k
      · subst e; exact ⟨fun _ => .inr (by simp), fun _ => h⟩
      · rw [ih x (by omega)]
        simp [e]
    · rw [grp_no k h]
      by_cases e : x = k
      · subst e
        refine ⟨fun h' => absurd h' h, fun h' => ?_⟩
        rw [List.mem_map] at h'
        obtain ⟨r, hr, e⟩ := h'
        have := grp_lt (fs := fs) (ms := ms) _ r hr; omega
      · exact ih x (by omega)
/-- The groups that are still to be freed. -/
def Still (gl : List (Nat × Nat)) (j : Nat) (fs : List Int) : Prop := ∀ x, x < fs.length → (fs.getD x 0 = x ↔ x ∈ (gl.drop j).map (·.1))
theorem still_step (gl : List (Nat × Nat)) (j : Nat) (hj : j < gl.length) (hs : gl.Pairwise (fun r s => r.1 < s.1)) (S : Still gl j fs) (r : Nat × Nat) (hr : gl[j]? = some r) (m : Nat) (h1 : 1 ≤ m) (hl : r.1 + m ≤ fs.length) (hf : ∀ i, r.1 ≤ i → i < r.1 + m → fs.getD i 0 = r.1) : Still gl (j + 1) (fill fs r.1 m (-1)) := by
  intro x hx
  have L := fill_length fs r.1 m (-1) hl
  have G := fill_get fs r.1 m (-1) hl x
  have e : gl.drop j = r :: gl.drop (j + 1) := by
    rw [List.drop_eq_getElem_cons hj]
    congr 1
    rw [List.getElem?_eq_getElem hj] at hr
    exact Option.some.inj hr
  have I := S x (by omega)
  rw [e, List.map_cons, List.mem_cons] at I
  have srt : ∀ s ∈ gl.drop (j + 1), r.1 < s.1 := by
    have := hs.sublist (List.drop_sublist j gl)
    rw [e, List.pairwise_cons] at this
    exact this.1
  rw [G]
  constructor
  · intro h
    split at h
    · omega
    · rename_i hn
      rcases I.1 h with h2 | h2
      · exact absurd ⟨by omega, by omega⟩ hn
      · exact h2
  · intro h
    have hgt : r.1 < x := by
      rw [List.mem_map] at h
      obtain ⟨s, hs, rfl⟩ := h
      exact srt s hs
    have hx2 := I.2 (.inr h)
    rw [if_neg]
    · exact hx2
    · intro c
      have := hf x c.1 c.2
      omega
theorem still_none (gl : List (Nat × Nat)) (W : Wf fs ms) (S : Still gl gl.length fs) : fs = List.replicate fs.length (-1) := by
  apply List.ext_getElem?
  intro i
  by_cases hi : i < fs.length
  · rw [Ov.some_getD fs i hi, List.getElem?_replicate, if_pos hi]
    rcases W i hi with h | ⟨f, m, e1, e2, e3, e4, e5, e6⟩
    · rw [h]
    · have := (S f (by omega)).1 (e6 f (Nat.le_refl _) (by omega))
      simp at this
  · rw [List.getElem?_eq_none (by omega), List.getElem?_eq_none (by simp; omega)]
theorem runs_all (n : Nat) (h : 1 ≤ n) : runsFrom (List.replicate n (-1)) 0 = [(0, n)] := by
  have hl : (List.replicate n (-1 : Int)).length = n := by simp
  have neg : ∀ i, i < n → (List.replicate n (-1 : Int)).getD i 0 < 0 := fun i hi => by simp [List.getD_eq_getElem?_getD, hi]
  have e : fl (List.replicate n (-1 : Int)) 0 = n := by
    have a := fl_le (fs := List.replicate n (-1 : Int)) 0 (by simp)
    rw [hl] at a
    rcases Nat.lt_or_ge (fl (List.replicate n (-1 : Int)) 0) n with h' | h'
    · have := fl_end (fs := List.replicate n (-1 : Int)) 0 (by rw [hl]; omega)
      have := neg (0 + fl (List.replicate n (-1 : Int)) 0) (by omega)
      omega
    · omega
  rw [runs_free 0 (by rw [hl]; omega) (neg 0 (by omega)), e, runs_end _ (by rw [hl]; omega)]
/-- How many stretches cover a block. -/
def cov (l : List (Nat × Nat)) (k : Nat) : Nat := (l.filter fun r => decide (r.1 ≤ k ∧ k < r.1 + r.2)).length
theorem cov_nil (k : Nat) : cov [] k = 0 := rfl
theorem cov_append (l m : List (Nat × Nat)) (k : Nat) : cov (l ++ m) k = cov l k + cov m k := by simp [cov]
theorem cov_cons (r : Nat × Nat) (l : List (Nat × Nat)) (k : Nat) : cov (r :: l) k = (if r.1 ≤ k ∧ k < r.1 + r.2 then 1 else 0) + cov l k := by
  unfold cov
  rw [List.filter_cons]
  by_cases h : r.1 ≤ k ∧ k < r.1 + r.2
  · rw [if_pos (decide_eq_true h), if_pos h]; simp; omega
  · rw [if_neg (by simpa using h), if_neg h]; omega
theorem cov_one (r : Nat × Nat) (k : Nat) : cov [r] k = if r.1 ≤ k ∧ k < r.1 + r.2 then 1 else 0 := by rw [cov_cons, cov_nil]; omega
theorem cov_runs (k : Nat) (hk : k < fs.length) : ∀ p, cov (runsFrom fs p) k = if p ≤ k ∧ fs.getD k 0 < 0 then 1 else 0 := by
  intro p
  induction hd : fs.length - p using Nat.strongRecOn generalizing p with
  | _ d ih =>
    by_cases hp : fs.length ≤ p
    · rw [runs_end p hp, cov_nil, if_neg (by omega)]
    · by_cases hn : fs.getD p 0 < 0
      · have pos := fl_pos p (by omega) hn
        have le := fl_le (fs := fs) p (by omega)
        have nn := fl_neg (fs := fs) p k
        have ee := fl_end (fs := fs) p
        rw [runs_free p (by omega) hn, cov_cons, ih (fs.length - (p + fl fs p)) (by omega) _ rfl]
        simp only
        by_cases h1 : p ≤ k
        · by_cases h2 : k < p + fl fs p
          · have := nn h1 h2
            rw [if_pos ⟨h1, h2⟩, if_neg (by omega), if_pos ⟨h1, this⟩]
          · rw [if_neg (by omega)]
            by_cases h3 : fs.getD k 0 < 0
            · rw [if_pos ⟨by omega, h3⟩, if_pos ⟨h1, h3⟩]
            · rw [if_neg (fun c => h3 c.2), if_neg (fun c => h3 c.2)]
        · rw [if_neg (by omega), if_neg (by omega), if_neg (by omega)]
      · rw [runs_taken p (by omega) (by omega), ih (fs.length - (p + 1)) (by omega) _ rfl]
        by_cases h1 : p = k
        · subst h1
          rw [if_neg (by omega), if_neg (fun c => hn c.2)]
        · by_cases h2 : p < k
          · by_cases h3 : fs.getD k 0 < 0
            · rw [if_pos ⟨by omega, h3⟩, if_pos ⟨by omega, h3⟩]
            · rw [if_neg (fun c => h3 c.2), if_neg (fun c => h3 c.2)]
          · rw [if_neg (by omega), if_neg (by omega)]
/-- A block that is taken: by the group that it names. -/
theorem in_group (W : Wf fs ms) (j k : Nat) (hk : k < fs.length) (hj : j < fs.length) (h : fs.getD j 0 = j) : (j ≤ k ∧ k < j + (ms.getD j 0).toNat) ↔ fs.getD k 0 = j := by
  obtain ⟨m, e1, e2, e3, e4⟩ := first_group W j hj h
  rw [e1, Int.toNat_natCast]
  refine ⟨fun c => e4 k c.1 c.2, fun c => ?_⟩
  rcases W k hk with w | ⟨f, m', a1, a2, a3, a4, a5, a6⟩
  · omega
  · obtain rfl : f = j := by omega
    have : m' = m := by omega
    omega
theorem cov_grp (W : Wf fs ms) (k : Nat) (hk : k < fs.length) : ∀ j, j ≤ fs.length → cov (grp fs ms j) k = if 0 ≤ fs.getD k 0 ∧ fs.getD k 0 < j then 1 else 0 := by
  intro j
  induction j with
  | zero => intro _; simp only [grp, cov_nil]; rw [if_neg (by omega)]
  | succ j ih =>
    intro hj
    by_cases h : fs.getD j 0 = j
    · rw [grp_yes j h, cov_append, ih (by omega), cov_one]
      have I := in_group W j k hk (by omega) h
      simp only
      by_cases e : fs.getD k 0 = j
      · rw [if_neg (by omega), if_pos (I.2 e), if_pos (by omega)]
      · rw [if_neg (fun c => e (I.1 c)), Nat.add_zero]
        by_cases c : 0 ≤ fs.getD k 0 ∧ fs.getD k 0 < j
        · rw [if_pos c, if_pos (by omega)]
        · rw [if_neg c, if_neg (by omega)]
    · rw [grp_no j h, ih (by omega)]
      have ne : fs.getD k 0 ≠ j := fun e => by
        rcases W k hk with w | ⟨f, m', a1, a2, a3, a4, a5, a6⟩
        · omega
        · obtain rfl : f = j := by omega
          exact h (a6 f (Nat.le_refl _) (by omega))
      by_cases c : 0 ≤ fs.getD k 0 ∧ fs.getD k 0 < j
      · rw [if_pos c, if_pos (by omega)]
      · rw [if_neg c, if_neg (by omega)]
theorem cov_all (W : Wf fs ms) (k : Nat) (hk : k < fs.length) : cov (grp fs ms fs.length ++ runsFrom fs 0) k = 1 := by
  rw [cov_append, cov_grp W k hk _ (Nat.le_refl _), cov_runs k hk]
  rcases W k hk with w | ⟨f, m', a1, a2, a3, a4, a5, a6⟩
  · rw [if_neg (by omega), if_pos ⟨Nat.zero_le _, by omega⟩]
  · rw [if_pos (by omega), if_neg (by omega)]
theorem free_ok (w : World) (g a b : Nat) (WF : Wf fs ms) (P : Pool w g a b fs ms) (f : Nat) (hl : f < fs.length) (he : fs.getD f 0 = f) : Calls Try.prog 33 #[.pointer (some ⟨g, 0, none⟩), .int .i64 f] w fun e w' =>
    e = .returned (.int .i64 0) ∧ ∃ m, 1 ≤ m ∧ f + m ≤ fs.length ∧ (∀ i, f ≤ i → i < f + m → fs.getD i 0 = f) ∧ Pool w' g a b (fill fs f m (-1)) (ms.set f 0) ∧ Wf (fill fs f m (-1)) (ms.set f 0) ∧ Kit.Mod [a, b] w w' := by
  obtain ⟨m, e1, e2, e3, e4⟩ := first_group WF f hl he
  refine (free_it P f m he e1 e3 e2).mono ?_
  rintro e w' ⟨rfl, h, m1⟩
  exact ⟨rfl, m, e2, e3, e4, h, wf_free WF P.len f m he e1 e2 e3 e4, m1⟩
end Go.Proofs.Ytladhenjoipfpaa.Gq
