/- The reference's rows are the pool's runs and groups; where the reference's Alloc finds room. No condition. -/
import Derived.Test.YtladhenjoipfpaaRr
set_option linter.unusedVariables false
set_option linter.unusedSimpArgs false
namespace Go.Proofs.Ytladhenjoipfpaa.Dq
open Go.RowKit
open Pl Rn Ov Lf Wl Gp Ct Sn Gq Rp Rq Rr
variable {fs ms : List Int}
def cut (i : Nat) (r : Nat × Nat) : Nat × Nat := (r.1, min r.2 (i - r.1))
theorem cut_next (i : Nat) (L : List (Nat × Nat)) (h : ∀ r ∈ L, r.1 + r.2 ≤ i) : L.map (cut (i + 1)) = L.map (cut i) := by
  apply List.map_congr_left
  intro r hr
  have := h r hr
  unfold cut
  congr 1
  omega
theorem rows_groups (W : Wf fs ms) : ∀ i, i ≤ fs.length → rows fs false i = (grp fs ms i).map (cut i) := by
  intro i
  induction i with
  | zero => intro _; rfl
  | succ i ih =>
    intro hi
    have I := ih (by omega)
    have M := grp_mem W i (by omega)
    rcases W i (by omega) with hw | ⟨f, m, a1, a2, a3, a4, a5, a6⟩
    · have hs : decide (fs.getD i 0 < 0) ≠ false := by rw [decide_eq_true (show fs.getD i 0 < 0 by omega)]; decide
      have en : ∀ r ∈ grp fs ms i, r.1 + r.2 ≤ i := fun r hr => by
        have m1 := M r hr
        rcases Nat.lt_or_ge i (r.1 + r.2) with c | c
        · have := m1.2.2.2.2.2 i (by omega) c; omega
        · exact c
      rw [rows_skip i hs, grp_no i (by omega), cut_next i _ en, I]
    · have hs : decide (fs.getD i 0 < 0) = false := decide_eq_false (by omega)
      by_cases e : f = i
      · subst e
        have en : ∀ r ∈ grp fs ms f, r.1 + r.2 ≤ f := fun r hr => by
          have m1 := M r hr
          rcases Nat.lt_or_ge f (r.1 + r.2) with c | c
          · have := m1.2.2.2.2.2 f (by omega) c; omega
          · exact c
        have tail : (cut (f + 1) (f, (ms.getD f 0).toNat)) = (f, 1) := by unfold cut; simp only [Prod.mk.injEq, true_and]; omega
        rw [grp_yes f a1, List.map_append, cut_next f _ en, ← I, List.map_cons, List.map_nil, tail]
        rcases snoc_of (rows fs false f) with e | ⟨L, r, e⟩
        · rw [rows_first f hs e, e]; rfl
        · rw [rows_more f hs L r e (.inr ⟨rfl, a1⟩), e]
      · have ne : fs.getD i 0 ≠ i := by omega
        rw [grp_no i ne]
        have fm : f ∈ (grp fs ms i).map (·.1) := (grp_first i f (by omega)).1 (a6 f (Nat.le_refl _) (by omega))
        have srt := grp_sorted (fs := fs) (ms := ms) i
        rcases snoc_of (grp fs ms i) with e0 | ⟨L, r0, e0⟩
        · rw [e0] at fm; simp at fm
        · rw [e0] at fm srt M
          have m0 := M r0 (by simp)
          rw [List.pairwise_append] at srt
          have le : f ≤ r0.1 := by
            rw [List.mem_map] at fm
            obtain ⟨s, hs, rfl⟩ := fm
            rcases List.mem_append.1 hs with hs | hs
            · have := srt.2.2 s hs r0 (by simp); omega
            · have := List.mem_singleton.1 hs; subst this; omega
          have ef : r0.1 = f := by
            have := a6 r0.1 le (by omega)
            omega
          have em : r0.2 = m := by have := m0.2.2.1; rw [ef] at this; omega
          have en : ∀ r ∈ L, r.1 + r.2 ≤ i := fun r hr => by
            have m1 := M r (List.mem_append_left _ hr)
            have lt := srt.2.2 r hr r0 (by simp)
            have m01 := m0.1
            rcases Nat.lt_or_ge i (r.1 + r.2) with c | c
            · have := m1.2.2.2.2.2 i (by omega) c; omega
            · exact c
          rw [e0, List.map_append, List.map_cons, List.map_nil] at I
          rw [e0, List.map_append, cut_next i L en, List.map_cons, List.map_nil]
          have c0 : cut i r0 = (f, i - f) := by unfold cut; simp only [Prod.mk.injEq]; omega
          have c1 : cut (i + 1) r0 = (f, i - f + 1) := by unfold cut; simp only [Prod.mk.injEq]; omega
          rw [c0] at I
          rw [c1, rows_grow i hs _ _ I (fun c => by
            rcases c with c | c
            · exact c (by simp; omega)
            · exact ne c.2)]
theorem rows_grp (W : Wf fs ms) : rows fs false fs.length = grp fs ms fs.length := by
  rw [rows_groups W _ (Nat.le_refl _)]
  have : (grp fs ms fs.length).map (cut fs.length) = (grp fs ms fs.length).map id := by
    apply List.map_congr_left
    intro r hr
    have := (grp_mem W fs.length (Nat.le_refl _) r hr).2.2.2.2.1
    unfold cut
    show (r.1, _) = (r.1, r.2)
    congr 1
    omega
  rw [this, List.map_id]
theorem rows_run (p k : Nat) (hp : p + k ≤ fs.length) (hn : ∀ i, p ≤ i → i < p + k → fs.getD i 0 < 0) (hb : ∀ r ∈ rows fs true p, r.1 + r.2 ≠ p) : ∀ j, 1 ≤ j → j ≤ k → rows fs true (p + j) = rows fs true p ++ [(p, j)] := by
  intro j
  induction j with
  | zero => intro h; omega
  | succ j ih =>
    intro _ hj
    have hs : decide (fs.getD (p + j) 0 < 0) = true := decide_eq_true (hn (p + j) (by omega) (by omega))
    by_cases e : j = 0
    · subst e
      rcases snoc_of (rows fs true p) with e | ⟨L, r, e⟩
      · show rows fs true (p + 0 + 1) = _
        rw [Nat.add_zero, rows_first p hs e, e]; rfl
      · show rows fs true (p + 0 + 1) = _
        rw [Nat.add_zero, rows_more p hs L r e (.inl (hb r (by rw [e]; simp))), e]
    · show rows fs true (p + j + 1) = _
      rw [rows_grow (p + j) hs _ _ (ih (by omega) (by omega)) (by simp)]
theorem rows_from : ∀ p, p ≤ fs.length → ((∀ r ∈ rows fs true p, r.1 + r.2 ≠ p) ∨ (p < fs.length → 0 ≤ fs.getD p 0)) → rows fs true fs.length = rows fs true p ++ runsFrom fs p := by
  intro p
  induction hd : fs.length - p using Nat.strongRecOn generalizing p with
  | _ d ih =>
    intro hp hb
    by_cases e : p = fs.length
    · subst e; rw [runs_end _ (Nat.le_refl _), List.append_nil]
    · by_cases hn : fs.getD p 0 < 0
      · have hb' : ∀ r ∈ rows fs true p, r.1 + r.2 ≠ p := by
          rcases hb with hb | hb
          · exact hb
          · have := hb (by omega); omega
        have pos := fl_pos p (by omega) hn
        have le := fl_le (fs := fs) p hp
        have R := rows_run p (fl fs p) le (fun i a b => fl_neg p i a b) hb' (fl fs p) pos (Nat.le_refl _)
        rw [runs_free p (by omega) hn, ih (fs.length - (p + fl fs p)) (by omega) _ rfl le (.inr (fun h => fl_end p h)), R]
        simp
      · have hs : decide (fs.getD p 0 < 0) ≠ true := by simpa using hn
        have ok := (rows_ok (fs := fs) (free := true) p).2
        rw [runs_taken p (by omega) (by omega), ih (fs.length - (p + 1)) (by omega) _ rfl (by omega) (.inl (fun r hr => by
          rw [rows_skip p hs] at hr
          have := ok r hr; omega)), rows_skip p hs]
theorem rows_runs : rows fs true fs.length = runsFrom fs 0 := by
  rw [rows_from 0 (Nat.zero_le _) (.inl (by simp [rows]))]; rfl
theorem runs_max : ∀ p, ∀ r ∈ runsFrom fs p, r.1 + r.2 < fs.length → 0 ≤ fs.getD (r.1 + r.2) 0 := by
  intro p
  induction hd : fs.length - p using Nat.strongRecOn generalizing p with
  | _ d ih =>
    intro r hr
    by_cases hp : fs.length ≤ p
    · rw [runs_end p hp] at hr; cases hr
    · by_cases hn : fs.getD p 0 < 0
      · rw [runs_free p (by omega) hn] at hr
        have pos := fl_pos p (by omega) hn
        rcases List.mem_cons.1 hr with rfl | hr
        · exact fun h => fl_end p h
        · exact ih (fs.length - (p + fl fs p)) (by omega) _ rfl r hr
      · rw [runs_taken p (by omega) (by omega)] at hr
        exact ih (fs.length - (p + 1)) (by omega) _ rfl r hr
theorem runs_sorted : ∀ p, (runsFrom fs p).Pairwise (fun r s => r.1 < s.1) := by
  intro p
  induction hd : fs.length - p using Nat.strongRecOn generalizing p with
  | _ d ih =>
    by_cases hp : fs.length ≤ p
    · rw [runs_end p hp]; exact List.Pairwise.nil
    · by_cases hn : fs.getD p 0 < 0
      · rw [runs_free p (by omega) hn]
        have pos := fl_pos p (by omega) hn
        refine List.Pairwise.cons (fun s hs => ?_) (ih (fs.length - (p + fl fs p)) (by omega) _ rfl)
        have := (runs_mem (fs := fs) (p + fl fs p) s hs).1
        simp; omega
      · rw [runs_taken p (by omega) (by omega)]
        exact ih (fs.length - (p + 1)) (by omega) _ rfl
theorem run_of (q N : Nat) (h1 : 1 ≤ N) (h : Fits fs q N) : ∃ r ∈ runsFrom fs 0, r.1 ≤ q ∧ q + N ≤ r.1 + r.2 := by
  have neg := h.2 q (Nat.le_refl _) (by omega)
  have hl := h.1
  have c := cov_runs q (by omega) (fs := fs) 0
  rw [if_pos ⟨Nat.zero_le _, neg⟩] at c
  unfold cov at c
  obtain ⟨r, hr⟩ : ∃ r, r ∈ (runsFrom fs 0).filter (fun r => decide (r.1 ≤ q ∧ q < r.1 + r.2)) := by
    rcases hf : (runsFrom fs 0).filter (fun r => decide (r.1 ≤ q ∧ q < r.1 + r.2)) with _ | ⟨a, t⟩
    · rw [hf] at c; simp at c
    · exact ⟨a, by rw [hf]; exact List.mem_cons_self⟩
  rw [List.mem_filter] at hr
  have hc := of_decide_eq_true hr.2
  refine ⟨r, hr.1, hc.1, ?_⟩
  rcases Nat.lt_or_ge (r.1 + r.2) (q + N) with c2 | c2
  · have a := runs_max 0 r hr.1 (by omega)
    have b := h.2 (r.1 + r.2) (by omega) c2
    omega
  · exact c2
theorem fits_none (N : Nat) (h1 : 1 ≤ N) (h : ∀ r ∈ runsFrom fs 0, (r.2 : Int) < N) : ∀ q, q < fs.length → ¬ Fits fs q N := by
  intro q _ hf
  obtain ⟨r, hr, a, b⟩ := run_of q N h1 hf
  have := h r hr
  omega
theorem fits_first (N : Nat) (h1 : 1 ≤ N) {ini post : List (Nat × Nat)} {p k : Nat} (e : runsFrom fs 0 = ini ++ (p, k) :: post) (hi : ∀ r : Nat × Nat, r ∈ ini → (r.2 : Int) < N) (hk : (N : Int) ≤ k) : Fits fs p N ∧ ∀ q, q < p → ¬ Fits fs q N := by
  have m := runs_mem (fs := fs) 0 (p, k) (by rw [e]; simp)
  refine ⟨⟨by have := m.2.2.1; simp at this; omega, fun i a b => m.2.2.2 i a (by simp; omega)⟩, fun q hq hf => ?_⟩
  obtain ⟨r, hr, a, b⟩ := run_of q N h1 hf
  rw [e] at hr
  rcases List.mem_append.1 hr with hr | hr
  · have := hi r hr; omega
  · rcases List.mem_cons.1 hr with rfl | hr
    · simp at a; omega
    · have srt := runs_sorted (fs := fs) 0
      rw [e, List.pairwise_append, List.pairwise_cons] at srt
      have := srt.2.1.1 r hr
      simp at this; omega
end Go.Proofs.Ytladhenjoipfpaa.Dq
