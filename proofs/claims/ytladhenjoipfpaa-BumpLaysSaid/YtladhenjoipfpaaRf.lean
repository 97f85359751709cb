/- The document's pool, as a space calls it: Alloc by findR, Free by freeG, Left. No condition. -/
import Derived.Test.YtladhenjoipfpaaXr
set_option linter.unusedVariables false
set_option linter.unusedSimpArgs false
namespace Go.Proofs.Ytladhenjoipfpaa.Rf
open Go.RowKit
open Pl Rn Ov Lf Wl Gp Ct Sn Gq Tf Mt Rr Kp Sc Nn Tk La Rp Rq Mb S2 Fr
theorem findR_split {fs : List Int} {N p : Nat} (h : findR fs N = some p) : ∃ (k : Nat) (ini post : List (Nat × Nat)), runsFrom fs 0 = ini ++ (p, k) :: post ∧ (∀ r : Nat × Nat, r ∈ ini → (r.2 : Int) < N) ∧ (N : Int) ≤ k := by
  unfold findR at h
  rw [Option.map_eq_some_iff] at h
  obtain ⟨⟨q, k⟩, hr, rfl⟩ := h
  rw [List.find?_eq_some_iff_append] at hr
  obtain ⟨hp, ini, post, e, hi⟩ := hr
  refine ⟨k, ini, post, e, fun r hr => ?_, by simpa using hp⟩
  have := hi r hr
  simp at this
  omega
theorem findR_nothing {fs : List Int} {N : Nat} (h : findR fs N = none) : ∀ r ∈ runsFrom fs 0, (r.2 : Int) < N := by
  unfold findR at h
  rw [Option.map_eq_none_iff, List.find?_eq_none] at h
  intro r hr
  have := h r hr
  simp at this
  omega
section
variable {w w' : World} {y ry cy : Nat} {fs ms : List Int}
theorem ralloc_f (P : RP w y ry cy fs) (N : Nat) (h1 : 1 ≤ N) (hN : N ≤ 9223372036854775807) : Calls Try.prog 27 #[.pointer (some ⟨y, 0, none⟩), .int .i64 N] w fun e w' =>
    (findR fs N = none ∧ e = .returned (.tuple #[.int .i64 0, .int .i64 5]) ∧ w' = w) ∨ (∃ p : Nat, findR fs N = some p ∧ e = .returned (.tuple #[.int .i64 p, .int .i64 0]) ∧ RP w' y ry cy (fill fs p N p) ∧ Kit.Mod [ry] w w') := by
  rcases hf : findR fs N with _ | p
  · refine (ralloc_none P N h1 hN (Dq.fits_none N h1 (findR_nothing hf))).mono ?_
    rintro e w' ⟨rfl, rfl⟩
    exact .inl ⟨rfl, rfl, rfl⟩
  · obtain ⟨k, ini, post, e, hi, hk⟩ := findR_split hf
    obtain ⟨F, G⟩ := Dq.fits_first N h1 e hi hk
    refine (ralloc_it P p N h1 F G).mono ?_
    rintro e w' ⟨rfl, R, m⟩
    exact .inr ⟨p, rfl, rfl, R, m⟩
theorem rfree_all (WF : Wf fs ms) (P : RP w y ry cy fs) (q : Nat) : Calls Try.prog 47 #[.pointer (some ⟨y, 0, none⟩), .int .i64 q] w fun e w' =>
    ∃ c : Int, e = .returned (.int .i64 c) ∧ RP w' y ry cy (freeG fs q) ∧ Kit.Mod [ry] w w' := by
  by_cases c : q < fs.length ∧ fs.getD q 0 = q
  · obtain ⟨m, e1, e2, e3, e4⟩ := first_group WF q c.1 c.2
    refine (rfree_it P q m c.2 e3 e2 (fun k hk => ⟨fun x => e4 k x.1 x.2, fun x => ?_⟩)).mono ?_
    · rcases WF k hk with z | ⟨f, m', a1, a2, a3, a4, a5, a6⟩
      · omega
      · have : f = q := by omega
        subst this
        omega
    · rintro e w' ⟨rfl, h, m1⟩
      rw [fill_freeG WF q m c.1 c.2 e2 e3 e4 e1] at h
      exact ⟨0, rfl, h, m1⟩
  · have e : freeG fs q = fs := if_neg c
    rw [e]
    refine (rfree_bad P q (by rcases Nat.lt_or_ge q fs.length with x | x; exact .inr (.inr ⟨by omega, by omega, fun z => c ⟨x, by simpa using z⟩⟩); exact .inr (.inl (by omega)))).mono ?_
    rintro e w' ⟨rfl, rfl⟩
    exact ⟨8, rfl, P, Kit.Mod.refl _ _⟩
/-- What was taken is given back. -/
theorem rfree_back (WF : Wf fs ms) (hml : ms.length = fs.length) {N p : Nat} (h1 : 1 ≤ N) (hf : findR fs N = some p) (P : RP w y ry cy (fill fs p N p)) : Calls Try.prog 47 #[.pointer (some ⟨y, 0, none⟩), .int .i64 p] w fun e w' =>
    ∃ c : Int, e = .returned (.int .i64 c) ∧ RP w' y ry cy fs ∧ Kit.Mod [ry] w w' := by
  obtain ⟨k, ini, post, e, hi, hk⟩ := findR_split hf
  obtain ⟨WF1, hp, hneg⟩ := wf_alloc_run WF hml e h1 (by omega : N ≤ k)
  have L := fill_length fs p N p hp
  have G := fill_get fs p N p hp
  have e1 : (fill fs p N p).getD p 0 = p := by rw [G, if_pos (by omega)]
  refine (rfree_all WF1 P p).mono ?_
  rintro e w' ⟨c, rfl, R, m⟩
  have hs := set_get ms p
  rw [← fill_freeG WF1 p N (by rw [L]; omega) e1 h1 (by rw [L]; exact hp) (fun i a b => by rw [G, if_pos ⟨a, b⟩]) (by rw [set_get ms p p _ (by omega), if_pos rfl]), fill_back WF p N hp hneg] at R
  exact ⟨c, rfl, R, m⟩
end
end Go.Proofs.Ytladhenjoipfpaa.Rf
