/- A pool gives groups back, plainly: freeG, freeAll; the pool's and the reference's Free. No condition. -/
import Derived.Test.YtladhenjoipfpaaAp
import Derived.Test.YtladhenjoipfpaaDq
set_option linter.unusedVariables false
set_option linter.unusedSimpArgs false
namespace Go.Proofs.Ytladhenjoipfpaa.Fr
open Go.RowKit
open Pl Rn Ov Lf Wl Gp Ct Sn Gq Tf Mt Rr Kp Sc Nn Tk La Rp Rq Mb S2
def freeG (fs : List Int) (q : Nat) : List Int := if q < fs.length ∧ fs.getD q 0 = q then fs.map (fun v => if v = (q : Int) then -1 else v) else fs
def freeAll (fs : List Int) (gs : List Nat) : List Int := gs.foldl freeG fs
theorem getD_ext {l l' : List Int} (h : l.length = l'.length) (e : ∀ i, i < l.length → l.getD i 0 = l'.getD i 0) : l = l' := by
  apply List.ext_getElem h
  intro i h1 h2
  have := e i h1
  simpa [List.getD_eq_getElem?_getD, h1, h2] using this
theorem freeG_length (fs : List Int) (q : Nat) : (freeG fs q).length = fs.length := by
  unfold freeG; split <;> simp
theorem freeG_get (fs : List Int) (q j : Nat) (h : j < fs.length) : (freeG fs q).getD j 0 = if (q < fs.length ∧ fs.getD q 0 = q) ∧ fs.getD j 0 = q then -1 else fs.getD j 0 := by
  unfold freeG
  by_cases c : q < fs.length ∧ fs.getD q 0 = q
  · rw [if_pos c]
    simp only [c, true_and, and_self]
    simp [List.getD_eq_getElem?_getD, h]
  · rw [if_neg c, if_neg (fun x => c x.1)]
theorem fill_freeG {fs ms : List Int} (W : Wf fs ms) (q m : Nat) (hq : q < fs.length) (he : fs.getD q 0 = q) (hm : 1 ≤ m) (hl : q + m ≤ fs.length) (hi : ∀ i, q ≤ i → i < q + m → fs.getD i 0 = q) (hms : ms.getD q 0 = m) : fill fs q m (-1) = freeG fs q := by
  refine getD_ext (by rw [fill_length _ _ _ _ hl, freeG_length]) (fun i hlt => ?_)
  rw [fill_length _ _ _ _ hl] at hlt
  rw [fill_get _ _ _ _ hl, freeG_get _ _ _ hlt]
  by_cases c : q ≤ i ∧ i < q + m
  · rw [if_pos c, if_pos ⟨⟨hq, he⟩, hi i c.1 c.2⟩]
  · rw [if_neg c, if_neg]
    rintro ⟨_, e⟩
    rcases W i hlt with w | ⟨f, m', a1, a2, a3, a4, a5, a6⟩
    · omega
    · have : f = q := by omega
      subst this
      omega
theorem free_all {w : World} {g a b : Nat} {fs ms : List Int} (WF : Wf fs ms) (P : Pool w g a b fs ms) (q : Nat) : Calls Try.prog 33 #[.pointer (some ⟨g, 0, none⟩), .int .i64 q] w fun e w' =>
    ∃ c : Int, e = .returned (.int .i64 c) ∧ (∃ ms', Pool w' g a b (freeG fs q) ms' ∧ Wf (freeG fs q) ms') ∧ Kit.Mod [a, b] w w' := by
  by_cases c : q < fs.length ∧ fs.getD q 0 = q
  · obtain ⟨m, e1, e2, e3, e4⟩ := first_group WF q c.1 c.2
    refine (free_it P q m c.2 e1 e3 e2).mono ?_
    rintro e w' ⟨rfl, h, m1⟩
    have hw := wf_free WF P.len q m c.2 e1 e2 e3 e4
    rw [fill_freeG WF q m c.1 c.2 e2 e3 e4 e1] at h hw
    exact ⟨0, rfl, ⟨_, h, hw⟩, m1⟩
  · have e : freeG fs q = fs := if_neg c
    rw [e]
    refine (free_bad P q (by rcases Nat.lt_or_ge q fs.length with x | x; exact .inr (.inr ⟨by omega, by omega, fun y => c ⟨x, by simpa using y⟩⟩); exact .inr (.inl (by omega)))).mono ?_
    rintro e w' ⟨rfl, rfl⟩
    exact ⟨8, rfl, ⟨ms, P, WF⟩, Kit.Mod.refl _ _⟩
theorem freeAll_length (gs : List Nat) : ∀ fs : List Int, (freeAll fs gs).length = fs.length := by
  induction gs with
  | nil => intro fs; rfl
  | cons q gs ih => intro fs; exact (ih (freeG fs q)).trans (freeG_length fs q)
theorem freeAll_take (fs : List Int) (gs : List Nat) (k : Nat) (h : k < gs.length) : freeG (freeAll fs (gs.take k)) (gs.getD k 0) = freeAll fs (gs.take (k + 1)) := by
  unfold freeAll
  rw [List.take_add_one, List.foldl_append, List.getD_eq_getElem?_getD]
  simp [h]
/-- Which groups of a space lie in a pool. -/
structure Gr (n : Nat) (fs : List Int) (gs : List Nat) : Prop where
  len : fs.length = n
  pos : ∀ q ∈ gs, 1 ≤ q
  at' : ∀ j, j < n → fs.getD j 0 = (fs0 n).getD j 0 ∨ (1 ≤ j ∧ ∃ q, q ∈ gs ∧ fs.getD j 0 = (q : Nat) ∧ q < n ∧ fs.getD q 0 = q)
theorem fs0_get (n j : Nat) (hn : 1 ≤ n) (h : j < n) : (fs0 n).getD j 0 = if j = 0 then 0 else -1 := by
  unfold fs0
  rw [fill_get _ 0 1 0 (by simp; omega)]
  by_cases c : j = 0
  · subst c; simp
  · rw [if_neg (by omega), if_neg c]
    simp [List.getD_eq_getElem?_getD, h]
theorem Gr.new (n : Nat) (h : 1 ≤ n) : Gr n (fs0 n) [] := ⟨fs0_length n h, by simp, fun j _ => .inl rfl⟩
theorem Gr.take {n : Nat} {fs : List Int} {gs : List Nat} (h : Gr n fs gs) (hn : 1 ≤ n) {N q : Nat} (hf : findR fs N = some q) (h1 : 1 ≤ N) : Gr n (fill fs q N q) (gs ++ [q]) := by
  obtain ⟨a1, a2⟩ := findR_mem hf
  have L := fill_length fs q N q a1
  have G := fill_get fs q N q a1
  have q1 : 1 ≤ q := by
    rcases Nat.lt_or_ge 0 q with c | c
    · exact c
    · have := a2 0 (by omega) (by omega)
      rcases h.at' 0 (by omega) with e | ⟨e, _⟩
      · rw [fs0_get n 0 hn (by omega), if_pos rfl] at e; omega
      · omega
  have hl := h.len
  refine ⟨L.trans hl, fun x hx => ?_, fun j hj => ?_⟩
  · rcases List.mem_append.1 hx with c | c
    · exact h.pos x c
    · have := List.mem_singleton.1 c; omega
  · by_cases c : q ≤ j ∧ j < q + N
    · right
      exact ⟨by omega, q, by simp, by rw [G, if_pos c], by omega, by rw [G, if_pos ⟨Nat.le_refl _, by omega⟩]⟩
    · rw [G, if_neg c]
      rcases h.at' j hj with e | ⟨e, p, p1, p2, p3, p4⟩
      · exact .inl e
      · refine .inr ⟨e, p, List.mem_append.2 (.inl p1), p2, p3, ?_⟩
        rw [G, if_neg ?_]
        · exact p4
        · rintro ⟨x, y⟩
          have := a2 p x y
          omega
theorem Gr.free {n : Nat} (hn : 1 ≤ n) (gs : List Nat) : ∀ {fs : List Int}, Gr n fs gs → freeAll fs gs = fs0 n := by
  induction gs with
  | nil =>
    intro fs h
    refine getD_ext (h.len.trans (fs0_length n hn).symm) (fun i hi => ?_)
    change i < fs.length at hi
    rw [h.len] at hi
    rcases h.at' i hi with e | ⟨_, q, hq, _⟩
    · exact e
    · cases hq
  | cons p gs ih =>
    intro fs h
    refine ih (fs := freeG fs p) ⟨(freeG_length _ _).trans h.len, fun q hq => h.pos q (List.mem_cons_of_mem _ hq), fun j hj => ?_⟩
    have hp := h.pos p (by simp)
    have hl := h.len
    rw [freeG_get _ _ _ (by omega)]
    by_cases c : (p < fs.length ∧ fs.getD p 0 = p) ∧ fs.getD j 0 = p
    · rw [if_pos c]
      left
      rw [fs0_get n j hn hj]
      rcases h.at' j hj with e | ⟨e, _⟩
      · rw [fs0_get n j hn hj] at e
        split at e <;> omega
      · rw [if_neg (by omega)]
    · rw [if_neg c]
      rcases h.at' j hj with e | ⟨e, q, hq, e2, e3, e4⟩
      · exact .inl e
      · right
        have hne : q ≠ p := fun x => by
          subst x
          exact c ⟨⟨by omega, e4⟩, e2⟩
        refine ⟨e, q, by simpa [hne] using hq, e2, e3, ?_⟩
        rw [freeG_get _ _ _ (by omega), if_neg (fun x => by have := x.2; omega)]
        exact e4
/-- What is laid keeps it so. -/
theorem Gr.lay {n words : Nat} {fs : List Int} {σ : Sq} (h : Gr n fs σ.groups) (hn : 1 ≤ n) (m : Int) : Gr n (layA fs words σ m).2.2.1 (layA fs words σ m).2.2.2.groups := by
  unfold layA
  split
  · exact h
  · split
    · exact h
    · rename_i hb x hx
      unfold layF at hx
      split at hx
      · rw [Option.map_eq_some_iff] at hx
        obtain ⟨⟨q, f, s⟩, he, e⟩ := hx
        obtain ⟨hf, _, h3, h4⟩ := takeF_some he
        subst h4 h3 e
        exact h.take hn hf (by omega)
      · split at hx
        · rw [Option.map_eq_some_iff] at hx
          obtain ⟨⟨q, f, s⟩, he, e⟩ := hx
          obtain ⟨hf, _, h3, h4⟩ := takeF_some he
          subst h4 h3 e
          exact h.take hn hf (by omega)
        · simp only [Option.some.injEq] at hx
          subst hx
          exact h
end Go.Proofs.Ytladhenjoipfpaa.Fr
