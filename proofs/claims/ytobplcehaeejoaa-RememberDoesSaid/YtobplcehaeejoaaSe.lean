/- Sets of numbers as rising lists: putting in, taking out. No condition. -/
import Derived.Test.YtobplcehaeejoaaKit
set_option linter.unusedVariables false
set_option linter.unusedSimpArgs false
namespace Go.Proofs.Ytobplcehaeejoaa.Se
/-- Rising, each once. -/
abbrev Up (l : List Int) : Prop := l.Pairwise (· < ·)
def ins (k : Int) : List Int → List Int
  | [] => [k]
  | x :: l => if k < x then k :: x :: l else if k = x then x :: l else x :: ins k l
def rem (k : Int) (l : List Int) : List Int := l.filter (fun x => decide (x ≠ k))
theorem mem_ins (k y : Int) (l : List Int) : y ∈ ins k l ↔ y = k ∨ y ∈ l := by
  induction l with
  | nil => simp [ins]
  | cons x l ih =>
    unfold ins
    split
    · simp
    · split
      · rename_i h; subst h; simp
      · simp [ih]
        constructor
        · rintro (h | h | h)
          · exact .inr (.inl h)
          · exact .inl h
          · exact .inr (.inr h)
        · rintro (h | h | h)
          · exact .inr (.inl h)
          · exact .inl h
          · exact .inr (.inr h)
theorem mem_rem (k y : Int) (l : List Int) : y ∈ rem k l ↔ y ∈ l ∧ y ≠ k := by simp [rem]
theorem up_ins (k : Int) (l : List Int) (h : Up l) : Up (ins k l) := by
  induction l with
  | nil => simp [ins, Up]
  | cons x l ih =>
    have hx := List.pairwise_cons.1 h
    unfold ins
    split
    · rename_i hlt
      refine List.pairwise_cons.2 ⟨fun y hy => ?_, h⟩
      rcases List.mem_cons.1 hy with rfl | hy
      · exact hlt
      · have := hx.1 y hy; omega
    · split
      · exact h
      · refine List.pairwise_cons.2 ⟨fun y hy => ?_, ih hx.2⟩
        rcases (mem_ins k y l).1 hy with rfl | hy
        · omega
        · exact hx.1 y hy
theorem up_rem (k : Int) (l : List Int) (h : Up l) : Up (rem k l) := h.filter _
/-- Rising lists with the same numbers are one. -/
theorem up_ext : ∀ {l l' : List Int}, Up l → Up l' → (∀ y, y ∈ l ↔ y ∈ l') → l = l'
  | [], [], _, _, _ => rfl
  | [], y :: l', _, _, h => absurd ((h y).2 (by simp)) (by simp)
  | x :: l, [], _, _, h => absurd ((h x).1 (by simp)) (by simp)
  | x :: l, y :: l', hl, hl', h => by
    have a := List.pairwise_cons.1 hl
    have b := List.pairwise_cons.1 hl'
    have e : x = y := by
      have h1 := (h x).1 (by simp)
      have h2 := (h y).2 (by simp)
      rcases List.mem_cons.1 h1 with h1 | h1
      · exact h1
      · rcases List.mem_cons.1 h2 with h2 | h2
        · exact h2.symm
        · have := a.1 y h2
          have := b.1 x h1
          omega
    subst e
    congr 1
    refine up_ext a.2 b.2 (fun z => ?_)
    have hz := h z
    simp only [List.mem_cons] at hz
    constructor
    · intro m
      rcases hz.1 (.inr m) with c | c
      · have := a.1 z m; omega
      · exact c
    · intro m
      rcases hz.2 (.inr m) with c | c
      · have := b.1 z m; omega
      · exact c
theorem up_nodup {l : List Int} (h : Up l) : l.Nodup := h.imp (fun h => by omega)
theorem length_ins (k : Int) (l : List Int) (h : Up l) : (ins k l).length = if k ∈ l then l.length else l.length + 1 := by
  by_cases hk : k ∈ l
  · rw [if_pos hk]
    have : ins k l = l := up_ext (up_ins k l h) h (fun y => by rw [mem_ins]; exact ⟨fun q => q.elim (fun e => e ▸ hk) id, .inr⟩)
    rw [this]
  · rw [if_neg hk]
    clear h
    induction l with
    | nil => rfl
    | cons x l ih =>
      unfold ins
      split
      · simp
      · split
        · rename_i e; subst e; simp at hk
        · have := ih (fun m => hk (by simp [m]))
          simp [this]
theorem length_rem (k : Int) (l : List Int) (h : Up l) : (rem k l).length + (if k ∈ l then 1 else 0) = l.length := by
  induction l with
  | nil => simp [rem]
  | cons x l ih =>
    have hx := List.pairwise_cons.1 h
    have i := ih hx.2
    by_cases e : x = k
    · subst e
      have n : x ∉ l := fun m => by have := hx.1 x m; omega
      rw [if_neg n] at i
      rw [if_pos (by simp)]
      have : rem x (x :: l) = rem x l := by simp [rem]
      rw [this]
      simp
      omega
    · have : rem k (x :: l) = x :: rem k l := by simp [rem, e]
      rw [this]
      have e2 : (k ∈ x :: l) ↔ k ∈ l := by simp; intro h; exact absurd h.symm e
      simp only [List.length_cons]
      by_cases m : k ∈ l
      · rw [if_pos (e2.2 m)]
        rw [if_pos m] at i
        omega
      · rw [if_neg (fun q => m (e2.1 q))]
        rw [if_neg m] at i
        omega
/-- Sorted, a permutation of a rising list is that list. -/
theorem sorted_eq {ss M : List Int} (hp : ss.Perm M) (hu : Up M) : (ss.mergeSort fun x y => decide (x ≤ y)) = M := by
  have tr : ∀ a b c : Int, decide (a ≤ b) = true → decide (b ≤ c) = true → decide (a ≤ c) = true := fun a b c h1 h2 => by simp at *; omega
  have to : ∀ a b : Int, (decide (a ≤ b) || decide (b ≤ a)) = true := fun a b => by simp; omega
  refine List.Perm.eq_of_pairwise (le := fun a b => decide (a ≤ b) = true) (fun a b _ _ h1 h2 => ?_) (List.pairwise_mergeSort tr to ss) (hu.imp (fun h => by simp; omega)) ((List.mergeSort_perm ss _).trans hp)
  simp at h1 h2
  omega
end Go.Proofs.Ytobplcehaeejoaa.Se
