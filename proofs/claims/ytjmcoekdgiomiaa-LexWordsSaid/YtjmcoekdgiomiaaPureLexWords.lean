/- Which texts are words, and of which kind: the law LexWords' answer is true for every input. No condition. -/
import Derived.Test.YtjmcoekdgiomiaaFwe
set_option linter.unusedVariables false
set_option linter.unusedSimpArgs false
namespace Go.Proofs.Ytjmcoekdgiomiaa.Pure
open Go.RowKit Go.Proofs.Ytjmcoekdgiomiaa.PLexWords Go.Proofs.YtjmcoekdgiomiaaW.PrintWords Go.Proofs.YtjmcoekdgiomiaaW.PrintLast
open Go.Proofs.Ytjmcoekdgiomiaa.Fwa Go.Proofs.Ytjmcoekdgiomiaa.Fwb Go.Proofs.Ytjmcoekdgiomiaa.Fwe
theorem rword_f (s : ByteArray) (k : Nat) (kind : Int) (hk : 48 ≤ k) : middenref05_Word.f k s kind = some (wordL s.data.toList kind) := by
  obtain ⟨k, rfl⟩ : ∃ m, k = m + 1 := ⟨k - 1, by omega⟩
  have hl : s.data.toList.length = s.size := by simp
  have hnil : s.data.toList = [] ↔ s.size = 0 := by rw [← hl]; exact List.length_eq_zero_iff.symm
  unfold middenref05_Word.f wordL
  rw [toList_eq]
  by_cases h0 : s.size = 0
  · rw [if_pos (hnil.2 h0)]
    simp only [middenref05_Word.j0]
    rw [if_pos trivial]
    symm
    rw [Option.some.injEq, decide_eq_false_iff_not]
    intro h; have := h.2.1; omega
  · rw [if_neg (fun e => h0 (hnil.1 e))]
    by_cases h32 : s.size ≤ 32
    · have ho := one_f s (by omega) k 0 (by omega) (by omega)
      rw [List.drop_zero] at ho
      have ho' : middenref05_one.f k s 0 = some (oneOut (tokL s.data.toList) 0) := ho
      have hd : decide ((s.size : Int) > 32) = false := decide_eq_false (by omega)
      rw [hd]
      simp only [middenref05_Word.j0]
      rw [if_neg Bool.false_ne_true, ho']
      simp only [Option.bind_some]
      have body : (kind = 1 ∨ kind = 2 ∨ kind = 3) → (if (oneOut (tokL s.data.toList) 0).2.2.2.2.2 = 0 then (if (oneOut (tokL s.data.toList) 0).1 = kind then (some ((oneOut (tokL s.data.toList) 0).2.2.2.2.1 == (s.size : Int))) else (some false)) else (some false))
          = some (decide ((kind = 1 ∨ kind = 2 ∨ kind = 3) ∧ 0 < s.data.toList.length ∧ s.data.toList.length ≤ 32 ∧ (tokL s.data.toList).err = 0 ∧ (tokL s.data.toList).kind = kind ∧ (tokL s.data.toList).used = s.data.toList)) := by
        intro h123
        have hwh := tok_whole s.data.toList
        generalize tokL s.data.toList = T at hwh ⊢
        unfold oneOut
        by_cases he : T.err = 0
        · rw [if_pos he]
          show (if (0 : Int) = 0 then (if T.kind = kind then some (((0 + T.used.length : Nat) : Int) == (s.size : Int)) else some false) else some false) = _
          rw [if_pos rfl]
          by_cases hk2 : T.kind = kind
          · rw [if_pos hk2, Option.some.injEq, Bool.eq_iff_iff]
            simp only [beq_iff_eq, decide_eq_true_eq]
            constructor
            · intro h; exact ⟨h123, by omega, by omega, he, hk2, (hwh he).2 (by omega)⟩
            · intro h; have := (hwh he).1 h.2.2.2.2.2; omega
          · rw [if_neg hk2]
            symm
            rw [Option.some.injEq, decide_eq_false_iff_not]
            intro h; exact hk2 h.2.2.2.2.1
        · rw [if_neg he]
          show (if T.err = 0 then _ else some false) = _
          rw [if_neg he]
          symm
          rw [Option.some.injEq, decide_eq_false_iff_not]
          intro h; exact he h.2.2.2.1
      by_cases k1 : kind = 1
      · rw [if_pos k1]; exact body (.inl k1)
      · rw [if_neg k1]
        by_cases k2 : kind = 2
        · rw [if_pos k2]; exact body (.inr (.inl k2))
        · rw [if_neg k2]
          by_cases k3 : kind = 3
          · rw [if_pos k3]; exact body (.inr (.inr k3))
          · rw [if_neg k3]
            symm
            rw [Option.some.injEq, decide_eq_false_iff_not]
            intro h
            exact h.1.elim k1 (fun h => h.elim k2 k3)
    · have hd : decide ((s.size : Int) > 32) = true := decide_eq_true (by omega)
      rw [hd]
      simp only [middenref05_Word.j0]
      rw [if_pos trivial]
      symm
      rw [Option.some.injEq, decide_eq_false_iff_not]
      intro h; have := h.2.2.1; omega
theorem LexWords : middenlaw05_LexWords.Pure := by
  intro a0 a1 h0 h1
  refine ⟨100, ?_⟩
  unfold middenlaw05_LexWords.f
  rw [awake_f 100 (by omega), word_f a0 100 a1 (by omega), rword_f a0 100 a1 (by omega)]
  simp
end Go.Proofs.Ytjmcoekdgiomiaa.Pure
