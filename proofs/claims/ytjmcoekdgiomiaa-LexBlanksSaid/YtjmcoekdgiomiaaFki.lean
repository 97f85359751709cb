/- The reference's words, digits, texts, joined tokens: the same plain functions; the law LexJoins' answer. No condition. -/
import Derived.Test.YtjmcoekdgiomiaaFkg
import Derived.Test.YtjmcoekdgiomiaaFke
set_option linter.unusedVariables false
set_option linter.unusedSimpArgs false
namespace Go.Proofs.Ytjmcoekdgiomiaa.Fki
open Go.RowKit Go.Proofs.Ytjmcoekdgiomiaa.PLexBlanks Go.Proofs.YtjmcoekdgiomiaaW.PrintWords Go.Proofs.YtjmcoekdgiomiaaW.PrintLast
open Go.Proofs.Ytjmcoekdgiomiaa.Fka Go.Proofs.Ytjmcoekdgiomiaa.Fkb Go.Proofs.Ytjmcoekdgiomiaa.Fke Go.Proofs.Ytjmcoekdgiomiaa.Fkg
theorem rword_f (s : ByteArray) (k : Nat) (kind : Int) (hk : 48 ≤ k) : middenref05_Word.f k s kind = some (wordL s.data.toList kind) := by
  obtain ⟨k, rfl⟩ : ∃ m, k = m + 1 := ⟨k - 1, by omega⟩
  have hl : s.data.toList.length = s.size := by simp
  have hnil : s.data.toList = [] ↔ s.size = 0 := by rw [← hl]; exact List.length_eq_zero_iff.symm
  unfold middenref05_Word.f wordL
  rw [toList_eq]
  by_cases h0 : s.size = 0
  · rw [if_pos (hnil.2 h0)]
    simp only [middenref05_Word.j0]
    rw [if_pos trivial]
    symm
    rw [Option.some.injEq, decide_eq_false_iff_not]
    intro h; have := h.2.1; omega
  · rw [if_neg (fun e => h0 (hnil.1 e))]
    by_cases h32 : s.size ≤ 32
    · have ho := one_f s (by omega) k 0 (by omega) (by omega)
      rw [List.drop_zero] at ho
      have ho' : middenref05_one.f k s 0 = some (oneOut (tokL s.data.toList) 0) := ho
      have hd : decide ((s.size : Int) > 32) = false := decide_eq_false (by omega)
      rw [hd]
      simp only [middenref05_Word.j0]
      rw [if_neg Bool.false_ne_true, ho']
      simp only [Option.bind_some]
      have body : (kind = 1 ∨ kind = 2 ∨ kind = 3) → (if (oneOut (tokL s.data.toList) 0).2.2.2.2.2 = 0 then (if (oneOut (tokL s.data.toList) 0).1 = kind then (some ((oneOut (tokL s.data.toList) 0).2.2.2.2.1 == (s.size : Int))) else (some false)) else (some false))
          = some (decide ((kind = 1 ∨ kind = 2 ∨ kind = 3) ∧ 0 < s.data.toList.length ∧ s.data.toList.length ≤ 32 ∧ (tokL s.data.toList).err = 0 ∧ (tokL s.data.toList).kind = kind ∧ (tokL s.data.toList).used = s.data.toList)) := by
        intro h123
        have hwh := tok_whole s.data.toList
        generalize tokL s.data.toList = T at hwh ⊢
        unfold oneOut
        by_cases he : T.err = 0
        · rw [if_pos he]
          show (if (0 : Int) = 0 then (if T.kind = kind then some (((0 + T.used.length : Nat) : Int) == (s.size : Int)) else some false) else some false) = _
          rw [if_pos rfl]
          by_cases hk2 : T.kind = kind
          · rw [if_pos hk2, Option.some.injEq, Bool.eq_iff_iff]
            simp only [beq_iff_eq, decide_eq_true_eq]
            constructor
            · intro h; exact ⟨h123, by omega, by omega, he, hk2, (hwh he).2 (by omega)⟩
            · intro h; have := (hwh he).1 h.2.2.2.2.2; omega
          · rw [if_neg hk2]
            symm
            rw [Option.some.injEq, decide_eq_false_iff_not]
            intro h; exact hk2 h.2.2.2.2.1
        · rw [if_neg he]
          show (if T.err = 0 then _ else some false) = _
          rw [if_neg he]
          symm
          rw [Option.some.injEq, decide_eq_false_iff_not]
          intro h; exact he h.2.2.2.1
      by_cases k1 : kind = 1
      · rw [if_pos k1]; exact body (.inl k1)
      · rw [if_neg k1]
        by_cases k2 : kind = 2
        · rw [if_pos k2]; exact body (.inr (.inl k2))
        · rw [if_neg k2]
          by_cases k3 : kind = 3
          · rw [if_pos k3]; exact body (.inr (.inr k3))
          · rw [if_neg k3]
            symm
            rw [Option.some.injEq, decide_eq_false_iff_not]
            intro h
            exact h.1.elim k1 (fun h => h.elim k2 k3)
    · have hd : decide ((s.size : Int) > 32) = true := decide_eq_true (by omega)
      rw [hd]
      simp only [middenref05_Word.j0]
      rw [if_pos trivial]
      symm
      rw [Option.some.injEq, decide_eq_false_iff_not]
      intro h; have := h.2.2.1; omega
theorem rreserved_f (s : ByteArray) : middenref05_Reserved.f s = some (reservedL s.data.toList) := by
  unfold middenref05_Reserved.f reservedL
  rw [toList_eq]
  generalize s.data.toList = l
  repeat' split
  all_goals simp_all
theorem rsign_f (s : ByteArray) : middenref05_Sign.f s = some (signL s.data.toList) := by
  unfold middenref05_Sign.f signL
  rw [toList_eq]
  generalize s.data.toList = l
  repeat' split
  all_goals simp_all
theorem B_app (a b : List UInt8) : B a ++ B b = B (a ++ b) := by
  apply B_eq
  simp [B]
theorem rdigits_l0 (n : Int) : ∀ (f k : Nat) (x : Int) (acc : List UInt8), x.natAbs < 10 ^ f → 0 < f → x.natAbs ≤ 9223372036854775808 → acc.length + f ≤ 1000 → f ≤ 1000 → f ≤ k →
    middenref05_Digits.l0 k n (B acc) x = some (if n < 0 then B (45 :: digN f x.natAbs acc) else B (digN f x.natAbs acc)) := by
  intro f
  induction f with
  | zero => intro k x acc h; omega
  | succ f ih =>
    intro k x acc hf _ hx ha hf2 hk
    obtain ⟨k, rfl⟩ : ∃ m, k = m + 1 := ⟨k - 1, by omega⟩
    obtain ⟨d1, d2⟩ := one_digit x
    have hd : x.natAbs % 10 < 10 := by omega
    have hdiv := tdiv_abs x
    have hw : wrap64 (Int.tdiv x 10) = Int.tdiv x 10 := wrap_in _ (by rw [hdiv]; omega)
    have hz : Int.tdiv x 10 = 0 ↔ x.natAbs / 10 = 0 := by rw [← hdiv]; exact Int.natAbs_eq_zero.symm
    have body : ∀ y : List Int, y = Fkg.nums [UInt8.ofNat (48 + x.natAbs % 10)] → (if (strOfNums y).size + (B acc).size ≤ 9223372036854775807 then (if (wrap64 (Int.tdiv x 10)) = 0 then (if n < 0 then (if 1 + ((strOfNums y) ++ (B acc)).size ≤ 9223372036854775807 then (some ((⟨#[45]⟩ : ByteArray) ++ ((strOfNums y) ++ (B acc)))) else (none)) else (some ((strOfNums y) ++ (B acc)))) else (middenref05_Digits.l0 k n ((strOfNums y) ++ (B acc)) (wrap64 (Int.tdiv x 10)))) else (none))
        = some (if n < 0 then B (45 :: digN (f + 1) x.natAbs acc) else B (digN (f + 1) x.natAbs acc)) := by
      intro y hy
      rw [hy, str_nums, B_app, B_size, B_size, if_pos (by simp; omega), hw]
      rw [digN]
      by_cases h0 : x.natAbs / 10 = 0
      · rw [if_pos (hz.2 h0), if_pos h0, B_size]
        by_cases hn : n < 0
        · rw [if_pos hn, if_pos hn, if_pos (by simp; omega)]
          exact congrArg some (B_app [45] _)
        · rw [if_neg hn, if_neg hn]
          rfl
      · rw [if_neg (fun e => h0 (hz.1 e)), if_neg h0]
        have p1 : (Int.tdiv x 10).natAbs < 10 ^ f := by rw [hdiv]; rw [Nat.pow_succ] at hf; clear d1 d2 hw hz; omega
        have p2 : 0 < f := by
          rcases Nat.eq_zero_or_pos f with e | e
          · subst e; rw [hdiv, Nat.pow_zero] at p1; clear d1 d2 hw hz; omega
          · exact e
        have p3 : (Int.tdiv x 10).natAbs ≤ 9223372036854775808 := by rw [hdiv]; clear d1 d2 hw hz p1; omega
        have := ih k (Int.tdiv x 10) (UInt8.ofNat (48 + x.natAbs % 10) :: acc) p1 p2 p3 (by simp; omega) (by omega) (by omega)
        rw [hdiv] at this
        exact this
    simp only [middenref05_Digits.l0]
    by_cases hm : Int.tmod x 10 < 0
    · rw [if_pos hm, d1 hm]
      simp only [Option.bind_some]
      exact body _ (nums_one _ (by omega))
    · rw [if_neg hm, d2 hm]
      simp only [Option.bind_some]
      exact body _ (nums_one _ (by omega))
theorem rdigits_f (n : Int) (hn : n.natAbs ≤ 9223372036854775808) (k : Nat) (hk : 20 ≤ k) : middenref05_Digits.f k n = some (B (digL n)) := by
  have := rdigits_l0 n 20 k n [] (Nat.lt_of_le_of_lt hn (by decide)) (by omega) hn (by simp) (by omega) hk
  unfold middenref05_Digits.f digL
  rw [show (⟨#[]⟩ : ByteArray) = B [] from rfl, this]
  split <;> rfl
theorem rtext_f (t : S34) (hn : t.f2.natAbs ≤ 9223372036854775808) (k : Nat) (hk : 60 ≤ k) : middenref05_Text.f k t.f0 t.f1 t.f2 t.f3 = some (B (textL t).1, (textL t).2) := by
  obtain ⟨k, rfl⟩ : ∃ m, k = m + 1 := ⟨k - 1, by omega⟩
  unfold middenref05_Text.f textL
  have yes : ∀ b : Bool, b = true → (t.f0 = 1 ∨ t.f0 = 2 ∨ t.f0 = 3) → middenref05_Text.j0 (k + 1) t.f0 b t.f0 t.f1 t.f2 t.f3 = some (B (if t.f0 = 1 ∨ t.f0 = 2 ∨ t.f0 = 3 then (t.f1.data.toList, wordL t.f1.data.toList t.f0)
      else if t.f0 = 6 then (t.f1.data.toList, reservedL t.f1.data.toList)
      else if t.f0 = 5 then (t.f1.data.toList, signL t.f1.data.toList)
      else if t.f0 = 4 then (digL t.f2, true)
      else ([], false)).1, (if t.f0 = 1 ∨ t.f0 = 2 ∨ t.f0 = 3 then (t.f1.data.toList, wordL t.f1.data.toList t.f0)
      else if t.f0 = 6 then (t.f1.data.toList, reservedL t.f1.data.toList)
      else if t.f0 = 5 then (t.f1.data.toList, signL t.f1.data.toList)
      else if t.f0 = 4 then (digL t.f2, true)
      else ([], false)).2) := by
    rintro b rfl h
    rw [if_pos h]
    simp only [middenref05_Text.j0]
    rw [if_pos trivial, rword_f t.f1 k t.f0 (by omega)]
    rfl
  by_cases k1 : t.f0 = 1
  · rw [if_pos k1]
    exact yes _ (by rw [k1]; rfl) (.inl k1)
  · rw [if_neg k1]
    by_cases k2 : t.f0 = 2
    · rw [if_pos k2]
      exact yes _ (by rw [k2]; rfl) (.inr (.inl k2))
    · rw [if_neg k2]
      by_cases k3 : t.f0 = 3
      · exact yes _ (by rw [k3]; rfl) (.inr (.inr k3))
      · have hno : ¬ (t.f0 = 1 ∨ t.f0 = 2 ∨ t.f0 = 3) := fun h => h.elim k1 (fun h => h.elim k2 k3)
        have hb : (t.f0 == 3) = false := by simpa using k3
        rw [hb, if_neg hno]
        simp only [middenref05_Text.j0]
        rw [if_neg Bool.false_ne_true]
        by_cases k6 : t.f0 = 6
        · rw [if_pos k6, if_pos k6, rreserved_f]; rfl
        · rw [if_neg k6, if_neg k6]
          by_cases k5 : t.f0 = 5
          · rw [if_pos k5, if_pos k5, rsign_f]; rfl
          · rw [if_neg k5, if_neg k5]
            by_cases k4 : t.f0 = 4
            · rw [if_pos k4, if_pos k4, rdigits_f t.f2 hn k (by omega)]; rfl
            · rw [if_neg k4, if_neg k4]; rfl
end Go.Proofs.Ytjmcoekdgiomiaa.Fki
