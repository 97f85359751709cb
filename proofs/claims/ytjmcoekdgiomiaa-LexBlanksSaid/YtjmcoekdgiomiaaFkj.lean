/- Tokens with just the fields that their kind has; what joined tokens are. No condition. -/
import Derived.Test.YtjmcoekdgiomiaaFkh
set_option linter.unusedVariables false
set_option linter.unusedSimpArgs false
namespace Go.Proofs.Ytjmcoekdgiomiaa.Fkj
open Go.RowKit Go.Proofs.Ytjmcoekdgiomiaa.PLexBlanks Go.Proofs.YtjmcoekdgiomiaaW.PrintWords Go.Proofs.YtjmcoekdgiomiaaW.PrintLast
open Go.Proofs.Ytjmcoekdgiomiaa.Fka Go.Proofs.Ytjmcoekdgiomiaa.Fkb Go.Proofs.Ytjmcoekdgiomiaa.Fkc Go.Proofs.Ytjmcoekdgiomiaa.Fkg Go.Proofs.Ytjmcoekdgiomiaa.Fkh
theorem named_l0 (L : List S34) (hb : L.length ≤ 3518437208780) : ∀ (d k n : Nat) (acc : List S34), n + d = L.length → acc.length = n → d + 1 ≤ k →
    middenlaw05_named.l0 k L acc (n : Int) = some (acc ++ (L.drop n).map named1) := by
  intro d
  induction d with
  | zero =>
    intro k n acc hn ha hk
    obtain ⟨k, rfl⟩ : ∃ m, k = m + 1 := ⟨k - 1, by omega⟩
    simp only [middenlaw05_named.l0]
    rw [if_neg (by omega), List.drop_eq_nil_of_le (by omega)]
    simp
  | succ d ih =>
    intro k n acc hn ha hk
    obtain ⟨k, rfl⟩ : ∃ m, k = m + 1 := ⟨k - 1, by omega⟩
    have h1 : n < L.length := by omega
    have e1 : rd_T34 L (n : Int) = L[n] := by simp [rd_T34, List.getD_eq_getElem?_getD, h1]
    have hw : wrap64 ((n : Int) + 1) = ((n + 1 : Nat) : Int) := wrap_one n (by omega)
    simp only [middenlaw05_named.l0]
    rw [if_pos (by omega), if_pos (by omega), e1, hw, List.drop_eq_getElem_cons h1]
    have hx : acc.length < 3518437208883 := by omega
    by_cases k4 : L[n].f0 = 4
    · rw [if_pos k4, if_pos hx, ih k (n + 1) _ (by omega) (by simp; omega) (by omega)]
      have : named1 L[n] = ⟨L[n].f0, (⟨#[]⟩ : ByteArray), L[n].f2, L[n].f3⟩ := by unfold named1; rw [if_pos k4]; rfl
      rw [← this, List.map_cons, List.append_assoc]
      rfl
    · rw [if_neg k4, if_pos hx, ih k (n + 1) _ (by omega) (by simp; omega) (by omega)]
      have : named1 L[n] = ⟨L[n].f0, L[n].f1, 0, L[n].f3⟩ := by unfold named1; rw [if_neg k4]
      rw [← this, List.map_cons, List.append_assoc]
      rfl
theorem named_f (L : List S34) (hb : L.length ≤ 3518437208780) (k : Nat) (hk : L.length + 1 ≤ k) : middenlaw05_named.f k L = some (L.map named1) := by
  have := named_l0 L hb L.length k 0 [] (by omega) rfl hk
  simpa [middenlaw05_named.f] using this
theorem flat_len : ∀ l : List (List UInt8 × S34), l.length ≤ (flat l).length
  | [] => Nat.le_refl _
  | (g, t) :: l => by
    have := flat_len l
    simp only [flat, List.length_append, List.length_cons]
    omega
theorem scan_of_flat (l : List (List UInt8 × S34)) (hx : ∀ x ∈ l, Gap x.1 ∧ -9223372036854775808 ≤ x.2.f2 ∧ x.2.f2 ≤ 9223372036854775807 ∧ (textL x.2).2 = true) (hs : (flat l).length ≤ 16384) :
    ∃ R, scanAll (flat l) = (R, 0, 0) ∧ sameL false R (l.map fun x => named1 x.2) = true := by
  obtain ⟨R, hR, hS⟩ := scan_flat l hx ((flat l).length + 1) 0 [] (by have := flat_len l; omega)
  refine ⟨R, ?_, hS⟩
  rw [scanAll_S, if_neg (by omega), hR]
  rfl
theorem joinL_over : ∀ (l : List S34) (acc : List UInt8), 16384 < acc.length → (joinL l acc).2 ≠ 0
  | [], acc, h => by rw [joinL, if_pos h]; decide
  | t :: l, acc, h => by
    rw [joinL]
    by_cases ht : (textL t).2 = true
    · rw [if_pos ht, if_neg (by omega)]; exact joinL_over l acc h
    · rw [if_neg ht]; decide
theorem joinL_bad : ∀ (l : List S34) (acc : List UInt8), (joinL l acc).2 ≠ 0 → (joinL l acc).1 = []
  | [], acc, h => by
    rw [joinL] at h ⊢
    by_cases hl : acc.length > 16384
    · rw [if_pos hl]
    · rw [if_neg hl] at h; exact absurd rfl h
  | t :: l, acc, h => by
    rw [joinL] at h ⊢
    by_cases ht : (textL t).2 = true
    · rw [if_pos ht] at h ⊢
      by_cases ha : acc.length ≤ 16384
      · rw [if_pos ha] at h ⊢; exact joinL_bad l _ h
      · rw [if_neg ha] at h ⊢; exact joinL_bad l _ h
    · rw [if_neg ht]
theorem joinL_ok : ∀ (l : List S34) (acc : List UInt8), (joinL l acc).2 = 0 → (joinL l acc).1 = acc ++ flat (l.map fun t => (([] : List UInt8), t)) ∧ (joinL l acc).1.length ≤ 16384 ∧ ∀ t ∈ l, (textL t).2 = true
  | [], acc, h => by
    rw [joinL] at h ⊢
    by_cases hl : acc.length > 16384
    · rw [if_pos hl] at h; exact absurd h (by decide)
    · rw [if_neg hl]; exact ⟨by simp [flat], by show acc.length ≤ _; omega, fun t ht => by cases ht⟩
  | t :: l, acc, h => by
    have ho := joinL_over l acc
    rw [joinL] at h ⊢
    by_cases ht : (textL t).2 = true
    · rw [if_pos ht] at h ⊢
      by_cases ha : acc.length ≤ 16384
      · rw [if_pos ha] at h ⊢
        obtain ⟨e1, e2, e3⟩ := joinL_ok l _ h
        refine ⟨by rw [e1]; simp [flat], e2, fun u hu => ?_⟩
        rcases List.mem_cons.1 hu with rfl | hu
        · exact ht
        · exact e3 u hu
      · rw [if_neg ha] at h; exact absurd h (ho (by omega))
    · rw [if_neg ht] at h; exact absurd h (by decide)
theorem joinL_len : ∀ (l : List S34) (acc : List UInt8), (joinL l acc).2 = 0 → l.length ≤ 16384 := by
  intro l acc h
  obtain ⟨e1, e2, _⟩ := joinL_ok l acc h
  have := flat_len (l.map fun t => (([] : List UInt8), t))
  rw [e1] at e2
  simp only [List.length_append, List.length_map] at e2 this
  omega
end Go.Proofs.Ytjmcoekdgiomiaa.Fkj
