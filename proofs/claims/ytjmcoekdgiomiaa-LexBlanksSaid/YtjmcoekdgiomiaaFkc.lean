/- Lists of tokens that are the same. No condition. -/
import Derived.Test.YtjmcoekdgiomiaaFkb
set_option linter.unusedVariables false
set_option linter.unusedSimpArgs false
namespace Go.Proofs.Ytjmcoekdgiomiaa.Fkc
open Go.RowKit Go.Proofs.Ytjmcoekdgiomiaa.PLexBlanks Go.Proofs.YtjmcoekdgiomiaaW.PrintWords Go.Proofs.YtjmcoekdgiomiaaW.PrintLast
open Go.Proofs.Ytjmcoekdgiomiaa.Fka Go.Proofs.Ytjmcoekdgiomiaa.Fkb
/-- Two tokens are the same (with their places, or but for them). -/
def sameT (p : Bool) (a b : S34) : Bool := decide (a.f0 = b.f0) && decide (a.f1.toList = b.f1.toList) && decide (a.f2 = b.f2) && (!p || decide (a.f3 = b.f3))
def sameL (p : Bool) : List S34 → List S34 → Bool
  | [], [] => true
  | a :: l, b :: m => sameT p a b && sameL p l m
  | _, _ => false
theorem sameL_len {p : Bool} : ∀ {l m : List S34}, sameL p l m = true → l.length = m.length
  | [], [], _ => rfl
  | a :: l, b :: m, h => by
    simp only [sameL, Bool.and_eq_true] at h
    simp [sameL_len h.2]
  | [], b :: m, h => by simp [sameL] at h
  | a :: l, [], h => by simp [sameL] at h
theorem sameL_refl (p : Bool) : ∀ l : List S34, sameL p l l = true
  | [] => rfl
  | a :: l => by simp [sameL, sameT, sameL_refl p l]
theorem same_l0 (p : Bool) (L M : List S34) (hlen : L.length = M.length) (hb : L.length ≤ 1099511627776) : ∀ (d k n : Nat), n + d = L.length → d + 1 ≤ k → middenref05_Same.l0 k L M p (n : Int) = some (sameL p (L.drop n) (M.drop n)) := by
  intro d
  induction d with
  | zero =>
    intro k n hn hk
    obtain ⟨k, rfl⟩ : ∃ m, k = m + 1 := ⟨k - 1, by omega⟩
    simp only [middenref05_Same.l0]
    rw [if_neg (by omega), List.drop_eq_nil_of_le (by omega), List.drop_eq_nil_of_le (by omega)]
    rfl
  | succ d ih =>
    intro k n hn hk
    obtain ⟨k, rfl⟩ : ∃ m, k = m + 1 := ⟨k - 1, by omega⟩
    have h1 : n < L.length := by omega
    have h2 : n < M.length := by omega
    have ihn := ih k (n + 1) (by omega) (by omega)
    have e1 : rd_T34 L (n : Int) = L[n] := by simp [rd_T34, List.getD_eq_getElem?_getD, h1]
    have e2 : rd_T34 M (n : Int) = M[n] := by simp [rd_T34, List.getD_eq_getElem?_getD, h2]
    simp only [middenref05_Same.l0]
    rw [if_pos (by omega), if_pos (by omega), if_pos (by omega), e1, e2, List.drop_eq_getElem_cons h1, List.drop_eq_getElem_cons h2]
    have hw : wrap64 ((n : Int) + 1) = ((n + 1 : Nat) : Int) := wrap_one n (by omega)
    rw [hw, ihn]
    simp only [sameL, sameT]
    generalize sameL p (L.drop (n + 1)) (M.drop (n + 1)) = r
    by_cases k0 : L[n].f0 = M[n].f0
    · by_cases k1 : L[n].f1.toList = M[n].f1.toList
      · by_cases k2 : L[n].f2 = M[n].f2
        · cases p with
          | true =>
            by_cases k3 : L[n].f3 = M[n].f3
            · simp [k0, k1, k2, k3]
            · simp [k0, k1, k2, k3]
          | false => simp [k0, k1, k2]
        · simp [k0, k1, k2]
      · simp [k0, k1]
    · simp [k0]
theorem same_f (k : Nat) (L M : List S34) (p : Bool) (hb : L.length ≤ 1099511627776) (hk : L.length + 1 ≤ k) : middenref05_Same.f k L M p = some (sameL p L M) := by
  unfold middenref05_Same.f
  by_cases h : L.length = M.length
  · rw [if_pos (by omega)]
    have := same_l0 p L M h hb L.length k 0 (by omega) hk
    simpa using this
  · rw [if_neg (by omega)]
    symm
    rw [Option.some.injEq, Bool.eq_false_iff]
    intro e
    exact h (sameL_len e)
end Go.Proofs.Ytjmcoekdgiomiaa.Fkc
