/- A stack in an arena, and what is laid on it. No condition. -/
import Derived.Test.YtedkackmccnkfaaFt
import Derived.Test.YtedkackmccnkfaaAr
import Derived.Test.YtedkackmccnkfaaBt
import Derived.StillTailTactics
import Derived.Outline
set_option linter.unusedVariables false
set_option linter.unusedSimpArgs false
namespace Go.Proofs.Ytedkackmccnkfaa.Sk
open Go.RowKit
open Fr Fs Ft Ar
/-- A frame. -/
structure Fm where
  k : Int
  a : Int
  b : Int
  ps : List Int
def code (f : Fm) : Int := f.k + (f.ps.length : Int) * 16 + f.b * 65536 + f.a * 1048576
def encF (f : Fm) : List Int := f.ps ++ [code f]
/-- All frames' words, the lowest first. -/
def lay (L : List Fm) : List Int := L.flatMap encF
def Good (f : Fm) : Prop := rightE f.k f.a f.b f.ps = 0
theorem lay_snoc (L : List Fm) (f : Fm) : lay (L ++ [f]) = lay L ++ encF f := by simp [lay]
theorem Good.bounds {f : Fm} (h : Good f) : (1 ≤ f.k ∧ f.k ≤ 5) ∧ (0 ≤ f.a ∧ f.a ≤ 1048575) ∧ (0 ≤ f.b ∧ f.b ≤ 7) ∧ f.ps.length ≤ 1000 ∧ ∀ p, p ∈ f.ps → 0 ≤ p ∧ p ≤ 524288 := by
  unfold Good rightE at h
  cases hm : mostOf f.k with
  | none => rw [hm] at h; simp at h
  | some m =>
    obtain ⟨lA, mA, mB, lP, mP⟩ := m
    rw [hm] at h
    simp only at h
    have hk : (f.k = 1 ∧ lA = 0 ∧ mA = 1048575 ∧ mB = 0 ∧ lP = 0 ∧ mP = 1000) ∨ (f.k = 2 ∧ lA = 0 ∧ mA = 0 ∧ mB = 0 ∧ lP = 1 ∧ mP = 1) ∨ (f.k = 3 ∧ lA = 0 ∧ mA = 0 ∧ mB = 0 ∧ lP = 1 ∧ mP = 8) ∨ (f.k = 4 ∧ lA = 1 ∧ mA = 16 ∧ mB = 2 ∧ lP = 1 ∧ mP = 3) ∨ (f.k = 5 ∧ lA = 0 ∧ mA = 1048575 ∧ mB = 7 ∧ lP = 0 ∧ mP = 0) := by
      unfold mostOf at hm
      split at hm
      · left; simp at hm; omega
      split at hm
      · right; left; simp at hm; omega
      split at hm
      · right; right; left; simp at hm; omega
      split at hm
      · right; right; right; left; simp at hm; omega
      split at hm
      · right; right; right; right; simp at hm; omega
      · simp at hm
    split at h
    · split at h
      · refine ⟨by omega, by omega, by omega, by omega, ?_⟩
        unfold rangeE at h
        split at h
        · assumption
        · omega
      · omega
    · omega
/-- A stack: its object, its arena, its words from a place on, what is laid. -/
structure Stk (w : World) (g ga r fr wd : Nat) (xs : List Int) (L : List Fm) : Prop where
  obj : w.heap[g]? = some (.cells #[.pointer (some ⟨ga, 0, none⟩), .int .i64 fr, .int .i64 wd, .int .i64 (lay L).length, .int .i64 L.length] 73 (0, 0))
  own : Own 71 w ga r xs
  ne : g ≠ ga ∧ g ≠ r ∧ ga ≠ r
  fits : (lay L).length ≤ wd ∧ fr + wd ≤ xs.length
  words : ∀ i, i < (lay L).length → xs.getD (fr + i) 0 = (lay L).getD i 0
  good : ∀ f, f ∈ L → Good f
theorem some_getD (l : List Int) (i : Nat) (h : i < l.length) : l[i]? = some (l.getD i 0) := by simp [List.getD_eq_getElem?_getD, h]
theorem over_take (xs : List Int) (o : Nat) (ps : List Int) (j : Nat) (h : o + ps.length ≤ xs.length) (hj : j < ps.length) : (Rw.over xs o (ps.take j)).set (o + j) (ps.getD j 0) = Rw.over xs o (ps.take (j + 1)) := by
  apply List.ext_getElem?
  intro i
  have l1 : (Rw.over xs o (ps.take j)).length = xs.length := Rw.length_over _ _ _ (by simp; omega)
  have l2 : (Rw.over xs o (ps.take (j + 1))).length = xs.length := Rw.length_over _ _ _ (by simp; omega)
  by_cases hi : i < xs.length
  · have a1 : ((Rw.over xs o (ps.take j)).set (o + j) (ps.getD j 0))[i]? = some (((Rw.over xs o (ps.take j)).set (o + j) (ps.getD j 0)).getD i 0) := some_getD _ _ (by rw [List.length_set, l1]; exact hi)
    have a2 : (Rw.over xs o (ps.take (j + 1)))[i]? = some ((Rw.over xs o (ps.take (j + 1))).getD i 0) := some_getD _ _ (by rw [l2]; exact hi)
    rw [a1, a2, Rw.over_getD _ _ _ (by simp; omega)]
    congr 1
    have e : ((Rw.over xs o (ps.take j)).set (o + j) (ps.getD j 0)).getD i 0 = if i = o + j then ps.getD j 0 else (Rw.over xs o (ps.take j)).getD i 0 := by
      simp only [List.getD_eq_getElem?_getD, List.getElem?_set, l1]
      by_cases e : i = o + j
      · subst e; simp [hi]
      · simp [e, show ¬ o + j = i by omega]
    rw [e, Rw.over_getD _ _ _ (by simp; omega)]
    simp only [List.length_take]
    by_cases c1 : i = o + j
    · subst c1
      rw [if_pos rfl, if_pos (by omega)]
      simp [List.getD_eq_getElem?_getD, List.getElem?_take_of_lt (show j < j + 1 by omega)]
    · rw [if_neg c1]
      by_cases c2 : o ≤ i ∧ i < o + j
      · rw [if_pos (by omega), if_pos (by omega)]
        simp [List.getD_eq_getElem?_getD, List.getElem?_take_of_lt (show i - o < j by omega), List.getElem?_take_of_lt (show i - o < j + 1 by omega)]
      · rw [if_neg (by omega), if_neg (by omega)]
  · rw [List.getElem?_eq_none (by rw [List.length_set, l1]; omega), List.getElem?_eq_none (by rw [l2]; omega)]
end Go.Proofs.Ytedkackmccnkfaa.Sk
