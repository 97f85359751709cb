/- Blanks and remarks written between tokens: what is written, and that it is gone over. No condition. -/
import Derived.Test.YtjmcoekdgiomiaaFkj
import Derived.Test.YtjmcoekdgiomiaaFki
set_option linter.unusedVariables false
set_option linter.unusedSimpArgs false
namespace Go.Proofs.Ytjmcoekdgiomiaa.Fkk
open Go.RowKit Go.Proofs.Ytjmcoekdgiomiaa.PLexBlanks Go.Proofs.YtjmcoekdgiomiaaW.PrintWords Go.Proofs.YtjmcoekdgiomiaaW.PrintLast
open Go.Proofs.Ytjmcoekdgiomiaa.Fka Go.Proofs.Ytjmcoekdgiomiaa.Fkb Go.Proofs.Ytjmcoekdgiomiaa.Fkc Go.Proofs.Ytjmcoekdgiomiaa.Fke Go.Proofs.Ytjmcoekdgiomiaa.Fkg Go.Proofs.Ytjmcoekdgiomiaa.Fkh Go.Proofs.Ytjmcoekdgiomiaa.Fki Go.Proofs.Ytjmcoekdgiomiaa.Fkj
/-- One of the four blanks. -/
def blk4 (c : UInt8) : UInt8 := ([9, 10, 13, 32] : List UInt8).getD (c.toNat % 4) 0
/-- What a byte of a text is written as. -/
def gap1 (c : UInt8) : List UInt8 := if c.toNat % 4 = 0 ∧ c.toNat ≠ 10 then [45, 45, c, 61, 10] else [blk4 c]
/-- What a text is written as. -/
def gapL : Nat → List UInt8 → List UInt8
  | 0, _ => [32]
  | _ + 1, [] => [32]
  | n + 1, c :: l => gap1 c ++ gapL n l
theorem gap_app {a b : List UInt8} (ha : Gap a) (hb : Gap b) : Gap (a ++ b) := fun r => by
  rw [List.append_assoc, ha, hb, List.length_append]
  omega
theorem gap_blank (c : UInt8) (h : blankB c = true) : Gap [c] := fun r => by
  show skipL false (c :: r) = 1 + skipL false r
  simp only [skipL]
  rw [if_pos h]
theorem blk4_blank (c : UInt8) : blankB (blk4 c) = true := by
  unfold blk4
  have : c.toNat % 4 < 4 := by omega
  generalize c.toNat % 4 = m at this
  match m, this with
  | 0, _ => decide
  | 1, _ => decide
  | 2, _ => decide
  | 3, _ => decide
theorem gap_one (c : UInt8) : Gap (gap1 c) := by
  unfold gap1
  by_cases h : c.toNat % 4 = 0 ∧ c.toNat ≠ 10
  · rw [if_pos h]
    intro r
    have hc : (c != 10) = true := by
      rw [bne_iff_ne]
      rintro rfl
      exact h.2 rfl
    show skipL false (45 :: 45 :: c :: 61 :: 10 :: r) = 5 + skipL false r
    have h1 : blankB 45 = false := by decide
    have h2 : ((45 : UInt8) == 45 && (45 :: c :: 61 :: 10 :: r).head? == some (45 : UInt8)) = true := by simp
    have h3 : ((45 : UInt8) != 10) = true := by decide
    have h4 : ((61 : UInt8) != 10) = true := by decide
    have h5 : ((10 : UInt8) != 10) = false := by decide
    simp only [skipL]
    have st : ∀ (c : UInt8) (l : List UInt8), skipL true (c :: l) = 1 + skipL (c != 10) l := fun _ _ => by simp only [skipL]
    rw [h1, if_neg Bool.false_ne_true, h2, if_pos rfl, h3, st, hc, st, h4, st, h5]
    omega
  · rw [if_neg h]
    exact gap_blank _ (blk4_blank c)
theorem gap_L : ∀ (n : Nat) (l : List UInt8), Gap (gapL n l)
  | 0, _ => gap_blank 32 (by decide)
  | _ + 1, [] => gap_blank 32 (by decide)
  | n + 1, c :: l => gap_app (gap_one c) (gap_L n l)
theorem gap1_len (c : UInt8) : (gap1 c).length ≤ 5 := by unfold gap1; split <;> simp
theorem gapL_len : ∀ (n : Nat) (l : List UInt8), (gapL n l).length ≤ 5 * n + 1
  | 0, _ => by simp [gapL]
  | n + 1, [] => by simp [gapL]
  | n + 1, c :: l => by
    have := gapL_len n l
    have := gap1_len c
    simp only [gapL, List.length_append]
    omega
theorem tmod_nat (a : Nat) : Int.tmod (a : Int) 4 = ((a % 4 : Nat) : Int) := by
  rw [Int.tmod_eq_emod_of_nonneg (by omega)]
  omega
theorem bt_four (m : Nat) (h : m < 4) : bt (⟨#[9, 10, 13, 32]⟩ : ByteArray) (m : Int) = ((([9, 10, 13, 32] : List UInt8).getD m 0).toNat : Int) := by
  match m, h with
  | 0, _ => rfl
  | 1, _ => rfl
  | 2, _ => rfl
  | 3, _ => rfl
theorem gap_l0 (s : ByteArray) : ∀ (d k n : Nat) (acc : List UInt8), n + d = 12 → 2 * d + 3 ≤ k → acc.length ≤ 5 * n →
    middenlaw05_gap.l0 k s (Fkg.nums acc) (n : Int) = some (B (acc ++ gapL d (s.data.toList.drop n))) := by
  have fin : ∀ (k n : Nat) (acc : List UInt8), acc.length ≤ 60 → middenlaw05_gap.j1 (k + 1) s (Fkg.nums acc) (n : Int) false = some (B (acc ++ [32])) := by
    intro k n acc ha
    simp only [middenlaw05_gap.j1]
    rw [if_neg Bool.false_ne_true, nums_len, if_pos (by omega)]
    have e2 : Fkg.nums acc ++ [32] = Fkg.nums (acc ++ [32]) := by simp [Fkg.nums]
    rw [e2, str_nums]
  intro d
  induction d with
  | zero =>
    intro k n acc hn hk ha
    obtain ⟨k, rfl⟩ : ∃ m, k = m + 1 + 1 := ⟨k - 2, by omega⟩
    simp only [middenlaw05_gap.l0]
    have hd : decide ((n : Int) < 12) = false := decide_eq_false (by omega)
    rw [hd, fin k n acc (by omega)]
    have : gapL 0 (s.data.toList.drop n) = [32] := by rw [gapL]
    rw [this]
    split <;> rfl
  | succ d ih =>
    intro k n acc hn hk ha
    obtain ⟨k, rfl⟩ : ∃ m, k = m + 1 + 1 := ⟨k - 2, by omega⟩
    simp only [middenlaw05_gap.l0]
    by_cases h : n < s.size
    · have hd : decide ((n : Int) < 12) = true := decide_eq_true (by omega)
      have hb := bt_at' s n h
      have hw : wrap64 ((n : Int) + 1) = ((n + 1 : Nat) : Int) := wrap_one n (by omega)
      rw [if_pos (by omega), hd]
      simp only [middenlaw05_gap.j1]
      rw [if_pos trivial, if_pos (by omega), if_pos (by omega), hb, tmod_nat, drop_at s n h, gapL, hw]
      generalize s[n] = c
      have h4 : c.toNat % 4 < 4 := by omega
      have plain : (if (0 : Int) ≤ ((c.toNat % 4 : Nat) : Int) then (if ((c.toNat % 4 : Nat) : Int) < 4 then (if (Fkg.nums acc).length < 140737488355328 then (middenlaw05_gap.l0 k s (Fkg.nums acc ++ [bt (⟨#[9, 10, 13, 32]⟩ : ByteArray) ((c.toNat % 4 : Nat) : Int)]) ((n + 1 : Nat) : Int)) else none) else none) else none)
          = some (B (acc ++ ([blk4 c] ++ gapL d (s.data.toList.drop (n + 1))))) := by
        rw [if_pos (by omega), if_pos (by omega), nums_len, if_pos (by omega), bt_four _ h4]
        have e2 : Fkg.nums acc ++ [((([9, 10, 13, 32] : List UInt8).getD (c.toNat % 4) 0).toNat : Int)] = Fkg.nums (acc ++ [blk4 c]) := by simp [Fkg.nums, blk4]
        rw [e2, ih k (n + 1) _ (by omega) (by omega) (by simp; omega), List.append_assoc]
      by_cases h0 : c.toNat % 4 = 0
      · rw [if_pos (show ((c.toNat % 4 : Nat) : Int) = 0 by omega)]
        by_cases h10 : c.toNat = 10
        · rw [if_pos (show (c.toNat : Int) = 10 by omega), plain]
          unfold gap1
          rw [if_neg (fun hh => hh.2 h10)]
        · rw [if_neg (show ¬ (c.toNat : Int) = 10 by omega)]
          simp only [Option.bind_some]
          have e3 : ([45, 45, (c.toNat : Int), 61, 10] : List Int) = Fkg.nums [45, 45, c, 61, 10] := by simp [Fkg.nums]
          have eg : gap1 c = [45, 45, c, 61, 10] := by unfold gap1; rw [if_pos ⟨h0, h10⟩]
          rw [eg, e3, nums_len, nums_len, if_pos (by simp; omega), nums_app, ih k (n + 1) _ (by omega) (by omega) (by simp; omega), List.append_assoc]
      · rw [if_neg (show ¬ ((c.toNat % 4 : Nat) : Int) = 0 by omega), plain]
        unfold gap1
        rw [if_neg (fun hh => h0 hh.1)]
    · rw [if_neg (by omega), fin k n acc (by omega), List.drop_eq_nil_of_le (by simp; omega), gapL]
theorem gap_f (s : ByteArray) (k : Nat) (hk : 27 ≤ k) : middenlaw05_gap.f k s = some (B (gapL 12 s.data.toList)) := by
  have := gap_l0 s 12 k 0 [] (by omega) (by omega) (by simp)
  rw [List.drop_zero, List.nil_append] at this
  exact this
end Go.Proofs.Ytjmcoekdgiomiaa.Fkk
