/- Digits, what tokens are written as, joined tokens: plain functions. No condition. -/
import Derived.Test.YtjmcoekdgiomiaaFkb
set_option linter.unusedVariables false
set_option linter.unusedSimpArgs false
namespace Go.Proofs.Ytjmcoekdgiomiaa.Fkg
open Go.RowKit Go.Proofs.Ytjmcoekdgiomiaa.PLexBlanks Go.Proofs.YtjmcoekdgiomiaaW.PrintWords Go.Proofs.YtjmcoekdgiomiaaW.PrintLast
open Go.Proofs.Ytjmcoekdgiomiaa.Fka Go.Proofs.Ytjmcoekdgiomiaa.Fkb
/-- The digits of a number, ahead of others. -/
def digN : Nat → Nat → List UInt8 → List UInt8
  | 0, _, acc => acc
  | f + 1, m, acc => if m / 10 = 0 then UInt8.ofNat (48 + m % 10) :: acc else digN f (m / 10) (UInt8.ofNat (48 + m % 10) :: acc)
/-- A number in decimal digits. -/
def digL (n : Int) : List UInt8 := if n < 0 then 45 :: digN 20 n.natAbs [] else digN 20 n.natAbs []
def nums (l : List UInt8) : List Int := l.map fun b => (b.toNat : Int)
theorem nums_bytes (s : ByteArray) : bytesOf s = nums s.data.toList := rfl
theorem nums_app (a b : List UInt8) : nums a ++ nums b = nums (a ++ b) := by simp [nums]
theorem nums_len (l : List UInt8) : (nums l).length = l.length := by simp [nums]
theorem str_nums (l : List UInt8) : strOfNums (nums l) = B l := by
  apply B_eq
  unfold strOfNums nums
  simp [Function.comp_def]
theorem nums_one (m : Nat) (h : m < 256) : ([(m : Int)] : List Int) = nums [UInt8.ofNat m] := by
  simp [nums, Nat.mod_eq_of_lt h]
theorem tmod_abs (x : Int) : (x < 0 → Int.tmod x 10 = -((x.natAbs % 10 : Nat) : Int)) ∧ (0 ≤ x → Int.tmod x 10 = ((x.natAbs % 10 : Nat) : Int)) := by
  constructor
  · intro h
    obtain ⟨m, rfl⟩ : ∃ m : Nat, x = -(m : Int) := ⟨x.natAbs, by omega⟩
    rw [Int.neg_tmod, Int.tmod_eq_emod_of_nonneg (by omega), Int.natAbs_neg, Int.natAbs_natCast]
    omega
  · intro h
    obtain ⟨m, rfl⟩ := Int.eq_ofNat_of_zero_le h
    rw [Int.tmod_eq_emod_of_nonneg (by omega), Int.natAbs_natCast]
    omega
theorem tdiv_abs (x : Int) : (Int.tdiv x 10).natAbs = x.natAbs / 10 := Int.natAbs_tdiv x 10
theorem tdiv_sign (x : Int) : (x < 0 → Int.tdiv x 10 ≤ 0) ∧ (0 ≤ x → 0 ≤ Int.tdiv x 10) := by
  constructor
  · intro h
    obtain ⟨m, rfl⟩ : ∃ m : Nat, x = -(m : Int) := ⟨x.natAbs, by omega⟩
    rw [Int.neg_tdiv, Int.tdiv_eq_ediv_of_nonneg (by omega)]
    omega
  · intro h
    rw [Int.tdiv_eq_ediv_of_nonneg h]
    omega
theorem wrap_in (x : Int) (h : x.natAbs ≤ 9223372036854775807) : wrap64 x = x := by unfold wrap64; omega
theorem one_digit (x : Int) : (Int.tmod x 10 < 0 → (wrap64 (48 + wrap64 (-(Int.tmod x 10)))) % 256 = ((48 + x.natAbs % 10 : Nat) : Int)) ∧ (¬ Int.tmod x 10 < 0 → (wrap64 (48 + Int.tmod x 10)) % 256 = ((48 + x.natAbs % 10 : Nat) : Int)) := by
  obtain ⟨h1, h2⟩ := tmod_abs x
  have hd : x.natAbs % 10 < 10 := by omega
  generalize x.natAbs % 10 = d at h1 h2 hd ⊢
  by_cases hx : x < 0
  · have e := h1 hx
    rw [e]
    refine ⟨fun _ => ?_, fun h => ?_⟩
    · have e3 : wrap64 (-(-(d : Int))) = d := by rw [wrap_in _ (by omega)]; omega
      rw [e3, wrap_in _ (by omega)]; omega
    · rw [wrap_in _ (by omega)]; omega
  · have e := h2 (by omega)
    rw [e]
    refine ⟨fun h => by omega, fun _ => ?_⟩
    rw [wrap_in _ (by omega)]; omega
theorem digN_len (f m : Nat) (acc : List UInt8) : (digN f m acc).length ≤ f + acc.length := by
  induction f generalizing m acc with
  | zero => simp [digN]
  | succ f ih =>
    rw [digN]
    split
    · simp; omega
    · have := ih (m / 10) (UInt8.ofNat (48 + m % 10) :: acc)
      simp only [List.length_cons] at this
      omega
/-- What a token is written as; false: it is none. -/
def textL (t : S34) : List UInt8 × Bool :=
  if t.f0 = 1 ∨ t.f0 = 2 ∨ t.f0 = 3 then (t.f1.data.toList, wordL t.f1.data.toList t.f0)
  else if t.f0 = 6 then (t.f1.data.toList, reservedL t.f1.data.toList)
  else if t.f0 = 5 then (t.f1.data.toList, signL t.f1.data.toList)
  else if t.f0 = 4 then (digL t.f2, true)
  else ([], false)
/-- Tokens joined, behind what is written already. -/
def joinL : List S34 → List UInt8 → List UInt8 × Int
  | [], acc => if acc.length > 16384 then ([], 3) else (acc, 0)
  | t :: l, acc => if (textL t).2 = true then (if acc.length ≤ 16384 then joinL l (acc ++ (textL t).1 ++ [32]) else joinL l acc) else ([], 2)
theorem reserved_len {l : List UInt8} (h : reservedL l = true) : l.length ≤ 32 := by
  unfold reservedL at h
  simp only [Bool.or_eq_true, beq_iff_eq] at h
  rcases h with (((h | h) | h) | h) | h <;> (rw [h]; decide)
theorem sign_len {l : List UInt8} (h : signL l = true) : l.length ≤ 32 := by
  unfold signL at h
  simp only [Bool.or_eq_true, beq_iff_eq] at h
  rcases h with ((((((h | h) | h) | h) | h) | h) | h) | h <;> (rw [h]; decide)
theorem word_len {l : List UInt8} {k : Int} (h : wordL l k = true) : l.length ≤ 32 := by
  unfold wordL at h
  exact (of_decide_eq_true h).2.2.1
theorem dig_len (n : Int) : (digL n).length ≤ 32 := by
  unfold digL
  have := digN_len 20 n.natAbs []
  simp only [List.length_nil] at this
  split
  · simp only [List.length_cons]; omega
  · omega
theorem text_len2 (t : S34) : (textL t).2 = true → (textL t).1.length ≤ 32 := by
  unfold textL
  split
  · exact word_len
  · split
    · exact reserved_len
    · split
      · exact sign_len
      · split
        · exact fun _ => dig_len _
        · exact fun h => absurd h Bool.false_ne_true
/-- What is asked of a token that comes in. -/
def Fine (t : S34) : Prop := t.f2.natAbs ≤ 9223372036854775808
end Go.Proofs.Ytjmcoekdgiomiaa.Fkg
