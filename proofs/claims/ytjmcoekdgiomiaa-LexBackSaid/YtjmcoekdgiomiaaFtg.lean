/- Digits, what tokens are written as, joined tokens: plain functions. No condition. -/
import Derived.Test.YtjmcoekdgiomiaaFtb
set_option linter.unusedVariables false
set_option linter.unusedSimpArgs false
namespace Go.Proofs.Ytjmcoekdgiomiaa.Ftg
open Go.RowKit Go.Proofs.Ytjmcoekdgiomiaa.PLexBack Go.Proofs.YtjmcoekdgiomiaaW.PrintWords Go.Proofs.YtjmcoekdgiomiaaW.PrintLast
open Go.Proofs.Ytjmcoekdgiomiaa.Fta Go.Proofs.Ytjmcoekdgiomiaa.Ftb
/-- The digits of a number, ahead of others. -/
def digN : Nat → Nat → List UInt8 → List UInt8
  | 0, _, acc => acc
  | f + 1, m, acc => if m / 10 = 0 then UInt8.ofNat (48 + m % 10) :: acc else digN f (m / 10) (UInt8.ofNat (48 + m % 10) :: acc)
/-- A number in decimal digits. -/
def digL (n : Int) : List UInt8 := if n < 0 then 45 :: digN 20 n.natAbs [] else digN 20 n.natAbs []
def nums (l : List UInt8) : List Int := l.map fun b => (b.toNat : Int)
theorem nums_bytes (s : ByteArray) : bytesOf s = nums s.data.toList := rfl
theorem nums_app (a b : List UInt8) : nums a ++ nums b = nums (a ++ b) := by simp [nums]
theorem nums_len (l : List UInt8) : (nums l).length = l.length := by simp [nums]
theorem str_nums (l : List UInt8) : strOfNums (nums l) = B l := by
  apply B_eq
  unfold strOfNums nums
  simp [Function.comp_def]
theorem nums_one (m : Nat) (h : m < 256) : ([(m : Int)] : List Int) = nums [UInt8.ofNat m] := by
  simp [nums, Nat.mod_eq_of_lt h]
theorem tmod_abs (x : Int) : (x < 0 → Int.tmod x 10 = -((x.natAbs % 10 : Nat) : Int)) ∧ (0 ≤ x → Int.tmod x 10 = ((x.natAbs % 10 : Nat) : Int)) := by
  constructor
  · intro h
    obtain ⟨m, rfl⟩ : ∃ m : Nat, x = -(m : Int) := ⟨x.natAbs, by omega⟩
    rw [Int.neg_tmod, Int.tmod_eq_emod_of_nonneg (by omega), Int.natAbs_neg, Int.natAbs_natCast]
    omega
  · intro h
    obtain ⟨m, rfl⟩ := Int.eq_ofNat_of_zero_le h
    rw [Int.tmod_eq_emod_of_nonneg (by omega), Int.natAbs_natCast]
    omega
theorem tdiv_abs (x : Int) : (Int.tdiv x 10).natAbs = x.natAbs / 10 := Int.natAbs_tdiv x 10
theorem tdiv_sign (x : Int) : (x < 0 → Int.tdiv x 10 ≤ 0) ∧ (0 ≤ x → 0 ≤ Int.tdiv x 10) := by
  constructor
  · intro h
    obtain ⟨m, rfl⟩ : ∃ m : Nat, x = -(m : Int) := ⟨x.natAbs, by omega⟩
    rw [Int.neg_tdiv, Int.tdiv_eq_ediv_of_nonneg (by omega)]
    omega
  · intro h
    rw [Int.tdiv_eq_ediv_of_nonneg h]
    omega
theorem wrap_in (x : Int) (h : x.natAbs ≤ 9223372036854775807) : wrap64 x = x := by unfold wrap64; omega
theorem one_digit (x : Int) : (Int.tmod x 10 < 0 → (wrap64 (48 + wrap64 (-(Int.tmod x 10)))) % 256 = ((48 + x.natAbs % 10 : Nat) : Int)) ∧ (¬ Int.tmod x 10 < 0 → (wrap64 (48 + Int.tmod x 10)) % 256 = ((48 + x.natAbs % 10 : Nat) : Int)) := by
  obtain ⟨h1, h2⟩ := tmod_abs x
  have hd : x.natAbs % 10 < 10 := by omega
  generalize x.natAbs % 10 = d at h1 h2 hd ⊢
  by_cases hx : x < 0
  · have e := h1 hx
    rw [e]
    refine ⟨fun _ => ?_, fun h => ?_⟩
    · have e3 : wrap64 (-(-(d : Int))) = d := by rw [wrap_in _ (by omega)]; omega
      rw [e3, wrap_in _ (by omega)]; omega
    · rw [wrap_in _ (by omega)]; omega
  · have e := h2 (by omega)
    rw [e]
    refine ⟨fun h => by omega, fun _ => ?_⟩
    rw [wrap_in _ (by omega)]; omega
theorem digN_len (f m : Nat) (acc : List UInt8) : (digN f m acc).length ≤ f + acc.length := by
  induction f generalizing m acc with
  | zero => simp [digN]
  | succ f ih =>
    rw [digN]
    split
    · simp; omega
    · have := ih (m / 10) (UInt8.ofNat (48 + m % 10) :: acc)
      simp only [List.length_cons] at this
      omega
theorem digits_l0 (n : Int) : ∀ (f k : Nat) (x : Int) (acc : List UInt8), x.natAbs < 10 ^ f → 0 < f → x.natAbs ≤ 9223372036854775808 → acc.length + f ≤ 1000 → f ≤ 1000 → f ≤ k →
    lex_digits.l0 k n (nums acc) x = some (if n < 0 then B (45 :: digN f x.natAbs acc) else B (digN f x.natAbs acc)) := by
  intro f
  induction f with
  | zero => intro k x acc _ h; omega
  | succ f ih =>
    intro k x acc hf _ hx ha hf2 hk
    obtain ⟨k, rfl⟩ : ∃ m, k = m + 1 := ⟨k - 1, by omega⟩
    obtain ⟨d1, d2⟩ := one_digit x
    have hd : x.natAbs % 10 < 10 := by omega
    have hdiv := tdiv_abs x
    have hw : wrap64 (Int.tdiv x 10) = Int.tdiv x 10 := wrap_in _ (by rw [hdiv]; omega)
    have hz : Int.tdiv x 10 = 0 ↔ x.natAbs / 10 = 0 := by rw [← hdiv]; exact Int.natAbs_eq_zero.symm
    have body : ∀ y : List Int, y = nums [UInt8.ofNat (48 + x.natAbs % 10)] → (if y.length + (nums acc).length < 140737488355328 then ((some (y ++ nums acc : List Int)).bind fun y197 => (if (wrap64 (Int.tdiv x 10)) = 0 then (if n < 0 then (if 1 + (strOfNums y197).size ≤ 9223372036854775807 then (some ((⟨#[45]⟩ : ByteArray) ++ (strOfNums y197))) else (none)) else (some (strOfNums y197))) else (lex_digits.l0 k n y197 (wrap64 (Int.tdiv x 10))))) else (none))
        = some (if n < 0 then B (45 :: digN (f + 1) x.natAbs acc) else B (digN (f + 1) x.natAbs acc)) := by
      intro y hy
      rw [hy, nums_app, nums_len, nums_len, if_pos (by simp; omega), hw]
      simp only [Option.bind_some]
      rw [digN]
      by_cases h0 : x.natAbs / 10 = 0
      · rw [if_pos (hz.2 h0), if_pos h0, str_nums, B_size]
        by_cases hn : n < 0
        · rw [if_pos hn, if_pos hn, if_pos (by simp; omega)]
          rfl
        · rw [if_neg hn, if_neg hn]
          rfl
      · rw [if_neg (fun e => h0 (hz.1 e)), if_neg h0]
        have p1 : (Int.tdiv x 10).natAbs < 10 ^ f := by rw [hdiv]; rw [Nat.pow_succ] at hf; clear d1 d2 hw hz; omega
        have p2 : 0 < f := by
          rcases Nat.eq_zero_or_pos f with e | e
          · subst e; rw [hdiv, Nat.pow_zero] at p1; clear d1 d2 hw hz; omega
          · exact e
        have p3 : (Int.tdiv x 10).natAbs ≤ 9223372036854775808 := by rw [hdiv]; clear d1 d2 hw hz p1; omega
        have := ih k (Int.tdiv x 10) (UInt8.ofNat (48 + x.natAbs % 10) :: acc) p1 p2 p3 (by simp; omega) (by omega) (by omega)
        rw [hdiv] at this
        exact this
    simp only [lex_digits.l0]
    by_cases hm : Int.tmod x 10 < 0
    · rw [if_pos hm, d1 hm]
      simp only [Option.bind_some]
      exact body _ (nums_one _ (by omega))
    · rw [if_neg hm, d2 hm]
      simp only [Option.bind_some]
      exact body _ (nums_one _ (by omega))
theorem digits_f (n : Int) (hn : n.natAbs ≤ 9223372036854775808) (k : Nat) (hk : 20 ≤ k) : lex_digits.f k n = some (B (digL n)) := by
  have := digits_l0 n 20 k n [] (Nat.lt_of_le_of_lt hn (by decide)) (by omega) hn (by simp) (by omega) hk
  unfold lex_digits.f digL
  rw [show ([] : List Int) = nums [] from rfl, this]
  split <;> rfl
/-- What a token is written as; false: it is none. -/
def textL (t : S34) : List UInt8 × Bool :=
  if t.f0 = 1 ∨ t.f0 = 2 ∨ t.f0 = 3 then (t.f1.data.toList, wordL t.f1.data.toList t.f0)
  else if t.f0 = 6 then (t.f1.data.toList, reservedL t.f1.data.toList)
  else if t.f0 = 5 then (t.f1.data.toList, signL t.f1.data.toList)
  else if t.f0 = 4 then (digL t.f2, true)
  else ([], false)
theorem text_f (t : S34) (hn : t.f2.natAbs ≤ 9223372036854775808) (k : Nat) (hk : 30 ≤ k) : lex_text.f k t.f0 t.f1 t.f2 t.f3 = some (B (textL t).1, (textL t).2) := by
  obtain ⟨k, rfl⟩ : ∃ m, k = m + 1 := ⟨k - 1, by omega⟩
  unfold lex_text.f textL
  have yes : ∀ b : Bool, b = true → (t.f0 = 1 ∨ t.f0 = 2 ∨ t.f0 = 3) → lex_text.j0 (k + 1) t.f0 b t.f0 t.f1 t.f2 t.f3 = some (B (if t.f0 = 1 ∨ t.f0 = 2 ∨ t.f0 = 3 then (t.f1.data.toList, wordL t.f1.data.toList t.f0)
      else if t.f0 = 6 then (t.f1.data.toList, reservedL t.f1.data.toList)
      else if t.f0 = 5 then (t.f1.data.toList, signL t.f1.data.toList)
      else if t.f0 = 4 then (digL t.f2, true)
      else ([], false)).1, (if t.f0 = 1 ∨ t.f0 = 2 ∨ t.f0 = 3 then (t.f1.data.toList, wordL t.f1.data.toList t.f0)
      else if t.f0 = 6 then (t.f1.data.toList, reservedL t.f1.data.toList)
      else if t.f0 = 5 then (t.f1.data.toList, signL t.f1.data.toList)
      else if t.f0 = 4 then (digL t.f2, true)
      else ([], false)).2) := by
    rintro b rfl h
    rw [if_pos h]
    simp only [lex_text.j0]
    rw [if_pos trivial, word_f t.f1 k t.f0 (by omega)]
    rfl
  by_cases k1 : t.f0 = 1
  · rw [if_pos k1]
    exact yes _ (by rw [k1]; rfl) (.inl k1)
  · rw [if_neg k1]
    by_cases k2 : t.f0 = 2
    · rw [if_pos k2]
      exact yes _ (by rw [k2]; rfl) (.inr (.inl k2))
    · rw [if_neg k2]
      by_cases k3 : t.f0 = 3
      · exact yes _ (by rw [k3]; rfl) (.inr (.inr k3))
      · have hno : ¬ (t.f0 = 1 ∨ t.f0 = 2 ∨ t.f0 = 3) := fun h => h.elim k1 (fun h => h.elim k2 k3)
        have hb : (t.f0 == 3) = false := by simpa using k3
        rw [hb, if_neg hno]
        simp only [lex_text.j0]
        rw [if_neg Bool.false_ne_true]
        by_cases k6 : t.f0 = 6
        · rw [if_pos k6, if_pos k6, reserved_f]; rfl
        · rw [if_neg k6, if_neg k6]
          by_cases k5 : t.f0 = 5
          · rw [if_pos k5, if_pos k5, sign_f]; rfl
          · rw [if_neg k5, if_neg k5]
            by_cases k4 : t.f0 = 4
            · rw [if_pos k4, if_pos k4, digits_f t.f2 hn k (by omega)]; rfl
            · rw [if_neg k4, if_neg k4]; rfl
/-- Tokens joined, behind what is written already. -/
def joinL : List S34 → List UInt8 → List UInt8 × Int
  | [], acc => if acc.length > 16384 then ([], 3) else (acc, 0)
  | t :: l, acc => if (textL t).2 = true then (if acc.length ≤ 16384 then joinL l (acc ++ (textL t).1 ++ [32]) else joinL l acc) else ([], 2)
theorem reserved_len {l : List UInt8} (h : reservedL l = true) : l.length ≤ 32 := by
  unfold reservedL at h
  simp only [Bool.or_eq_true, beq_iff_eq] at h
  rcases h with (((h | h) | h) | h) | h <;> (rw [h]; decide)
theorem sign_len {l : List UInt8} (h : signL l = true) : l.length ≤ 32 := by
  unfold signL at h
  simp only [Bool.or_eq_true, beq_iff_eq] at h
  rcases h with ((((((h | h) | h) | h) | h) | h) | h) | h <;> (rw [h]; decide)
theorem word_len {l : List UInt8} {k : Int} (h : wordL l k = true) : l.length ≤ 32 := by
  unfold wordL at h
  exact (of_decide_eq_true h).2.2.1
theorem dig_len (n : Int) : (digL n).length ≤ 32 := by
  unfold digL
  have := digN_len 20 n.natAbs []
  simp only [List.length_nil] at this
  split
  · simp only [List.length_cons]; omega
  · omega
theorem text_len2 (t : S34) : (textL t).2 = true → (textL t).1.length ≤ 32 := by
  unfold textL
  split
  · exact word_len
  · split
    · exact reserved_len
    · split
      · exact sign_len
      · split
        · exact fun _ => dig_len _
        · exact fun h => absurd h Bool.false_ne_true
/-- What is asked of a token that comes in. -/
def Fine (t : S34) : Prop := t.f2.natAbs ≤ 9223372036854775808
theorem join_l0 (L : List S34) (hL : ∀ t ∈ L, Fine t) (hb : L.length ≤ 1099511627776000) : ∀ (d k n : Nat) (acc : List UInt8), n + d = L.length → d + 31 ≤ k → acc.length ≤ 140737488352000 →
    lex_Join.l0 k (nums acc) L (L.length : Int) (n : Int) = some (B (joinL (L.drop n) acc).1, (joinL (L.drop n) acc).2) := by
  intro d
  induction d with
  | zero =>
    intro k n acc hn hk ha
    obtain ⟨k, rfl⟩ : ∃ m, k = m + 1 := ⟨k - 1, by omega⟩
    simp only [lex_Join.l0]
    rw [if_neg (by omega), List.drop_eq_nil_of_le (by omega), joinL, nums_len]
    by_cases h : acc.length > 16384
    · rw [if_pos h, if_pos (by omega)]; rfl
    · rw [if_neg h, if_neg (by omega), str_nums]
  | succ d ih =>
    intro k n acc hn hk ha
    obtain ⟨k, rfl⟩ : ∃ m, k = m + 1 := ⟨k - 1, by omega⟩
    have h1 : n < L.length := by omega
    have e1 : rd_T34 L (n : Int) = L[n] := by simp [rd_T34, List.getD_eq_getElem?_getD, h1]
    have f1 : L[n].f2.natAbs ≤ 9223372036854775808 := hL L[n] (List.getElem_mem h1)
    have hw : wrap64 ((n : Int) + 1) = ((n + 1 : Nat) : Int) := wrap_in _ (by omega)
    have htl := text_len2 L[n]
    simp only [lex_Join.l0]
    rw [if_pos (by omega), if_pos (by omega), if_pos (by omega), e1, text_f L[n] f1 k (by omega), List.drop_eq_getElem_cons h1, joinL, nums_len]
    simp only [Option.bind_some]
    generalize textL L[n] = T at htl ⊢
    by_cases hT : T.2 = true
    · have htl := htl hT
      rw [if_pos hT, if_pos hT]
      by_cases h : acc.length ≤ 16384
      · rw [if_pos h, if_pos (by omega), if_pos (by rw [B_size]; omega), nums_bytes, nums_app, B_list]
        rw [nums_len, if_pos (by simp; omega), hw]
        have e2 : nums (acc ++ T.1) ++ [32] = nums (acc ++ T.1 ++ [32]) := by simp [nums]
        rw [e2]
        exact ih k (n + 1) (acc ++ T.1 ++ [32]) (by omega) (by omega) (by simp; omega)
      · rw [if_neg h, if_neg (by omega), hw]
        exact ih k (n + 1) acc (by omega) (by omega) ha
    · rw [if_neg hT, if_neg hT]; rfl
theorem join_f (L : List S34) (hL : ∀ t ∈ L, Fine t) (hb : L.length ≤ 1099511627776000) (k : Nat) (hk : L.length + 31 ≤ k) : lex_Join.f k L = some (B (joinL L []).1, (joinL L []).2) :=
  join_l0 L hL hb L.length k 0 [] (by omega) hk (by simp)
end Go.Proofs.Ytjmcoekdgiomiaa.Ftg
