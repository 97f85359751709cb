/- What is written as a token is scanned as that token: plain laws. No condition. -/
import Derived.Test.YtjmcoekdgiomiaaFkc
import Derived.Test.YtjmcoekdgiomiaaFkg
set_option linter.unusedVariables false
set_option linter.unusedSimpArgs false
namespace Go.Proofs.Ytjmcoekdgiomiaa.Fkh
open Go.RowKit Go.Proofs.Ytjmcoekdgiomiaa.PLexBlanks Go.Proofs.YtjmcoekdgiomiaaW.PrintWords Go.Proofs.YtjmcoekdgiomiaaW.PrintLast
open Go.Proofs.Ytjmcoekdgiomiaa.Fka Go.Proofs.Ytjmcoekdgiomiaa.Fkb Go.Proofs.Ytjmcoekdgiomiaa.Fkc Go.Proofs.Ytjmcoekdgiomiaa.Fkg
/-- A scan that goes over blanks first. -/
def scanS (f : Nat) (l : List UInt8) (at_ : Nat) (acc : List S34) : List S34 × Int × Int := scanL f (l.drop (skipL false l)) (at_ + skipL false l) acc
theorem scanL_cons (f : Nat) (c : UInt8) (l : List UInt8) (at_ : Nat) (acc : List S34) : scanL (f + 1) (c :: l) at_ acc = if (tokL (c :: l)).err = 0 then
      (if (tokL (c :: l)).text.length > 32 then ([], (at_ : Int), 21)
       else scanS f ((c :: l).drop (tokL (c :: l)).used.length) (at_ + (tokL (c :: l)).used.length) (acc ++ [⟨(tokL (c :: l)).kind, B (tokL (c :: l)).text, (tokL (c :: l)).n, (at_ : Int)⟩]))
    else ([], (at_ : Int), (tokL (c :: l)).err) := by
  rw [scanL, if_neg (by simp)]
  rfl
theorem scanAll_S (l : List UInt8) : scanAll l = if l.length > 16384 then ([], 0, 3) else scanS (l.length + 1) l 0 [] := by
  unfold scanAll scanS
  rw [Nat.zero_add]
theorem takeWhile_sp (p : UInt8 → Bool) (hp : p 32 = false) (M : List UInt8) : ∀ l : List UInt8, (l ++ 32 :: M).takeWhile p = l.takeWhile p
  | [] => by simp [hp]
  | c :: l => by
    rw [List.cons_append, List.takeWhile_cons, List.takeWhile_cons, takeWhile_sp p hp M l]
theorem nx_sp (M l : List UInt8) : smallB (nx (l ++ 32 :: M)) = smallB (nx l) ∧ digB (nx (l ++ 32 :: M)) = digB (nx l) ∧ (nx (l ++ 32 :: M) == 62) = (nx l == 62) := by
  cases l with
  | nil => exact ⟨rfl, rfl, rfl⟩
  | cons c l => exact ⟨rfl, rfl, rfl⟩
theorem tok_sp (M : List UInt8) (c : UInt8) (l : List UInt8) : tokL (c :: (l ++ 32 :: M)) = tokL (c :: l) := by
  rw [tokL, tokL, takeWhile_sp insB (by decide), takeWhile_sp digB (by decide), (nx_sp M l).1, (nx_sp M l).2.1, (nx_sp M l).2.2]
theorem tok_shape (l : List UInt8) : ((tokL l).kind = 4 ∧ (tokL l).text = []) ∨ ((tokL l).kind ≠ 4 ∧ ((tokL l).err = 0 → (tokL l).text = (tokL l).used ∧ (tokL l).n = 0)) := by
  cases l with
  | nil => right; exact ⟨by decide, fun h => absurd h (by decide)⟩
  | cons c l =>
    rw [tokL]
    by_cases hs : smallB c = true
    · rw [if_pos hs]; right; refine ⟨?_, fun _ => ⟨rfl, rfl⟩⟩; show ¬ (if _ then (6 : Int) else 1) = 4; split <;> decide
    · rw [if_neg hs]
      by_cases hL : largeB c = true
      · rw [if_pos hL]; right; exact ⟨by show ¬ (2 : Int) = 4; decide, fun _ => ⟨rfl, rfl⟩⟩
      · rw [if_neg hL]
        by_cases h35 : (c == 35 && smallB (nx l)) = true
        · rw [if_pos h35]; right; exact ⟨by show ¬ (3 : Int) = 4; decide, fun _ => ⟨rfl, rfl⟩⟩
        · rw [if_neg h35]
          by_cases hd : (digB c || c == 45 && digB (nx l)) = true
          · rw [if_pos hd]
            generalize (if (c == 45) = true then numOf true (digVal (l.takeWhile digB)) else numOf false (digVal (c :: l.takeWhile digB))) = r
            by_cases hr : r.2 = true
            · rw [if_pos hr]; left; exact ⟨rfl, rfl⟩
            · rw [if_neg hr]; right; exact ⟨by show ¬ (0 : Int) = 4; decide, fun h => absurd h (by show ¬ (22 : Int) = 0; decide)⟩
          · rw [if_neg hd]
            by_cases h45 : (c == 45 && nx l == 62) = true
            · rw [if_pos h45]; right; exact ⟨by show ¬ (5 : Int) = 4; decide, fun _ => ⟨rfl, rfl⟩⟩
            · rw [if_neg h45]
              by_cases h5 : (c != 45 && signL [c]) = true
              · rw [if_pos h5]; right; exact ⟨by show ¬ (5 : Int) = 4; decide, fun _ => ⟨rfl, rfl⟩⟩
              · rw [if_neg h5]; right; exact ⟨by show ¬ (0 : Int) = 4; decide, fun h => absurd h (by show ¬ (20 : Int) = 0; decide)⟩
/-- Where a token begins nothing is skipped. -/
theorem tok_noskip (c : UInt8) (l : List UInt8) (h : (tokL (c :: l)).err = 0) : skipL false (c :: l) = 0 := by
  have hb : blankB c = false := by
    cases hb : blankB c with
    | false => rfl
    | true =>
      unfold blankB at hb
      simp only [Bool.or_eq_true, beq_iff_eq] at hb
      rcases hb with ((rfl | rfl) | rfl) | rfl <;> exact absurd h (by show ¬ (20 : Int) = 0; decide)
  have hr : (c == 45 && l.head? == some (45 : UInt8)) = false := by
    cases hr : (c == 45 && l.head? == some (45 : UInt8)) with
    | false => rfl
    | true =>
      simp only [Bool.and_eq_true, beq_iff_eq] at hr
      obtain ⟨rfl, hl⟩ := hr
      cases l with
      | nil => simp at hl
      | cons d l =>
        simp only [List.head?_cons, Option.some.injEq] at hl
        subst hl
        exact absurd h (by show ¬ (20 : Int) = 0; decide)
  simp only [skipL]
  rw [hb, hr]
  rfl
theorem digN_all : ∀ (f m : Nat) (acc : List UInt8), acc.all digB = true → (digN f m acc).all digB = true := by
  intro f
  induction f with
  | zero => intro m acc h; exact h
  | succ f ih =>
    intro m acc h
    have hd : digB (UInt8.ofNat (48 + m % 10)) = true := by
      have : m % 10 < 10 := by omega
      generalize m % 10 = d at this
      unfold digB
      simp [UInt8.le_iff_toNat_le]
      omega
    rw [digN]
    split
    · simp only [List.all_cons, hd, h, Bool.and_self]
    · exact ih _ _ (by simp only [List.all_cons, hd, h, Bool.and_self])
theorem digVal_cons (c : UInt8) (l : List UInt8) : digVal (c :: l) = (c.toNat - 48) * 10 ^ l.length + digVal l := by
  have g : ∀ (l : List UInt8) (v : Nat), l.foldl (fun v c => 10 * v + (c.toNat - 48)) v = v * 10 ^ l.length + l.foldl (fun v c => 10 * v + (c.toNat - 48)) 0 := by
    intro l
    induction l with
    | nil => intro v; simp
    | cons d l ih =>
      intro v
      simp only [List.foldl_cons, List.length_cons]
      rw [ih (10 * v + (d.toNat - 48)), ih (10 * 0 + (d.toNat - 48)), Nat.pow_succ, Nat.add_mul]
      simp only [Nat.mul_zero, Nat.zero_add]
      have : 10 * v * 10 ^ l.length = v * (10 ^ l.length * 10) := by rw [Nat.mul_comm 10 v, Nat.mul_assoc, Nat.mul_comm 10]
      omega
  unfold digVal
  rw [List.foldl_cons, g]
  simp
theorem digN_val : ∀ (f m : Nat) (acc : List UInt8), m < 10 ^ f → 0 < f → digVal (digN f m acc) = m * 10 ^ acc.length + digVal acc := by
  intro f
  induction f with
  | zero => intro m acc _ h; omega
  | succ f ih =>
    intro m acc hm _
    have ho : (UInt8.ofNat (48 + m % 10)).toNat - 48 = m % 10 := by
      have : m % 10 < 10 := by omega
      generalize m % 10 = d at this
      simp
      omega
    rw [digN]
    by_cases h0 : m / 10 = 0
    · rw [if_pos h0, digVal_cons, ho]
      have : m % 10 = m := by omega
      rw [this]
    · rw [if_neg h0]
      have hf : 0 < f := by
        rcases Nat.eq_zero_or_pos f with e | e
        · subst e; simp at hm; omega
        · exact e
      rw [ih (m / 10) _ (by rw [Nat.pow_succ] at hm; omega) hf, digVal_cons, ho, List.length_cons, Nat.pow_succ]
      have e := Nat.div_add_mod m 10
      generalize 10 ^ acc.length = q
      have : m / 10 * (q * 10) + (m % 10) * q = m * q := by
        conv => rhs; rw [← e]
        rw [Nat.add_mul, Nat.mul_comm q 10, ← Nat.mul_assoc, Nat.mul_comm (m / 10) 10]
      omega
theorem digN_cons : ∀ (f m : Nat) (acc : List UInt8), 0 < f → ∃ c l, digN f m acc = c :: l := by
  intro f
  induction f with
  | zero => intro m acc h; omega
  | succ f ih =>
    intro m acc _
    rw [digN]
    split
    · exact ⟨_, _, rfl⟩
    · rcases Nat.eq_zero_or_pos f with e | e
      · subst e; exact ⟨_, _, rfl⟩
      · exact ih _ _ e
theorem takeWhile_of_all (p : UInt8 → Bool) : ∀ l : List UInt8, l.all p = true → l.takeWhile p = l
  | [], _ => rfl
  | c :: l, h => by
    simp only [List.all_cons, Bool.and_eq_true] at h
    rw [List.takeWhile_cons, if_pos h.1, takeWhile_of_all p l h.2]
theorem dig_not (c : UInt8) (h : digB c = true) : smallB c = false ∧ largeB c = false ∧ (c == 35) = false ∧ (c == 45) = false := by
  unfold digB at h
  simp [UInt8.le_iff_toNat_le] at h
  refine ⟨?_, ?_, ?_, ?_⟩
  · unfold smallB; simp [UInt8.le_iff_toNat_le]; omega
  · unfold largeB; simp [UInt8.le_iff_toNat_le]; omega
  · rw [beq_eq_false_iff_ne]; rintro rfl; revert h; decide
  · rw [beq_eq_false_iff_ne]; rintro rfl; revert h; decide
theorem tok_num (n : Int) (h1 : -9223372036854775808 ≤ n) (h2 : n ≤ 9223372036854775807) (M : List UInt8) : (∃ c l, digL n = c :: l) ∧ tokL (digL n ++ 32 :: M) = ⟨4, [], n, digL n, 0⟩ := by
  have hall := digN_all 20 n.natAbs [] rfl
  have hval := digN_val 20 n.natAbs [] (Nat.lt_of_le_of_lt (show n.natAbs ≤ 9223372036854775808 by omega) (by decide)) (by omega)
  obtain ⟨c, l, e⟩ := digN_cons 20 n.natAbs [] (by omega)
  unfold digL
  rw [e] at hall hval ⊢
  simp only [List.length_nil, Nat.pow_zero, Nat.mul_one] at hval
  have hv0 : digVal [] = 0 := rfl
  rw [hv0, Nat.add_zero] at hval
  have hc : digB c = true := by simp only [List.all_cons, Bool.and_eq_true] at hall; exact hall.1
  have hl : l.all digB = true := by simp only [List.all_cons, Bool.and_eq_true] at hall; exact hall.2
  by_cases hn : n < 0
  · rw [if_pos hn]
    refine ⟨⟨_, _, rfl⟩, ?_⟩
    rw [List.cons_append, tok_sp, tokL, takeWhile_of_all digB _ hall, hval]
    have a1 : smallB 45 = false := by decide
    have a2 : largeB 45 = false := by decide
    have a3 : ((45 : UInt8) == 35) = false := by decide
    have a4 : digB 45 = false := by decide
    rw [a1, a2, a3, a4, nx_cons, hc]
    have hnum : numOf true n.natAbs = (n, true) := by
      unfold numOf
      rw [if_neg (by omega)]
      simp
      omega
    simp [hnum]
  · rw [if_neg hn]
    refine ⟨⟨_, _, rfl⟩, ?_⟩
    obtain ⟨a1, a2, a3, a4⟩ := dig_not c hc
    rw [List.cons_append, tok_sp, tokL, takeWhile_of_all digB _ hl, hval, a1, a2, a3, a4, hc]
    have hnum : numOf false n.natAbs = (n, true) := by
      unfold numOf
      have e : ((n.natAbs : Nat) : Int) = n := by omega
      rw [if_neg (by omega), if_neg Bool.false_ne_true, if_neg (by omega), e]
    simp [hnum]
/-- A token with just the fields that its kind has. -/
def named1 (t : S34) : S34 := if t.f0 = 4 then ⟨t.f0, B [], t.f2, t.f3⟩ else ⟨t.f0, t.f1, 0, t.f3⟩
theorem tok_text (t : S34) (h1 : -9223372036854775808 ≤ t.f2) (h2 : t.f2 ≤ 9223372036854775807) (hok : (textL t).2 = true) (M : List UInt8) :
    (∃ c l, (textL t).1 = c :: l) ∧ ∃ tx : List UInt8, tokL ((textL t).1 ++ 32 :: M) = ⟨t.f0, tx, (named1 t).f2, (textL t).1, 0⟩ ∧ tx.length ≤ 32 ∧ B tx = (named1 t).f1 := by
  unfold textL at hok ⊢
  unfold named1
  by_cases k123 : t.f0 = 1 ∨ t.f0 = 2 ∨ t.f0 = 3
  · rw [if_pos k123] at hok ⊢
    have hw : wordL t.f1.data.toList t.f0 = true := hok
    unfold wordL at hw
    obtain ⟨_, w1, w2, w3, w4, w5⟩ := of_decide_eq_true hw
    have k4 : ¬ t.f0 = 4 := by omega
    rw [if_neg k4]
    show (∃ c l, t.f1.data.toList = c :: l) ∧ ∃ tx : List UInt8, tokL (t.f1.data.toList ++ 32 :: M) = ⟨t.f0, tx, 0, t.f1.data.toList, 0⟩ ∧ tx.length ≤ 32 ∧ B tx = t.f1
    cases hl : t.f1.data.toList with
    | nil => rw [hl] at w1; simp at w1
    | cons c l =>
      rw [hl] at w2 w3 w4 w5
      refine ⟨⟨_, _, rfl⟩, c :: l, ?_, w2, by rw [← hl]; rfl⟩
      rw [List.cons_append, tok_sp]
      have hs := tok_shape (c :: l)
      rcases hs with ⟨e, _⟩ | ⟨_, e⟩
      · rw [w4] at e; exact absurd e k4
      · obtain ⟨e1, e2⟩ := e w3
        rw [w5] at e1
        generalize tokL (c :: l) = T at *
        obtain ⟨a, b, n, u, er⟩ := T
        simp only at w3 w4 w5 e1 e2
        subst w3 w4 w5 e1 e2
        rfl
  · rw [if_neg k123] at hok ⊢
    by_cases k6 : t.f0 = 6
    · rw [if_pos k6] at hok ⊢
      have hr : reservedL t.f1.data.toList = true := hok
      rw [if_neg (show ¬ t.f0 = 4 by omega)]
      show (∃ c l, t.f1.data.toList = c :: l) ∧ ∃ tx : List UInt8, tokL (t.f1.data.toList ++ 32 :: M) = ⟨t.f0, tx, 0, t.f1.data.toList, 0⟩ ∧ tx.length ≤ 32 ∧ B tx = t.f1
      rw [k6]
      unfold reservedL at hr
      simp only [Bool.or_eq_true, beq_iff_eq] at hr
      have fin : ∀ l : List UInt8, t.f1.data.toList = l → (∃ c r, l = c :: r) → l.length ≤ 32 → tokL (l ++ 32 :: M) = ⟨6, l, 0, l, 0⟩ → (∃ c l, t.f1.data.toList = c :: l) ∧ ∃ tx : List UInt8, tokL (t.f1.data.toList ++ 32 :: M) = ⟨6, tx, 0, t.f1.data.toList, 0⟩ ∧ tx.length ≤ 32 ∧ B tx = t.f1 := by
        intro l e hc hl ht
        rw [e]
        exact ⟨hc, l, ht, hl, by rw [← e]; rfl⟩
      rcases hr with (((e | e) | e) | e) | e
      · exact fin _ e ⟨_, _, rfl⟩ (by decide) rfl
      · exact fin _ e ⟨_, _, rfl⟩ (by decide) rfl
      · exact fin _ e ⟨_, _, rfl⟩ (by decide) rfl
      · exact fin _ e ⟨_, _, rfl⟩ (by decide) rfl
      · exact fin _ e ⟨_, _, rfl⟩ (by decide) rfl
    · rw [if_neg k6] at hok ⊢
      by_cases k5 : t.f0 = 5
      · rw [if_pos k5] at hok ⊢
        have hr : signL t.f1.data.toList = true := hok
        rw [if_neg (show ¬ t.f0 = 4 by omega)]
        show (∃ c l, t.f1.data.toList = c :: l) ∧ ∃ tx : List UInt8, tokL (t.f1.data.toList ++ 32 :: M) = ⟨t.f0, tx, 0, t.f1.data.toList, 0⟩ ∧ tx.length ≤ 32 ∧ B tx = t.f1
        rw [k5]
        unfold signL at hr
        simp only [Bool.or_eq_true, beq_iff_eq] at hr
        have fin : ∀ l : List UInt8, t.f1.data.toList = l → (∃ c r, l = c :: r) → l.length ≤ 32 → tokL (l ++ 32 :: M) = ⟨5, l, 0, l, 0⟩ → (∃ c l, t.f1.data.toList = c :: l) ∧ ∃ tx : List UInt8, tokL (t.f1.data.toList ++ 32 :: M) = ⟨5, tx, 0, t.f1.data.toList, 0⟩ ∧ tx.length ≤ 32 ∧ B tx = t.f1 := by
          intro l e hc hl ht
          rw [e]
          exact ⟨hc, l, ht, hl, by rw [← e]; rfl⟩
        rcases hr with ((((((e | e) | e) | e) | e) | e) | e) | e
        · exact fin _ e ⟨_, _, rfl⟩ (by decide) rfl
        · exact fin _ e ⟨_, _, rfl⟩ (by decide) rfl
        · exact fin _ e ⟨_, _, rfl⟩ (by decide) rfl
        · exact fin _ e ⟨_, _, rfl⟩ (by decide) rfl
        · exact fin _ e ⟨_, _, rfl⟩ (by decide) rfl
        · exact fin _ e ⟨_, _, rfl⟩ (by decide) rfl
        · exact fin _ e ⟨_, _, rfl⟩ (by decide) rfl
        · exact fin _ e ⟨_, _, rfl⟩ (by decide) rfl
      · rw [if_neg k5] at hok ⊢
        by_cases k4 : t.f0 = 4
        · rw [if_pos k4, if_pos k4]
          obtain ⟨a, b⟩ := tok_num t.f2 h1 h2 M
          show (∃ c l, digL t.f2 = c :: l) ∧ ∃ tx : List UInt8, tokL (digL t.f2 ++ 32 :: M) = ⟨t.f0, tx, t.f2, digL t.f2, 0⟩ ∧ tx.length ≤ 32 ∧ B tx = B []
          rw [k4]
          exact ⟨a, [], b, by decide, rfl⟩
        · rw [if_neg k4] at hok; exact absurd hok Bool.false_ne_true
/-- Bytes that are gone over, whatever follows. -/
def Gap (g : List UInt8) : Prop := ∀ r, skipL false (g ++ r) = g.length + skipL false r
theorem gap_nil : Gap [] := fun r => by simp
/-- Tokens written, each behind a gap. -/
def flat : List (List UInt8 × S34) → List UInt8
  | [] => []
  | (g, t) :: l => g ++ ((textL t).1 ++ 32 :: flat l)
theorem scanS_sp (f : Nat) (r : List UInt8) (at_ : Nat) (acc : List S34) : scanS f (32 :: r) at_ acc = scanS f r (at_ + 1) acc := by
  unfold scanS
  have e : skipL false (32 :: r) = skipL false r + 1 := by
    simp only [skipL]
    rw [if_pos (by decide)]
    omega
  rw [e, List.drop_succ_cons]
  congr 1
  omega
theorem scanS_gap (g : List UInt8) (hg : Gap g) (f : Nat) (r : List UInt8) (at_ : Nat) (acc : List S34) : scanS f (g ++ r) at_ acc = scanS f r (at_ + g.length) acc := by
  unfold scanS
  rw [hg r, ← List.drop_drop, List.drop_left]
  congr 1
  omega
theorem scan_flat : ∀ (l : List (List UInt8 × S34)), (∀ x ∈ l, Gap x.1 ∧ -9223372036854775808 ≤ x.2.f2 ∧ x.2.f2 ≤ 9223372036854775807 ∧ (textL x.2).2 = true) → ∀ (f at_ : Nat) (acc : List S34), l.length < f →
    ∃ R, scanS f (flat l) at_ acc = (acc ++ R, 0, 0) ∧ sameL false R (l.map fun x => named1 x.2) = true := by
  intro l
  induction l with
  | nil =>
    intro _ f at_ acc hf
    obtain ⟨f, rfl⟩ : ∃ m, f = m + 1 := ⟨f - 1, by omega⟩
    exact ⟨[], by simp [flat, scanS, skipL, scanL], rfl⟩
  | cons x l ih =>
    intro hx f at_ acc hf
    obtain ⟨g, t⟩ := x
    obtain ⟨h1, h2, h3, h4⟩ := hx (g, t) (List.mem_cons_self ..)
    obtain ⟨f, rfl⟩ : ∃ m, f = m + 1 := ⟨f - 1, by omega⟩
    obtain ⟨⟨c, r, e⟩, tx, et, el, eb⟩ := tok_text t h2 h3 h4 (flat l)
    rw [flat, scanS_gap g h1]
    rw [e] at et ⊢
    rw [List.cons_append] at et ⊢
    have h0 := tok_noskip c (r ++ 32 :: flat l) (by rw [et])
    unfold scanS
    rw [h0, List.drop_zero, Nat.add_zero, scanL_cons, et]
    show ∃ R, (if (0 : Int) = 0 then (if tx.length > 32 then _ else scanS f ((c :: (r ++ 32 :: flat l)).drop (c :: r).length) (at_ + g.length + (c :: r).length) (acc ++ [⟨t.f0, B tx, (named1 t).f2, ((at_ + g.length : Nat) : Int)⟩])) else _) = (acc ++ R, 0, 0) ∧ _
    rw [if_pos rfl, if_neg (by omega), ← List.cons_append, List.drop_left, scanS_sp]
    obtain ⟨R, hR, hS⟩ := ih (fun y hy => hx y (List.mem_cons_of_mem _ hy)) f (at_ + g.length + (c :: r).length + 1) (acc ++ [⟨t.f0, B tx, (named1 t).f2, ((at_ + g.length : Nat) : Int)⟩]) (by simpa using hf)
    refine ⟨⟨t.f0, B tx, (named1 t).f2, ((at_ + g.length : Nat) : Int)⟩ :: R, by rw [hR]; simp, ?_⟩
    simp only [List.map_cons, sameL, hS, Bool.and_true, sameT]
    have k0 : (named1 t).f0 = t.f0 := by unfold named1; split <;> rfl
    simp [k0, eb]
end Go.Proofs.Ytjmcoekdgiomiaa.Fkh
