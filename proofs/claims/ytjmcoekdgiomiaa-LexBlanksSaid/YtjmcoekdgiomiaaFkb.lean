/- The whole scan as a plain function of a list of bytes; words. No condition. -/
import Derived.Test.YtjmcoekdgiomiaaFka
set_option linter.unusedVariables false
set_option linter.unusedSimpArgs false
namespace Go.Proofs.Ytjmcoekdgiomiaa.Fkb
open Go.RowKit Go.Proofs.Ytjmcoekdgiomiaa.PLexBlanks Go.Proofs.YtjmcoekdgiomiaaW.PrintWords Go.Proofs.YtjmcoekdgiomiaaW.PrintLast
open Go.Proofs.Ytjmcoekdgiomiaa.Fka
theorem tok_used (l : List UInt8) (h : (tokL l).err = 0) : 0 < (tokL l).used.length ∧ (tokL l).used.length ≤ l.length := by
  cases l with
  | nil => revert h; decide
  | cons c l =>
    have h1 := (List.takeWhile_sublist insB (l := l)).length_le
    have h2 := (List.takeWhile_sublist digB (l := l)).length_le
    revert h
    rw [tokL]
    by_cases hs : smallB c = true
    · rw [if_pos hs]; intro _; simp; omega
    · rw [if_neg hs]
      by_cases hL : largeB c = true
      · rw [if_pos hL]; intro _; simp; omega
      · rw [if_neg hL]
        by_cases h35 : (c == 35 && smallB (nx l)) = true
        · rw [if_pos h35]; intro _; simp; omega
        · rw [if_neg h35]
          by_cases hd : (digB c || c == 45 && digB (nx l)) = true
          · rw [if_pos hd]
            generalize (if (c == 45) = true then numOf true (digVal (l.takeWhile digB)) else numOf false (digVal (c :: l.takeWhile digB))) = r
            by_cases hr : r.2 = true
            · rw [if_pos hr]; intro _; simp; omega
            · rw [if_neg hr]; intro h; exact absurd h (by show ¬ (22 : Int) = 0; decide)
          · rw [if_neg hd]
            by_cases h45 : (c == 45 && nx l == 62) = true
            · rw [if_pos h45]
              intro _
              cases l with
              | nil => simp [nx] at h45
              | cons d l => simp
            · rw [if_neg h45]
              split
              · intro _; simp
              · intro h; exact absurd h (by decide)
/-- The scan from a place on, at which no blank stands. -/
def scanL : Nat → List UInt8 → Nat → List S34 → List S34 × Int × Int
  | 0, _, _, acc => (acc, 0, 0)
  | f + 1, l, at_, acc =>
    if l.length = 0 then (acc, 0, 0)
    else if (tokL l).err = 0 then
      (if (tokL l).text.length > 32 then ([], (at_ : Int), 21)
       else scanL f ((l.drop (tokL l).used.length).drop (skipL false (l.drop (tokL l).used.length))) (at_ + (tokL l).used.length + skipL false (l.drop (tokL l).used.length)) (acc ++ [⟨(tokL l).kind, B (tokL l).text, (tokL l).n, (at_ : Int)⟩]))
    else ([], (at_ : Int), (tokL l).err)
/-- The whole scan. -/
def scanAll (l : List UInt8) : List S34 × Int × Int :=
  if l.length > 16384 then ([], 0, 3) else scanL (l.length + 1) (l.drop (skipL false l)) (skipL false l) []
theorem skip_le (b : Bool) (l : List UInt8) : skipL b l ≤ l.length := by
  induction l generalizing b with
  | nil => cases b <;> simp [skipL]
  | cons c l ih =>
    cases b with
    | true => simp only [skipL, List.length_cons]; have := ih (c != 10); omega
    | false =>
      simp only [skipL, List.length_cons]
      have h1 := ih false
      have h2 := ih true
      split
      · omega
      · split <;> omega
theorem blanks_f (s : ByteArray) (n : Nat) (h : s.size ≤ 140737488351232) (hn : n ≤ s.size) : lex_reader_blanks.f s (n : Int) = some (s, ((n + skipL false (s.data.toList.drop n) : Nat) : Int)) := by
  unfold lex_reader_blanks.f
  rw [if_pos ⟨by omega, by omega, h⟩, Int.toNat_natCast]
theorem wrap_nat (a b : Nat) (h : a + b ≤ 140737488351232) : wrap64 ((a : Int) + (b : Int)) = ((a + b : Nat) : Int) := by unfold wrap64; omega
theorem wrap_one (n : Nat) (h : n ≤ 140737488351232) : wrap64 ((n : Int) + 1) = ((n + 1 : Nat) : Int) := by unfold wrap64; omega
theorem scan_l0 (s : ByteArray) (hz : s.size ≤ 16384) : ∀ (f k n : Nat) (acc : List S34), n ≤ s.size → s.size - n < f → acc.length + (s.size - n) ≤ 16384 → 2 * f + 4 ≤ k →
    lex_Scan.l0 k s acc s (n : Int) = some (scanL f (s.data.toList.drop n) n acc) := by
  intro f
  induction f with
  | zero => intro k n acc _ h; omega
  | succ f ih =>
    intro k n acc hn hf ha hk
    obtain ⟨k, rfl⟩ : ∃ m, k = m + 2 := ⟨k - 2, by omega⟩
    rw [scanL]
    show lex_Scan.l0 (k + 1 + 1) _ _ _ _ = _
    simp only [lex_Scan.l0]
    by_cases hlt : n < s.size
    · rw [if_pos (show (n : Int) < (s.size : Int) by omega), if_neg (by simp; omega)]
      have ht := token_f (k - 2) s n (by omega) hlt
      rw [show k - 2 + 3 = k + 1 by omega] at ht
      rw [ht]
      have hu := tok_used (s.data.toList.drop n)
      generalize hT : tokL (s.data.toList.drop n) = T at hu ⊢
      show (if T.err = 0 then lex_Scan.j1 (k + 1) s acc (B T.used) T.err (decide (((B T.text).size : Int) > 32)) s n T.kind (B T.text) T.n 0 else lex_Scan.j1 (k + 1) s acc (B T.used) T.err false s n T.kind (B T.text) T.n 0) = _
      by_cases he : T.err = 0
      · rw [if_pos he, if_pos he]
        obtain ⟨hu1, hu2⟩ := hu he
        have hlen : (s.data.toList.drop n).length = s.size - n := by simp
        simp only [lex_Scan.j1]
        by_cases h32 : T.text.length > 32
        · have hd : decide (((B T.text).size : Int) > 32) = true := decide_eq_true (by rw [B_size]; omega)
          rw [hd, if_pos rfl, if_pos h32]
        · have hd : decide (((B T.text).size : Int) > 32) = false := decide_eq_false (by rw [B_size]; omega)
          rw [hd, if_neg Bool.false_ne_true, if_neg h32, if_pos he, if_pos (by omega), B_size]
          have hnu : n + T.used.length ≤ s.size := by omega
          rw [wrap_nat n T.used.length (by omega), blanks_f s _ (by omega) hnu]
          simp only [Option.bind_some, List.drop_drop]
          have hsk := skip_le false (s.data.toList.drop (n + T.used.length))
          have hl2 : (s.data.toList.drop (n + T.used.length)).length = s.size - (n + T.used.length) := by simp
          rw [hl2] at hsk
          generalize skipL false (s.data.toList.drop (n + T.used.length)) = q at hsk ⊢
          generalize T.used.length = u at *
          exact ih k (n + u + q) (acc ++ [⟨T.kind, B T.text, T.n, (n : Int)⟩]) (by omega) (by omega) (by simp; omega) (by omega)
      · rw [if_neg he, if_neg he]
        simp only [lex_Scan.j1]
        rw [if_neg Bool.false_ne_true, if_neg he]
    · rw [if_neg (show ¬ (n : Int) < (s.size : Int) by omega), if_pos (by simp; omega)]
theorem scan_f (s : ByteArray) (k : Nat) (h : s.size ≤ 140737488351232) (hk : 2 * s.size + 6 ≤ k) : lex_Scan.f k s = some (scanAll s.data.toList) := by
  unfold lex_Scan.f scanAll
  by_cases hz : s.size > 16384
  · rw [if_pos (show (s.size : Int) > 16384 by omega), if_pos (by simpa using hz)]
  · rw [if_neg (show ¬ (s.size : Int) > 16384 by omega), if_neg (by simpa using hz)]
    have hb := blanks_f s 0 h (by omega)
    rw [List.drop_zero, Nat.zero_add] at hb
    have hb' : lex_reader_blanks.f s 0 = some (s, ((skipL false s.data.toList : Nat) : Int)) := hb
    rw [hb']
    simp only [Option.bind_some]
    have hsk := skip_le false s.data.toList
    have hl : s.data.toList.length = s.size := by simp
    have := scan_l0 s (by omega) (s.size + 1) k (skipL false s.data.toList) [] (by omega) (by omega) (by simp; omega) (by omega)
    rw [this, hl]
/-- Is it a word of a kind? -/
def wordL (l : List UInt8) (kind : Int) : Bool := decide ((kind = 1 ∨ kind = 2 ∨ kind = 3) ∧ 0 < l.length ∧ l.length ≤ 32 ∧ (tokL l).err = 0 ∧ (tokL l).kind = kind ∧ (tokL l).used = l)
theorem word_f (s : ByteArray) (k : Nat) (kind : Int) (hk : 3 ≤ k) : lex_Word.f k s kind = some (wordL s.data.toList kind) := by
  obtain ⟨k, rfl⟩ : ∃ m, k = m + 3 := ⟨k - 3, by omega⟩
  unfold lex_Word.f wordL
  have hl : s.data.toList.length = s.size := by simp
  have hnil : s.data.toList = [] ↔ s.size = 0 := by rw [← hl]; exact List.length_eq_zero_iff.symm
  have body : (kind = 1 ∨ kind = 2 ∨ kind = 3) → (if s.toList = ([] : List UInt8) then (some false) else (if (s.size : Int) > 32 then (some false) else ((lex_reader_token.f (k + 3) s 0).bind fun bt156 => (if bt156.2.2.2.2.2.1 = 0 then (if bt156.1 = kind then (some (bt156.2.2.2.2.1.toList == s.toList)) else (some false)) else (some false)))))
      = some (decide ((kind = 1 ∨ kind = 2 ∨ kind = 3) ∧ 0 < s.data.toList.length ∧ s.data.toList.length ≤ 32 ∧ (tokL s.data.toList).err = 0 ∧ (tokL s.data.toList).kind = kind ∧ (tokL s.data.toList).used = s.data.toList)) := by
    intro h123
    rw [toList_eq]
    by_cases h0 : s.size = 0
    · rw [if_pos (hnil.2 h0)]
      simp [hl, h0]
    · rw [if_neg (fun e => h0 (hnil.1 e))]
      by_cases h32 : s.size ≤ 32
      · rw [if_neg (show ¬ (s.size : Int) > 32 by omega)]
        have ht := token_f k s 0 (by omega) (by omega)
        rw [List.drop_zero] at ht
        have ht' : lex_reader_token.f (k + 3) s 0 = some (tkOut (tokL s.data.toList) s 0) := ht
        rw [ht']
        simp only [Option.bind_some, tkOut]
        generalize hT : tokL s.data.toList = T
        by_cases he : T.err = 0
        · rw [if_pos he]
          by_cases hkd : T.kind = kind
          · rw [if_pos hkd, toList_eq, B_list, Option.some.injEq, Bool.eq_iff_iff]
            simp only [beq_iff_eq, decide_eq_true_eq]
            constructor
            · intro h; exact ⟨h123, by omega, by omega, he, hkd, h⟩
            · intro h; exact h.2.2.2.2.2
          · rw [if_neg hkd]
            symm
            rw [Option.some.injEq, decide_eq_false_iff_not]
            intro h; exact hkd h.2.2.2.2.1
        · rw [if_neg he]
          symm
          rw [Option.some.injEq, decide_eq_false_iff_not]
          intro h; exact he h.2.2.2.1
      · rw [if_pos (show (s.size : Int) > 32 by omega)]
        symm
        rw [Option.some.injEq, decide_eq_false_iff_not]
        intro h; have := h.2.2.1; omega
  by_cases k1 : kind = 1
  · rw [if_pos k1]; exact body (.inl k1)
  · rw [if_neg k1]
    by_cases k2 : kind = 2
    · rw [if_pos k2]; exact body (.inr (.inl k2))
    · rw [if_neg k2]
      by_cases k3 : kind = 3
      · rw [if_pos k3]; exact body (.inr (.inr k3))
      · rw [if_neg k3]
        symm
        rw [Option.some.injEq, decide_eq_false_iff_not]
        intro h
        exact h.1.elim k1 (fun h => h.elim k2 k3)
theorem awake_scan : scanAll [102, 32, 61, 32, 35, 97, 100, 100, 32, 120, 32, 45, 49, 59] = ([⟨1, B [102], 0, 0⟩, ⟨5, B [61], 0, 2⟩, ⟨3, B [35, 97, 100, 100], 0, 4⟩, ⟨1, B [120], 0, 9⟩, ⟨4, B [], -1, 11⟩, ⟨5, B [59], 0, 13⟩], 0, 0) := by
  rfl
theorem awake_f (k : Nat) (hk : 40 ≤ k) : middenlaw05_awake.f k = some true := by
  unfold middenlaw05_awake.f
  have hs := scan_f (⟨#[102, 32, 61, 32, 35, 97, 100, 100, 32, 120, 32, 45, 49, 59]⟩ : ByteArray) k (by decide) (by show 2 * 14 + 6 ≤ k; omega)
  rw [hs]
  have e : scanAll (⟨#[102, 32, 61, 32, 35, 97, 100, 100, 32, 120, 32, 45, 49, 59]⟩ : ByteArray).data.toList = _ := awake_scan
  rw [e]
  simp only [Option.bind_some]
  have hw := word_f (⟨#[102]⟩ : ByteArray) k 1 (by omega)
  rw [hw]
  have ew : wordL (⟨#[102]⟩ : ByteArray).data.toList 1 = true := by decide
  rw [ew]
  rfl
end Go.Proofs.Ytjmcoekdgiomiaa.Fkb
