/- What stands in another line behind a text changes none of its tokens: plain laws of the scan. No condition. -/
import Derived.Test.YtjmcoekdgiomiaaFfc
set_option linter.unusedVariables false
set_option linter.unusedSimpArgs false
namespace Go.Proofs.Ytjmcoekdgiomiaa.Ffd
open Go.RowKit Go.Proofs.Ytjmcoekdgiomiaa.PLexFirst Go.Proofs.YtjmcoekdgiomiaaW.PrintWords Go.Proofs.YtjmcoekdgiomiaaW.PrintLast
open Go.Proofs.Ytjmcoekdgiomiaa.Ffa Go.Proofs.Ytjmcoekdgiomiaa.Ffb Go.Proofs.Ytjmcoekdgiomiaa.Ffc
/-- A scan that goes over blanks first. -/
def scanS (f : Nat) (l : List UInt8) (at_ : Nat) (acc : List S34) : List S34 × Int × Int := scanL f (l.drop (skipL false l)) (at_ + skipL false l) acc
theorem skip_more (M : List UInt8) : ∀ (l : List UInt8) (b : Bool), (skipL b l < l.length → skipL b (l ++ 10 :: M) = skipL b l) ∧ (skipL b l = l.length → l.length + 1 ≤ skipL b (l ++ 10 :: M))
  | [], b => by
    refine ⟨fun h => by cases b <;> simp [skipL] at h, fun _ => ?_⟩
    cases b with
    | true => simp [skipL]
    | false => simp only [List.nil_append, skipL]; rw [if_pos (by decide)]; simp
  | c :: l, true => by
    have ih := skip_more M l (c != 10)
    simp only [List.cons_append, skipL, List.length_cons]
    exact ⟨fun h => by rw [ih.1 (by omega)], fun h => by have := ih.2 (by omega); omega⟩
  | c :: l, false => by
    have i1 := skip_more M l false
    have i2 := skip_more M l true
    simp only [List.cons_append, skipL, List.length_cons]
    have hh : ((l ++ 10 :: M).head? == some (45 : UInt8)) = (l.head? == some (45 : UInt8)) := by
      cases l with
      | nil => rfl
      | cons d l => rfl
    rw [hh]
    by_cases hb : blankB c = true
    · rw [if_pos hb, if_pos hb]
      exact ⟨fun h => by rw [i1.1 (by omega)], fun h => by have := i1.2 (by omega); omega⟩
    · rw [if_neg hb, if_neg hb]
      by_cases hr : (c == 45 && l.head? == some (45 : UInt8)) = true
      · rw [if_pos hr, if_pos hr]
        exact ⟨fun h => by rw [i2.1 (by omega)], fun h => by have := i2.2 (by omega); omega⟩
      · rw [if_neg hr, if_neg hr]
        exact ⟨fun _ => rfl, fun h => by omega⟩
theorem takeWhile_more (p : UInt8 → Bool) (hp : p 10 = false) (M : List UInt8) : ∀ l : List UInt8, (l ++ 10 :: M).takeWhile p = l.takeWhile p
  | [] => by simp [hp]
  | c :: l => by
    rw [List.cons_append, List.takeWhile_cons, List.takeWhile_cons, takeWhile_more p hp M l]
theorem nx_more (M l : List UInt8) : smallB (nx (l ++ 10 :: M)) = smallB (nx l) ∧ digB (nx (l ++ 10 :: M)) = digB (nx l) ∧ (nx (l ++ 10 :: M) == 62) = (nx l == 62) := by
  cases l with
  | nil => exact ⟨rfl, rfl, rfl⟩
  | cons c l => exact ⟨rfl, rfl, rfl⟩
theorem tok_more (M : List UInt8) (c : UInt8) (l : List UInt8) : tokL (c :: (l ++ 10 :: M)) = tokL (c :: l) := by
  rw [tokL, tokL, takeWhile_more insB (by decide), takeWhile_more digB (by decide), (nx_more M l).1, (nx_more M l).2.1, (nx_more M l).2.2]
theorem scanL_cons (f : Nat) (c : UInt8) (l : List UInt8) (at_ : Nat) (acc : List S34) : scanL (f + 1) (c :: l) at_ acc = if (tokL (c :: l)).err = 0 then
      (if (tokL (c :: l)).text.length > 32 then ([], (at_ : Int), 21)
       else scanS f ((c :: l).drop (tokL (c :: l)).used.length) (at_ + (tokL (c :: l)).used.length) (acc ++ [⟨(tokL (c :: l)).kind, B (tokL (c :: l)).text, (tokL (c :: l)).n, (at_ : Int)⟩]))
    else ([], (at_ : Int), (tokL (c :: l)).err) := by
  rw [scanL, if_neg (by simp)]
  rfl
/-- A scan tells more tokens, or one that is wrong. -/
theorem scan_ends : ∀ (f : Nat) (l : List UInt8) (at_ : Nat) (acc : List S34), ((scanL f l at_ acc).2.2 = 0 → ∃ more, (scanL f l at_ acc).1 = acc ++ more) ∧ ((scanL f l at_ acc).2.2 ≠ 0 → (scanL f l at_ acc).1 = [] ∧ (at_ : Int) ≤ (scanL f l at_ acc).2.1) := by
  intro f
  induction f with
  | zero => intro l at_ acc; exact ⟨fun _ => ⟨[], by simp [scanL]⟩, fun h => absurd rfl h⟩
  | succ f ih =>
    intro l at_ acc
    rw [scanL]
    by_cases h0 : l.length = 0
    · rw [if_pos h0]; exact ⟨fun _ => ⟨[], by simp⟩, fun h => absurd rfl h⟩
    · rw [if_neg h0]
      by_cases he : (tokL l).err = 0
      · rw [if_pos he]
        by_cases h32 : (tokL l).text.length > 32
        · rw [if_pos h32]; exact ⟨fun h => absurd h (by show ¬ (21 : Int) = 0; decide), fun _ => ⟨rfl, Int.le_refl _⟩⟩
        · rw [if_neg h32]
          generalize skipL false (l.drop (tokL l).used.length) = q
          obtain ⟨h1, h2⟩ := ih ((l.drop (tokL l).used.length).drop q) (at_ + (tokL l).used.length + q) (acc ++ [⟨(tokL l).kind, B (tokL l).text, (tokL l).n, (at_ : Int)⟩])
          refine ⟨fun h => ?_, fun h => ?_⟩
          · obtain ⟨more, e⟩ := h1 h
            exact ⟨_, by rw [e, List.append_assoc]⟩
          · obtain ⟨e1, e2⟩ := h2 h
            refine ⟨e1, ?_⟩
            generalize (scanL f ((l.drop (tokL l).used.length).drop q) (at_ + (tokL l).used.length + q) (acc ++ [⟨(tokL l).kind, B (tokL l).text, (tokL l).n, (at_ : Int)⟩])).2.1 = z at e2 ⊢
            generalize (tokL l).used.length = u at e2
            omega
      · rw [if_neg he]; exact ⟨fun h => absurd h he, fun _ => ⟨rfl, Int.le_refl _⟩⟩
theorem scan_first (M : List UInt8) : ∀ (f : Nat) (l : List UInt8) (at_ : Nat) (acc : List S34), (scanS f l at_ acc).2.2 = 0 → l.length < f → ∀ f', (l ++ 10 :: M).length < f' →
    ((scanS f' (l ++ 10 :: M) at_ acc).2.2 = 0 → ∃ more, (scanS f' (l ++ 10 :: M) at_ acc).1 = (scanS f l at_ acc).1 ++ more) ∧ ((scanS f' (l ++ 10 :: M) at_ acc).2.2 ≠ 0 → (scanS f' (l ++ 10 :: M) at_ acc).1 = [] ∧ ((at_ + l.length : Nat) : Int) < (scanS f' (l ++ 10 :: M) at_ acc).2.1) := by
  intro f
  induction f with
  | zero => intro l at_ acc _ h; omega
  | succ f ih =>
    intro l at_ acc hok hf f' hf'
    have hle := skip_le false l
    by_cases hall : skipL false l = l.length
    · have hm := (skip_more M l false).2 hall
      have e : scanS (f + 1) l at_ acc = (acc, 0, 0) := by
        unfold scanS
        rw [hall, List.drop_length, scanL]
        rfl
      rw [e]
      unfold scanS
      generalize skipL false (l ++ 10 :: M) = q at hm ⊢
      obtain ⟨h1, h2⟩ := scan_ends f' ((l ++ 10 :: M).drop q) (at_ + q) acc
      refine ⟨h1, fun h => ?_⟩
      obtain ⟨e1, e2⟩ := h2 h
      refine ⟨e1, ?_⟩
      generalize (scanL f' ((l ++ 10 :: M).drop q) (at_ + q) acc).2.1 = z at e2 ⊢
      omega
    · have hlt : skipL false l < l.length := by omega
      have hm := (skip_more M l false).1 hlt
      obtain ⟨f', rfl⟩ : ∃ m, f' = m + 1 := ⟨f' - 1, by omega⟩
      have hd : (l ++ 10 :: M).drop (skipL false l) = l.drop (skipL false l) ++ 10 :: M := List.drop_append_of_le_length hle
      unfold scanS at hok ⊢
      rw [hm, hd]
      have hl1 : (l.drop (skipL false l)).length = l.length - skipL false l := by simp
      generalize skipL false l = q at *
      cases hl : l.drop q with
      | nil => rw [hl] at hl1; simp at hl1; omega
      | cons c l1 =>
        rw [hl] at hok hl1
        have hu := tok_used (c :: l1)
        rw [List.cons_append]
        rw [scanL_cons f] at hok ⊢
        rw [scanL_cons f']
        rw [tok_more]
        generalize tokL (c :: l1) = T at hok hu ⊢
        by_cases he : T.err = 0
        · obtain ⟨hu1, hu2⟩ := hu he
          rw [if_pos he] at hok
          rw [if_pos he, if_pos he]
          by_cases h32 : T.text.length > 32
          · rw [if_pos h32] at hok; exact absurd hok (by show ¬ (21 : Int) = 0; decide)
          · rw [if_neg h32] at hok
            rw [if_neg h32, if_neg h32]
            rw [← List.cons_append, List.drop_append_of_le_length hu2]
            have hl3 : ((c :: l1).drop T.used.length).length = (l.length - q) - T.used.length := by rw [List.length_drop, hl1]
            have hlen : (l ++ 10 :: M).length = l.length + (M.length + 1) := by simp
            have := ih ((c :: l1).drop T.used.length) (at_ + q + T.used.length) (acc ++ [⟨T.kind, B T.text, T.n, ((at_ + q : Nat) : Int)⟩]) hok (by rw [hl3]; generalize T.used.length = u at *; omega) f' (by rw [List.length_append, hl3]; simp only [List.length_cons]; generalize T.used.length = u at *; omega)
            refine ⟨this.1, fun h => ?_⟩
            obtain ⟨e1, e2⟩ := this.2 h
            refine ⟨e1, ?_⟩
            rw [hl3] at e2
            have e3 : at_ + q + T.used.length + (l.length - q - T.used.length) = at_ + l.length := by generalize T.used.length = u at *; omega
            rw [e3] at e2
            exact e2
        · rw [if_neg he] at hok; exact absurd hok he
theorem scanAll_S (l : List UInt8) : scanAll l = if l.length > 16384 then ([], 0, 3) else scanS (l.length + 1) l 0 [] := by
  unfold scanAll scanS
  rw [Nat.zero_add]
theorem all_first (L M : List UInt8) (hok : (scanAll L).2.2 = 0) (hs : L.length + M.length < 16384) :
    ((scanAll (L ++ 10 :: M)).2.2 = 0 → ∃ more, (scanAll (L ++ 10 :: M)).1 = (scanAll L).1 ++ more) ∧ ((scanAll (L ++ 10 :: M)).2.2 ≠ 0 → (scanAll (L ++ 10 :: M)).1 = [] ∧ (L.length : Int) < (scanAll (L ++ 10 :: M)).2.1) := by
  have hlen : (L ++ 10 :: M).length = L.length + (M.length + 1) := by simp
  rw [scanAll_S L, if_neg (by omega)] at hok
  rw [scanAll_S L, if_neg (by omega), scanAll_S (L ++ 10 :: M), if_neg (by omega)]
  have := scan_first M (L.length + 1) L 0 [] hok (by omega) ((L ++ 10 :: M).length + 1) (by omega)
  rw [Nat.zero_add] at this
  exact this
end Go.Proofs.Ytjmcoekdgiomiaa.Ffd
