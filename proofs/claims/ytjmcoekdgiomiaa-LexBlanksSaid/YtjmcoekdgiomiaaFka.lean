/- What the scanner's functions tell, as plain functions of lists of bytes. No condition. -/
import Derived.Test.YtjmcoekdgiomiaaPLexBlanksx0
import Derived.Test.YtjmcoekdgiomiaaPLexBlanksx1
import Derived.Test.YtjmcoekdgiomiaaPLexBlanksx2
import Derived.Test.YtjmcoekdgiomiaaPLexBlanksx3
import Derived.Test.YtjmcoekdgiomiaaPLexBlanksx4
import Derived.Test.YtjmcoekdgiomiaaPLexBlanksx5
import Derived.Test.YtjmcoekdgiomiaaPLexBlanksx6
import Derived.Test.YtjmcoekdgiomiaaPLexBlanksx7
import Derived.Test.YtjmcoekdgiomiaaPLexBlanksx8
import Derived.Test.YtjmcoekdgiomiaaPLexBlanksx9
set_option linter.unusedVariables false
set_option linter.unusedSimpArgs false
namespace Go.Proofs.Ytjmcoekdgiomiaa.Fka
open Go.RowKit Go.Proofs.Ytjmcoekdgiomiaa.PLexBlanks Go.Proofs.YtjmcoekdgiomiaaW.PrintWords Go.Proofs.YtjmcoekdgiomiaaW.PrintLast
/-- The bytes, as a string. -/
def B (l : List UInt8) : ByteArray := ⟨l.toArray⟩
theorem B_list (l : List UInt8) : (B l).data.toList = l := rfl
theorem B_size (l : List UInt8) : (B l).size = l.length := rfl
theorem B_of (s : ByteArray) : B s.data.toList = s := rfl
theorem B_eq {s : ByteArray} {l : List UInt8} (h : s.data.toList = l) : s = B l := by rw [← h]; rfl
theorem loop_eq (s : ByteArray) (i : Nat) (r : List UInt8) : ByteArray.toList.loop s i r = r.reverse ++ s.data.toList.drop i := by
  unfold ByteArray.toList.loop
  split
  · rename_i h
    rw [loop_eq s (i + 1)]
    have hl : i < s.data.size := h
    have e : s.get! i = s.data.toList[i]'(by simpa using h) := by
      simp only [ByteArray.get!]
      rw [getElem!_pos s.data i hl]
      simp
    have hd := List.drop_eq_getElem_cons (l := s.data.toList) (i := i) (by simpa using h)
    rw [e, hd]
    simp
  · rename_i h
    rw [List.drop_eq_nil_of_le (by simp; omega)]
    simp
  termination_by s.size - i
theorem toList_eq (s : ByteArray) : s.toList = s.data.toList := by
  unfold ByteArray.toList
  rw [loop_eq]
  rfl
def smallB (c : UInt8) : Bool := 97 ≤ c && c ≤ 122
def largeB (c : UInt8) : Bool := 65 ≤ c && c ≤ 90
def reservedL (l : List UInt8) : Bool := l == [108, 101, 116] || l == [105, 110] || l == [99, 97, 115, 101] || l == [111, 102] || l == [100, 97, 116, 97]
def signL (l : List UInt8) : Bool := l == [45, 62] || l == [61] || l == [92] || l == [123] || l == [125] || l == [59] || l == [40] || l == [41]
theorem small_f (c : UInt8) : lex_small.f (c.toNat : Int) = some (smallB c) := by
  unfold lex_small.f smallB
  by_cases h : (c.toNat : Int) ≥ 97
  · rw [if_pos h, Option.some.injEq, Bool.eq_iff_iff]; simp [UInt8.le_iff_toNat_le]; omega
  · rw [if_neg h, Option.some.injEq, Bool.eq_iff_iff]; simp [UInt8.le_iff_toNat_le]; omega
theorem large_f (c : UInt8) : lex_large.f (c.toNat : Int) = some (largeB c) := by
  unfold lex_large.f largeB
  by_cases h : (c.toNat : Int) ≥ 65
  · rw [if_pos h, Option.some.injEq, Bool.eq_iff_iff]; simp [UInt8.le_iff_toNat_le]; omega
  · rw [if_neg h, Option.some.injEq, Bool.eq_iff_iff]; simp [UInt8.le_iff_toNat_le]; omega
theorem reserved_f (s : ByteArray) : lex_reserved.f s = some (reservedL s.data.toList) := by
  unfold lex_reserved.f reservedL
  rw [toList_eq]
  generalize s.data.toList = l
  repeat' split
  all_goals simp_all
theorem sign_f (s : ByteArray) : lex_sign.f s = some (signL s.data.toList) := by
  unfold lex_sign.f signL
  rw [toList_eq]
  generalize s.data.toList = l
  repeat' split
  all_goals simp_all
/-- What a token is: its kind, its text, its number; the bytes that it takes; what is wrong. -/
structure Tk where
  kind : Int
  text : List UInt8
  n : Int
  used : List UInt8
  err : Int
/-- The first byte; 0: there is none. -/
def nx : List UInt8 → UInt8
  | [] => 0
  | c :: _ => c
/-- The token that begins here. -/
def tokL : List UInt8 → Tk
  | [] => ⟨0, [], 0, [], 20⟩
  | c :: l =>
    if smallB c then ⟨if reservedL (c :: l.takeWhile insB) then 6 else 1, c :: l.takeWhile insB, 0, c :: l.takeWhile insB, 0⟩
    else if largeB c then ⟨2, c :: l.takeWhile insB, 0, c :: l.takeWhile insB, 0⟩
    else if c == 35 && smallB (nx l) then ⟨3, c :: l.takeWhile insB, 0, c :: l.takeWhile insB, 0⟩
    else if digB c || c == 45 && digB (nx l) then
      (if (if c == 45 then numOf true (digVal (l.takeWhile digB)) else numOf false (digVal (c :: l.takeWhile digB))).2
        then ⟨4, [], (if c == 45 then numOf true (digVal (l.takeWhile digB)) else numOf false (digVal (c :: l.takeWhile digB))).1, c :: l.takeWhile digB, 0⟩ else ⟨0, [], 0, c :: l.takeWhile digB, 22⟩)
    else if c == 45 && nx l == 62 then ⟨5, [45, 62], 0, [45, 62], 0⟩
    else if c != 45 && signL [c] then ⟨5, [c], 0, [c], 0⟩
    else ⟨0, [], 0, [], 20⟩
theorem nx_cons (c : UInt8) (l : List UInt8) : nx (c :: l) = c := rfl
theorem byteAt_nx (s : ByteArray) (n : Nat) : byteAt s n = (nx (s.data.toList.drop n)).toNat := by
  unfold byteAt
  by_cases h : n < s.size
  · rw [dif_pos h, drop_at s n h]; rfl
  · rw [dif_neg h, List.drop_eq_nil_of_le (by simp; omega)]; rfl
theorem byte0 (s : ByteArray) (n : Nat) (h : s.size ≤ 140737488351232) (hn : n ≤ s.size) : lex_reader_byte.f s (n : Int) 0 = some (((nx (s.data.toList.drop n)).toNat : Int), s, (n : Int)) := by
  have := byte_f s n 0 h hn (by omega)
  rw [byteAt_nx] at this
  exact this
theorem byte1 (s : ByteArray) (n : Nat) (h : s.size ≤ 140737488351232) (hn : n ≤ s.size) : lex_reader_byte.f s (n : Int) 1 = some (((nx (s.data.toList.drop (n + 1))).toNat : Int), s, (n : Int)) := by
  have := byte_f s n 1 h hn (by omega)
  rw [byteAt_nx] at this
  exact this
theorem extract_list (s : ByteArray) (a b : Nat) : (s.extract a b).data.toList = (s.data.toList.drop a).take (b - a) := by
  simp [List.take_drop]
theorem takeWhile_take (p : UInt8 → Bool) (l : List UInt8) : l.take (l.takeWhile p).length = l.takeWhile p := by
  induction l with
  | nil => rfl
  | cons c l ih =>
    rw [List.takeWhile_cons]
    split
    · simp [ih]
    · rfl
theorem run0 (p : UInt8 → Bool) (s : ByteArray) (n : Nat) (h : s.size ≤ 140737488351232) (hn : n ≤ s.size) : runF p s (n : Int) 0 = some (B ((s.data.toList.drop n).takeWhile p), s, (n : Int)) := by
  unfold runF
  rw [if_pos ⟨by omega, by omega, by omega, h⟩]
  congr 2
  apply B_eq
  rw [extract_list]
  unfold runEnd
  rw [show ((n : Int) + 0).toNat = n by omega, Int.toNat_natCast, show n + ((s.data.toList.drop n).takeWhile p).length - n = ((s.data.toList.drop n).takeWhile p).length by omega]
  exact takeWhile_take _ _
theorem run1 (p : UInt8 → Bool) (s : ByteArray) (n : Nat) (h : s.size ≤ 140737488351232) (hn : n < s.size) : runF p s (n : Int) 1 = some (B (s[n] :: (s.data.toList.drop (n + 1)).takeWhile p), s, (n : Int)) := by
  unfold runF
  rw [if_pos ⟨by omega, by omega, by omega, h⟩]
  congr 2
  apply B_eq
  rw [extract_list]
  unfold runEnd
  rw [show ((n : Int) + 1).toNat = n + 1 by omega, Int.toNat_natCast, show n + 1 + ((s.data.toList.drop (n + 1)).takeWhile p).length - n = ((s.data.toList.drop (n + 1)).takeWhile p).length + 1 by omega, drop_at s n hn, List.take_succ_cons]
  rw [takeWhile_take]
/-- What a token is, as the program tells it. -/
def tkOut (t : Tk) (s : ByteArray) (n : Nat) : Int × ByteArray × Int × Int × ByteArray × Int × ByteArray × Int := (t.kind, B t.text, t.n, 0, B t.used, t.err, s, (n : Int))
theorem number_dash (l : List UInt8) (h : l.length ≤ 140737488351000) (hd : l.all digB = true) : lex_number.f (B (45 :: l)) = some (numOf true (digVal l)) := by
  unfold lex_number.f
  rw [if_pos ⟨by rw [B_size]; simp, by rw [B_size]; simp; omega⟩, B_list, if_pos (show (45 :: l).head? = some (45 : UInt8) from rfl)]
  simp only [List.drop_succ_cons, List.drop_zero]
  rw [if_pos hd]
theorem number_dig' (c : UInt8) (l : List UInt8) (h : l.length ≤ 140737488351000) (hc : digB c = true) (hd : l.all digB = true) : lex_number.f (B (c :: l)) = some (numOf false (digVal (c :: l))) := by
  unfold lex_number.f
  have h45 : ¬ (c :: l).head? = some (45 : UInt8) := by
    simp only [List.head?_cons, Option.some.injEq]
    rintro rfl
    exact absurd hc (by decide)
  rw [if_pos ⟨by rw [B_size]; simp, by rw [B_size]; simp; omega⟩, B_list, if_neg h45, if_pos (by simp [hc, hd])]
theorem takeWhile_all (p : UInt8 → Bool) (l : List UInt8) : (l.takeWhile p).all p = true := by
  induction l with
  | nil => rfl
  | cons c l ih =>
    rw [List.takeWhile_cons]
    split
    · rename_i h; simp [h, ih]
    · rfl
theorem eq45 (c : UInt8) : ((c.toNat : Int) = 45) ↔ c = 45 := ⟨fun h => UInt8.toNat_inj.1 (show c.toNat = 45 by omega), fun h => by rw [h]; rfl⟩
theorem eq35 (c : UInt8) : ((c.toNat : Int) = 35) ↔ c = 35 := ⟨fun h => UInt8.toNat_inj.1 (show c.toNat = 35 by omega), fun h => by rw [h]; rfl⟩
theorem eq62 (c : UInt8) : ((c.toNat : Int) = 62) ↔ c = 62 := ⟨fun h => UInt8.toNat_inj.1 (show c.toNat = 62 by omega), fun h => by rw [h]; rfl⟩
theorem ins_of_small {c : UInt8} (h : smallB c = true) : insB c = true := by unfold smallB at h; unfold insB; simp at h; simp [h]
theorem ins_of_large {c : UInt8} (h : largeB c = true) : insB c = true := by unfold largeB at h; unfold insB; simp at h; simp [h]
theorem encode_small (c : UInt8) (h : c.toNat < 128) : Utf8.encode (wrap32 (c.toNat : Int)) = B [c] := by
  have e : wrap32 (c.toNat : Int) = (c.toNat : Int) := by unfold wrap32; omega
  rw [e]
  unfold Utf8.encode
  have hv : Utf8.valid (c.toNat : Int) = true := by unfold Utf8.valid; simp; omega
  simp only [hv, if_true, Int.toNat_natCast]
  rw [if_pos h]
  apply B_eq
  simp
theorem encode_large (c : UInt8) (h : ¬ c.toNat < 128) : ∃ a b, Utf8.encode (wrap32 (c.toNat : Int)) = B [a, b] ∧ 128 ≤ a.toNat := by
  have hc := c.toNat_lt
  have e : wrap32 (c.toNat : Int) = (c.toNat : Int) := by unfold wrap32; omega
  rw [e]
  unfold Utf8.encode
  have hv : Utf8.valid (c.toNat : Int) = true := by unfold Utf8.valid; simp; omega
  simp only [hv, if_true, Int.toNat_natCast]
  rw [if_neg h, if_pos (by omega)]
  refine ⟨_, _, rfl, ?_⟩
  simp
  omega
theorem sign_large (a b : UInt8) (h : 128 ≤ a.toNat) : signL [a, b] = false := by
  unfold signL
  have : a ≠ 45 := by rintro rfl; revert h; decide
  simp [this]
theorem sign_large1 (c : UInt8) (h : ¬ c.toNat < 128) : signL [c] = false := by
  unfold signL
  simp
  repeat' apply And.intro
  all_goals (rintro rfl; exact h (by decide))
theorem token_f (k : Nat) (s : ByteArray) (n : Nat) (h : s.size ≤ 140737488350000) (hn : n < s.size) : lex_reader_token.f (k + 3) s (n : Int) = some (tkOut (tokL (s.data.toList.drop n)) s n) := by
  have hz : s.size ≤ 140737488351232 := by omega
  have hd := drop_at s n hn
  have b0 := byte0 s n hz (by omega)
  have b1 := byte1 s n hz (by omega)
  have r0 := run0 insB s n hz (by omega)
  have r1 := run1 insB s n hz hn
  have rd := run1 digB s n hz hn
  have hl : (s.data.toList.drop (n + 1)).length ≤ 140737488351000 := by simp; omega
  have hw : ((s.data.toList.drop (n + 1)).takeWhile digB).length ≤ 140737488351000 := Nat.le_trans (List.takeWhile_sublist digB).length_le hl
  rw [hd] at b0 r0 ⊢
  generalize s.data.toList.drop (n + 1) = l at *
  generalize s[n] = c at *
  unfold lex_reader_token.f
  simp only [b0, b1, small_f, large_f, nx_cons, Option.bind_some]
  have r0' : lex_reader_run31.f s (n : Int) 0 = some (B ((c :: l).takeWhile insB), s, (n : Int)) := r0
  have r1' : lex_reader_run31.f s (n : Int) 1 = some (B (c :: l.takeWhile insB), s, (n : Int)) := r1
  have rd' : lex_reader_run34.f s (n : Int) 1 = some (B (c :: l.takeWhile digB), s, (n : Int)) := rd
  rw [tokL]
  by_cases hs : smallB c = true
  · rw [List.takeWhile_cons, if_pos (ins_of_small hs)] at r0'
    rw [if_pos hs, if_pos hs, r0']
    simp only [Option.bind_some, reserved_f, B_list]
    by_cases hr : reservedL (c :: l.takeWhile insB) = true
    · simp only [hr, if_true]; rfl
    · simp only [hr]; rfl
  · rw [if_neg hs, if_neg hs]
    by_cases hL : largeB c = true
    · rw [List.takeWhile_cons, if_pos (ins_of_large hL)] at r0'
      rw [if_pos hL, if_pos hL, r0']
      rfl
    · rw [if_neg hL, if_neg hL]
      have rest : ∀ x : Bool, (c == 35 && smallB (nx l)) = x → lex_reader_token.j0 (k + 3) (c.toNat : Int) x s (n : Int) = some (tkOut (if (c == 35 && smallB (nx l)) = true then ⟨3, c :: l.takeWhile insB, 0, c :: l.takeWhile insB, 0⟩
          else if (digB c || c == 45 && digB (nx l)) = true then
          (if (if (c == 45) = true then numOf true (digVal (l.takeWhile digB)) else numOf false (digVal (c :: l.takeWhile digB))).2 = true
            then ⟨4, [], (if (c == 45) = true then numOf true (digVal (l.takeWhile digB)) else numOf false (digVal (c :: l.takeWhile digB))).1, c :: l.takeWhile digB, 0⟩ else ⟨0, [], 0, c :: l.takeWhile digB, 22⟩)
          else if (c == 45 && nx l == 62) = true then ⟨5, [45, 62], 0, [45, 62], 0⟩
          else if (c != 45 && signL [c]) = true then ⟨5, [c], 0, [c], 0⟩
          else ⟨0, [], 0, [], 20⟩) s n) := by
        intro x hx
        rw [hx]
        show lex_reader_token.j0 (k + 2 + 1) _ _ _ _ = _
        simp only [lex_reader_token.j0]
        cases x with
        | true => rw [if_pos rfl, if_pos rfl, r1']; rfl
        | false =>
          rw [if_neg Bool.false_ne_true, if_neg Bool.false_ne_true]
          have j1 : ∀ y : Bool, (digB c || c == 45 && digB (nx l)) = y → lex_reader_token.j1 (k + 2) (c.toNat : Int) y s (n : Int) = some (tkOut (if (digB c || c == 45 && digB (nx l)) = true then
              (if (if (c == 45) = true then numOf true (digVal (l.takeWhile digB)) else numOf false (digVal (c :: l.takeWhile digB))).2 = true
                then ⟨4, [], (if (c == 45) = true then numOf true (digVal (l.takeWhile digB)) else numOf false (digVal (c :: l.takeWhile digB))).1, c :: l.takeWhile digB, 0⟩ else ⟨0, [], 0, c :: l.takeWhile digB, 22⟩)
              else if (c == 45 && nx l == 62) = true then ⟨5, [45, 62], 0, [45, 62], 0⟩
              else if (c != 45 && signL [c]) = true then ⟨5, [c], 0, [c], 0⟩
              else ⟨0, [], 0, [], 20⟩) s n) := by
            intro y hy
            rw [hy]
            show lex_reader_token.j1 (k + 1 + 1) _ _ _ _ = _
            simp only [lex_reader_token.j1]
            cases y with
            | true =>
              rw [if_pos rfl, if_pos rfl, rd']
              simp only [Option.bind_some]
              by_cases h45 : c = 45
              · subst h45
                rw [number_dash _ hw (takeWhile_all _ _)]
                simp only [Option.bind_some, beq_self_eq_true, if_true]
                split <;> rfl
              · have hdc : digB c = true := by
                  have : (c == 45) = false := by simpa using h45
                  simpa [this] using hy
                have h45' : (c == 45) = false := by simpa using h45
                rw [number_dig' _ _ hw hdc (takeWhile_all _ _)]
                simp only [Option.bind_some, h45', Bool.false_eq_true, if_false]
                split <;> rfl
            | false =>
              rw [if_neg Bool.false_ne_true, if_neg Bool.false_ne_true]
              have j2 : ∀ z : Bool, (c == 45 && nx l == 62) = z → lex_reader_token.j2 (k + 1) (c.toNat : Int) z s (n : Int) = some (tkOut (if (c == 45 && nx l == 62) = true then ⟨5, [45, 62], 0, [45, 62], 0⟩
                  else if (c != 45 && signL [c]) = true then ⟨5, [c], 0, [c], 0⟩
                  else ⟨0, [], 0, [], 20⟩) s n) := by
                intro z hz2
                rw [hz2]
                simp only [lex_reader_token.j2]
                cases z with
                | true => rfl
                | false =>
                  rw [if_neg Bool.false_ne_true, if_neg Bool.false_ne_true]
                  by_cases h45 : c = 45
                  · subst h45; rw [if_pos ((eq45 45).2 rfl)]; rfl
                  · have h45' : (c != 45) = true := by simpa using h45
                    rw [if_neg (fun e => h45 ((eq45 c).1 e))]
                    by_cases h128 : c.toNat < 128
                    · rw [encode_small c h128, sign_f, B_list]
                      simp only [Option.bind_some, h45', Bool.true_and]
                      split <;> rfl
                    · obtain ⟨a, b, e, ha⟩ := encode_large c h128
                      rw [e, sign_f, B_list, sign_large a b ha]
                      simp only [Option.bind_some, sign_large1 c h128, Bool.and_false, Bool.false_eq_true, if_false]
                      rfl
              by_cases h45 : c = 45
              · subst h45
                rw [if_pos ((eq45 45).2 rfl), b1]
                simp only [Option.bind_some]
                refine j2 _ ?_
                simp only [beq_self_eq_true, Bool.true_and]
                rw [Bool.eq_iff_iff]
                simp only [beq_iff_eq]
                exact (eq62 (nx l)).symm
              · rw [if_neg (fun e => h45 ((eq45 c).1 e))]
                refine j2 _ ?_
                simp [h45]
          rw [dig_f]
          simp only [Option.bind_some]
          by_cases hdc : digB c = true
          · rw [if_pos hdc]
            exact j1 true (by simp [hdc])
          · rw [if_neg hdc]
            have hdc' : digB c = false := by simpa using hdc
            by_cases h45 : c = 45
            · subst h45
              rw [if_pos ((eq45 45).2 rfl), b1]
              simp only [Option.bind_some, dig_f]
              exact j1 _ (by simp [hdc'])
            · rw [if_neg (fun e => h45 ((eq45 c).1 e))]
              exact j1 _ (by simp [hdc', h45])
      by_cases h35 : c = 35
      · subst h35
        rw [if_pos ((eq35 35).2 rfl)]
        refine rest _ ?_
        simp
      · rw [if_neg (fun e => h35 ((eq35 c).1 e))]
        refine rest _ ?_
        simp [h35]
end Go.Proofs.Ytjmcoekdgiomiaa.Fka
