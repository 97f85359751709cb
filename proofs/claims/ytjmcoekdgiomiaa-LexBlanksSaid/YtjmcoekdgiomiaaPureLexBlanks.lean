/- Blanks and remarks between tokens change nothing but places: the law LexBlanks' answer is true for every input that can come in. No condition. -/
import Derived.Test.YtjmcoekdgiomiaaFkk
set_option linter.unusedVariables false
set_option linter.unusedSimpArgs false
namespace Go.Proofs.Ytjmcoekdgiomiaa.Pure
open Go.RowKit Go.Proofs.Ytjmcoekdgiomiaa.PLexBlanks Go.Proofs.YtjmcoekdgiomiaaW.PrintWords Go.Proofs.YtjmcoekdgiomiaaW.PrintLast
open Go.Proofs.Ytjmcoekdgiomiaa.Fka Go.Proofs.Ytjmcoekdgiomiaa.Fkb Go.Proofs.Ytjmcoekdgiomiaa.Fkc Go.Proofs.Ytjmcoekdgiomiaa.Fkg Go.Proofs.Ytjmcoekdgiomiaa.Fkh Go.Proofs.Ytjmcoekdgiomiaa.Fki Go.Proofs.Ytjmcoekdgiomiaa.Fkj Go.Proofs.Ytjmcoekdgiomiaa.Fkk
/-- A written token that is read again. -/
def Good (x : List UInt8 × S34) : Prop := Gap x.1 ∧ -9223372036854775808 ≤ x.2.f2 ∧ x.2.f2 ≤ 9223372036854775807 ∧ (textL x.2).2 = true
theorem flat_app : ∀ (P Q : List (List UInt8 × S34)), flat (P ++ Q) = flat P ++ flat Q
  | [], Q => rfl
  | (g, t) :: P, Q => by simp [flat, flat_app P Q]
theorem blanks_end (L : List S34) (G : List ByteArray) (hb : L.length ≤ 3518437208780) (P : List (List UInt8 × S34)) (n k : Nat) (hP : ∀ x ∈ P, Good x) (hL : P.map (·.2) = L ∨ 16384 < (flat P).length) (hk : 50000 ≤ k) :
    middenlaw05_LexBlanks.j1 (k + 1) L G (B (flat P)) (n : Int) false = some true := by
  simp only [middenlaw05_LexBlanks.j1]
  rw [if_neg Bool.false_ne_true, B_size]
  by_cases h : (flat P).length > 16384
  · rw [if_pos (by omega)]
  · rw [if_neg (by omega)]
    have hL : P.map (·.2) = L := hL.resolve_right (by omega)
    have hlen : L.length ≤ 16384 := by have := flat_len P; rw [← hL, List.length_map]; omega
    obtain ⟨R, hR, hS⟩ := scan_of_flat P hP (by omega)
    rw [scan_f _ _ (by rw [B_size]; omega) (by rw [B_size]; omega), B_list, hR]
    simp only [Option.bind_some]
    rw [if_pos trivial, named_f L hb _ (by omega)]
    simp only [Option.bind_some]
    have e : (P.map fun x => named1 x.2) = L.map named1 := by rw [← hL, List.map_map]; rfl
    rw [e] at hS
    have hl := sameL_len hS
    rw [List.length_map] at hl
    rw [same_f _ R (L.map named1) false (by omega) (by omega), hS]
    rfl
theorem blanks_l0 (L : List S34) (G : List ByteArray) (hL : ∀ t ∈ L, -9223372036854775808 ≤ t.f2 ∧ t.f2 ≤ 9223372036854775807) (hb : L.length ≤ 3518437208780) :
    ∀ (d k n : Nat) (P : List (List UInt8 × S34)), n + d = L.length → 2 * d + 60000 ≤ k → (∀ x ∈ P, Good x) → P.map (·.2) = L.take n →
    middenlaw05_LexBlanks.l0 k L G (B (flat P)) (n : Int) = some true := by
  intro d
  induction d with
  | zero =>
    intro k n P hn hk hP hPL
    obtain ⟨k, rfl⟩ : ∃ m, k = m + 1 + 1 := ⟨k - 2, by omega⟩
    simp only [middenlaw05_LexBlanks.l0]
    rw [if_neg (by omega)]
    exact blanks_end L G hb P n k hP (.inl (by rw [hPL, List.take_of_length_le (by omega)])) (by omega)
  | succ d ih =>
    intro k n P hn hk hP hPL
    obtain ⟨k, rfl⟩ : ∃ m, k = m + 1 + 1 := ⟨k - 2, by omega⟩
    have h1 : n < L.length := by omega
    simp only [middenlaw05_LexBlanks.l0]
    rw [if_pos (by omega), B_size]
    by_cases h : (flat P).length ≤ 16384
    · have hd : decide (((flat P).length : Int) ≤ 16384) = true := decide_eq_true (by omega)
      have e1 : rd_T34 L (n : Int) = L[n] := by simp [rd_T34, List.getD_eq_getElem?_getD, h1]
      obtain ⟨b1, b2⟩ := hL L[n] (List.getElem_mem h1)
      have hw : wrap64 ((n : Int) + 1) = ((n + 1 : Nat) : Int) := wrap_one n (by omega)
      have htl := text_len2 L[n]
      rw [hd]
      simp only [middenlaw05_LexBlanks.j1]
      rw [if_pos trivial, if_pos (by omega), if_pos (by omega), e1, rtext_f L[n] (by omega) k (by omega)]
      simp only [Option.bind_some]
      by_cases hT : (textL L[n]).2 = true
      · have htl := htl hT
        rw [if_pos hT]
        have step : ∀ g : List UInt8, Gap g → middenlaw05_LexBlanks.l0 k L G (B (flat P ++ (g ++ ((textL L[n]).1 ++ [32])))) ((n + 1 : Nat) : Int) = some true := by
          intro g hg
          have e : flat P ++ (g ++ ((textL L[n]).1 ++ [32])) = flat (P ++ [(g, L[n])]) := by rw [flat_app]; rfl
          rw [e]
          refine ih k (n + 1) (P ++ [(g, L[n])]) (by omega) (by omega) (fun x hx => ?_) ?_
          · rcases List.mem_append.1 hx with hx | hx
            · exact hP x hx
            · rw [List.mem_singleton] at hx
              subst hx
              exact ⟨hg, b1, b2, hT⟩
          · rw [List.map_append, hPL, List.take_succ_eq_append_getElem h1]
            rfl
        have e32 : B (textL L[n]).1 ++ (⟨#[32]⟩ : ByteArray) = B ((textL L[n]).1 ++ [32]) := B_app (textL L[n]).1 [32]
        by_cases hG : n < G.length
        · have hgl := gapL_len 12 (rdOf ByteArray.empty G (n : Int)).data.toList
          have hgg := gap_L 12 (rdOf ByteArray.empty G (n : Int)).data.toList
          rw [if_pos (by omega), gap_f _ k (by omega)]
          simp only [Option.bind_some]
          generalize gapL 12 (rdOf ByteArray.empty G (n : Int)).data.toList = g at hgl hgg ⊢
          rw [e32, B_app, B_app, B_size, B_size, B_size, B_size, B_size]
          rw [if_pos (by omega), if_pos (by omega), if_pos (by simp; omega), hw, List.append_assoc]
          exact step g hgg
        · rw [if_neg (by omega), e32, B_app, B_size, B_size, B_size]
          rw [if_pos (by omega), if_pos (by simp; omega), hw]
          exact step [] gap_nil
      · rw [if_neg hT]
    · have hd : decide (((flat P).length : Int) ≤ 16384) = false := decide_eq_false (by omega)
      rw [hd]
      exact blanks_end L G hb P n k hP (.inr (by omega)) (by omega)
theorem lexBlanks_pure (L : List S34) (G : List ByteArray) (hL : ∀ t ∈ L, -9223372036854775808 ≤ t.f2 ∧ t.f2 ≤ 9223372036854775807) (hb : L.length ≤ 3518437208780) : middenlaw05_LexBlanks.f (2 * L.length + 100000) L G = some true := by
  unfold middenlaw05_LexBlanks.f
  rw [awake_f _ (by omega)]
  simp only [Option.bind_some]
  rw [if_pos trivial]
  exact blanks_l0 L G hL hb L.length _ 0 [] (by omega) (by omega) (fun x hx => by cases hx) (by simp)
end Go.Proofs.Ytjmcoekdgiomiaa.Pure
