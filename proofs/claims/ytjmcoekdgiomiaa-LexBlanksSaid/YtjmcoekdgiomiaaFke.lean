/- The reference's token, as the same plain function. No condition. -/
import Derived.Test.YtjmcoekdgiomiaaFkb
set_option linter.unusedVariables false
set_option linter.unusedSimpArgs false
namespace Go.Proofs.Ytjmcoekdgiomiaa.Fke
open Go.RowKit Go.Proofs.Ytjmcoekdgiomiaa.PLexBlanks Go.Proofs.YtjmcoekdgiomiaaW.PrintWords Go.Proofs.YtjmcoekdgiomiaaW.PrintLast
open Go.Proofs.Ytjmcoekdgiomiaa.Fka Go.Proofs.Ytjmcoekdgiomiaa.Fkb
theorem rsmall_f (c : UInt8) : middenref05_small.f (c.toNat : Int) = some (smallB c) := small_f c
theorem rlarge_f (c : UInt8) : middenref05_large.f (c.toNat : Int) = some (largeB c) := large_f c
theorem rdigit_f (c : UInt8) : middenref05_digit.f (c.toNat : Int) = some (digB c) := dig_f c
theorem rreserved_f (s : ByteArray) : middenref05_Reserved.f s = some (reservedL s.data.toList) := by
  unfold middenref05_Reserved.f reservedL
  rw [toList_eq]
  generalize s.data.toList = l
  repeat' split
  all_goals simp_all
theorem rsign_f (s : ByteArray) : middenref05_Sign.f s = some (signL s.data.toList) := by
  unfold middenref05_Sign.f signL
  rw [toList_eq]
  generalize s.data.toList = l
  repeat' split
  all_goals simp_all
theorem bt_at' (s : ByteArray) (n : Nat) (h : n < s.size) : bt s (n : Int) = (s[n].toNat : Int) := by
  rw [bt_get s n h]
  simp [ByteArray.getElem_eq_getElem_data]
theorem ins_parts (c : UInt8) : insB c = (smallB c || largeB c || digB c || c == 95) := by
  unfold insB smallB largeB digB
  generalize (decide (48 ≤ c) && decide (c ≤ 57)) = a
  generalize (decide (97 ≤ c) && decide (c ≤ 122)) = b
  generalize (decide (65 ≤ c) && decide (c ≤ 90)) = d
  cases a <;> cases b <;> cases d <;> rfl
theorem eq95 (c : UInt8) : ((c.toNat : Int) = 95) ↔ c = 95 := ⟨fun h => UInt8.toNat_inj.1 (show c.toNat = 95 by omega), fun h => by rw [h]; rfl⟩
theorem run_l0 (s : ByteArray) (hz : s.size ≤ 140737488350000) : ∀ (d k n : Nat), n + d = s.size → d + 1 ≤ k → middenref05_Run.l0 k s (n : Int) = some ((runEnd insB s n : Nat) : Int) := by
  intro d
  induction d with
  | zero =>
    intro k n hn hk
    obtain ⟨k, rfl⟩ : ∃ m, k = m + 1 := ⟨k - 1, by omega⟩
    simp only [middenref05_Run.l0]
    rw [if_neg (by omega), runEnd_stop insB s n (by omega)]
  | succ d ih =>
    intro k n hn hk
    obtain ⟨k, rfl⟩ : ∃ m, k = m + 1 := ⟨k - 1, by omega⟩
    have hlt : n < s.size := by omega
    have hget : (s.data.toList[n]'(by simpa using hlt)) = s[n] := by simp [ByteArray.getElem_eq_getElem_data]
    have hstep := runEnd_step insB s n hlt
    rw [hget, ins_parts] at hstep
    have ihn := ih k (n + 1) (by omega) (by omega)
    simp only [middenref05_Run.l0]
    rw [if_pos (by omega), if_pos (by omega), bt_at' s n hlt, rsmall_f, rlarge_f, rdigit_f, wrap_one n (by omega), ihn, hstep]
    simp only [Option.bind_some]
    generalize s[n] = c
    by_cases h1 : smallB c = true
    · simp [h1]
    · by_cases h2 : largeB c = true
      · simp [h1, h2]
      · by_cases h3 : digB c = true
        · simp [h1, h2, h3]
        · by_cases h4 : c = 95
          · rw [if_neg h1, if_neg h2, if_neg h3, if_pos ((eq95 c).2 h4)]
            simp [h4]
          · rw [if_neg h1, if_neg h2, if_neg h3, if_neg (fun e => h4 ((eq95 c).1 e))]
            simp [h1, h2, h3, h4]
theorem run_f (s : ByteArray) (hz : s.size ≤ 140737488350000) (k n : Nat) (hn : n ≤ s.size) (hk : s.size + 1 ≤ k) : middenref05_Run.f k s (n : Int) = some ((runEnd insB s n : Nat) : Int) :=
  run_l0 s hz (s.size - n) k n (by omega) (by omega)
/-- What the reference tells of a token. -/
def oneOut (t : Tk) (n : Nat) : Int × ByteArray × Int × Int × Int × Int := if t.err = 0 then (t.kind, B t.text, t.n, (n : Int), ((n + t.used.length : Nat) : Int), 0) else (0, B [], 0, 0, 0, t.err)
theorem take_run (p : UInt8 → Bool) (s : ByteArray) (n : Nat) : s.extract n (runEnd p s n) = B ((s.data.toList.drop n).takeWhile p) := by
  apply B_eq
  rw [extract_list]
  unfold runEnd
  rw [show n + ((s.data.toList.drop n).takeWhile p).length - n = ((s.data.toList.drop n).takeWhile p).length by omega]
  exact takeWhile_take _ _
theorem take_run1 (p : UInt8 → Bool) (s : ByteArray) (n : Nat) (hn : n < s.size) : s.extract n (runEnd p s (n + 1)) = B (s[n] :: (s.data.toList.drop (n + 1)).takeWhile p) := by
  apply B_eq
  rw [extract_list]
  unfold runEnd
  rw [show n + 1 + ((s.data.toList.drop (n + 1)).takeWhile p).length - n = ((s.data.toList.drop (n + 1)).takeWhile p).length + 1 by omega, drop_at s n hn, List.take_succ_cons]
  rw [takeWhile_take]
theorem one_l0 (s : ByteArray) (hz : s.size ≤ 140737488350000) (m : Nat) (hm : m < s.size) (r : Int × Bool) (hr : middenref05_number.f (B (s[m] :: (s.data.toList.drop (m + 1)).takeWhile digB)) = some r) : ∀ (d k n : Nat), m + 1 ≤ n → n + d = s.size → d + 1 ≤ k → runEnd digB s n = runEnd digB s (m + 1) →
    middenref05_one.l0 k s (m : Int) (n : Int) = some (if r.2 = true then (4, B [], r.1, (m : Int), ((runEnd digB s (m + 1) : Nat) : Int), 0) else (0, B [], 0, 0, 0, 22)) := by
  intro d
  induction d with
  | zero =>
    intro k n hmn hn hk he
    obtain ⟨k, rfl⟩ : ∃ m, k = m + 1 := ⟨k - 1, by omega⟩
    simp only [middenref05_one.l0]
    rw [runEnd_stop digB s n (by omega)] at he
    rw [if_neg (by omega), if_pos (by omega), if_pos (by omega), if_pos (by omega), Int.toNat_natCast, Int.toNat_natCast, he, take_run1 digB s m hm, hr]
    simp only [Option.bind_some]
    split <;> rfl
  | succ d ih =>
    intro k n hmn hn hk he
    obtain ⟨k, rfl⟩ : ∃ m, k = m + 1 := ⟨k - 1, by omega⟩
    have hlt : n < s.size := by omega
    have hget : (s.data.toList[n]'(by simpa using hlt)) = s[n] := by simp [ByteArray.getElem_eq_getElem_data]
    have hstep := runEnd_step digB s n hlt
    rw [hget] at hstep
    simp only [middenref05_one.l0]
    rw [if_pos (show (n : Int) < (s.size : Int) by omega), if_pos (show (0 : Int) ≤ (n : Int) by omega), bt_at' s n hlt, rdigit_f, wrap_one n (by omega)]
    simp only [Option.bind_some]
    by_cases hd : digB s[n] = true
    · rw [if_pos hd] at hstep ⊢
      exact ih k (n + 1) (by omega) (by omega) (by omega) (hstep.symm.trans he)
    · rw [if_neg hd] at hstep ⊢
      rw [hstep] at he
      rw [if_pos (by omega), if_pos (by omega), if_pos (by omega), Int.toNat_natCast, Int.toNat_natCast, he, take_run1 digB s m hm, hr]
      simp only [Option.bind_some]
      split <;> rfl
theorem one_f (s : ByteArray) (hz : s.size ≤ 140737488350000) (k n : Nat) (hn : n < s.size) (hk : s.size + 8 ≤ k) : middenref05_one.f k s (n : Int) = some (oneOut (tokL (s.data.toList.drop n)) n) := by
  have hd := drop_at s n hn
  have er0 : runEnd insB s n = n + ((s[n] :: s.data.toList.drop (n + 1)).takeWhile insB).length := by unfold runEnd; rw [hd]
  have er1 : runEnd insB s (n + 1) = n + 1 + ((s.data.toList.drop (n + 1)).takeWhile insB).length := rfl
  have ed1 : runEnd digB s (n + 1) = n + 1 + ((s.data.toList.drop (n + 1)).takeWhile digB).length := rfl
  have x0 := take_run insB s n
  have x1 := take_run1 insB s n hn
  have ge0 := runEnd_ge insB s n
  have le0 := runEnd_le insB s n (by omega)
  have ge1 := runEnd_ge insB s (n + 1)
  have le1 := runEnd_le insB s (n + 1) (by omega)
  have one1 : s.extract n (n + 1) = B [s[n]] := by
    apply B_eq
    rw [extract_list, hd]
    rw [show n + 1 - n = 1 by omega]
    rfl
  have hw := List.takeWhile_sublist digB (l := s.data.toList.drop (n + 1))
  have hwl : ((s.data.toList.drop (n + 1)).takeWhile digB).length ≤ 140737488351000 := by
    have := hw.length_le
    simp at this
    omega
  have l0 := fun r hr => one_l0 s hz n hn r hr (s.size - (n + 1)) (k - 4) (n + 1) (by omega) (by omega) (by omega) rfl
  obtain ⟨k, rfl⟩ : ∃ m, k = m + 5 := ⟨k - 5, by omega⟩
  rw [show k + 5 - 4 = k + 1 by omega] at l0
  rw [hd] at x0
  have start : middenref05_one.f (k + 5) s (n : Int) = middenref05_one.j0 (k + 5) s (n : Int) (s[n].toNat : Int) ((nx (s.data.toList.drop (n + 1))).toNat : Int) := by
    unfold middenref05_one.f
    rw [if_pos (by omega), if_pos (by omega), wrap_one n (by omega), bt_at' s n hn]
    by_cases h1 : n + 1 < s.size
    · rw [if_pos (by omega), if_pos (by omega), bt_at' s (n + 1) h1, drop_at s (n + 1) h1]
      rfl
    · rw [if_neg (by omega), List.drop_eq_nil_of_le (by simp; omega)]
      rfl
  rw [start, hd]
  generalize hl : s.data.toList.drop (n + 1) = l at *
  generalize hc : s[n] = c at *
  clear start hd hw
  rw [tokL]
  show middenref05_one.j0 (k + 4 + 1) _ _ _ _ = _
  simp only [middenref05_one.j0]
  rw [run_f s hz (k + 4) n (by omega) (by omega), rsmall_f]
  simp only [Option.bind_some, Int.toNat_natCast]
  rw [if_pos (show (0 : Int) ≤ (n : Int) by omega), if_pos (show (n : Int) ≤ ((runEnd insB s n : Nat) : Int) by omega), if_pos (show ((runEnd insB s n : Nat) : Int) ≤ (s.size : Int) by omega), x0, rreserved_f, B_list]
  simp only [Option.bind_some]
  by_cases hs : smallB c = true
  · have hi := ins_of_small hs
    rw [List.takeWhile_cons, if_pos hi] at x0 er0 ⊢
    rw [if_pos hs, if_pos hs]
    show middenref05_one.j1 (k + 3 + 1) _ _ _ _ _ _ = _
    simp only [middenref05_one.j1, Int.toNat_natCast]
    rw [if_pos (show (0 : Int) ≤ (n : Int) by omega), if_pos (show (n : Int) ≤ ((runEnd insB s n : Nat) : Int) by omega), if_pos (show ((runEnd insB s n : Nat) : Int) ≤ (s.size : Int) by omega), x0]
    by_cases hr : reservedL (c :: l.takeWhile insB) = true
    · rw [if_pos hr, if_pos hr, er0]; rfl
    · rw [if_neg hr, if_neg hr, rsmall_f]
      simp only [Option.bind_some]
      rw [if_pos hs, if_pos (show (0 : Int) ≤ (n : Int) by omega), if_pos (show (n : Int) ≤ ((runEnd insB s n : Nat) : Int) by omega), if_pos (show ((runEnd insB s n : Nat) : Int) ≤ (s.size : Int) by omega), er0]; rfl
  · rw [if_neg hs, if_neg hs]
    show middenref05_one.j1 (k + 3 + 1) _ _ _ _ _ _ = _
    simp only [middenref05_one.j1, Int.toNat_natCast]
    rw [if_neg Bool.false_ne_true, rsmall_f]
    simp only [Option.bind_some]
    rw [if_neg hs, rlarge_f]
    simp only [Option.bind_some]
    by_cases hL : largeB c = true
    · have hi := ins_of_large hL
      rw [List.takeWhile_cons, if_pos hi] at x0 er0
      rw [if_pos hL, if_pos hL, if_pos (show (0 : Int) ≤ (n : Int) by omega), if_pos (show (n : Int) ≤ ((runEnd insB s n : Nat) : Int) by omega), if_pos (show ((runEnd insB s n : Nat) : Int) ≤ (s.size : Int) by omega), x0, er0]
      rfl
    · rw [if_neg hL, if_neg hL]
      have rest : ∀ x : Bool, (c == 35 && smallB (nx l)) = x → middenref05_one.j2 (k + 3) s (n : Int) (c.toNat : Int) ((nx l).toNat : Int) x = some (oneOut (if (c == 35 && smallB (nx l)) = true then ⟨3, c :: l.takeWhile insB, 0, c :: l.takeWhile insB, 0⟩
          else if (digB c || c == 45 && digB (nx l)) = true then
          (if (if (c == 45) = true then numOf true (digVal (l.takeWhile digB)) else numOf false (digVal (c :: l.takeWhile digB))).2 = true
            then ⟨4, [], (if (c == 45) = true then numOf true (digVal (l.takeWhile digB)) else numOf false (digVal (c :: l.takeWhile digB))).1, c :: l.takeWhile digB, 0⟩ else ⟨0, [], 0, c :: l.takeWhile digB, 22⟩)
          else if (c == 45 && nx l == 62) = true then ⟨5, [45, 62], 0, [45, 62], 0⟩
          else if (c != 45 && signL [c]) = true then ⟨5, [c], 0, [c], 0⟩
          else ⟨0, [], 0, [], 20⟩) n) := by
        intro x hx
        rw [hx]
        show middenref05_one.j2 (k + 2 + 1) _ _ _ _ _ = _
        simp only [middenref05_one.j2]
        cases x with
        | true =>
          rw [if_pos rfl, if_pos rfl, wrap_one n (by omega), run_f s hz (k + 2) (n + 1) (by omega) (by omega)]
          simp only [Option.bind_some, Int.toNat_natCast]
          rw [if_pos (show (0 : Int) ≤ (n : Int) by omega), if_pos (show (n : Int) ≤ ((runEnd insB s (n + 1) : Nat) : Int) by omega), if_pos (show ((runEnd insB s (n + 1) : Nat) : Int) ≤ (s.size : Int) by omega), x1, er1]
          have : n + 1 + (l.takeWhile insB).length = n + (c :: l.takeWhile insB).length := by simp; omega
          rw [this]
          rfl
        | false =>
          rw [if_neg Bool.false_ne_true, if_neg Bool.false_ne_true]
          have j3 : ∀ y : Bool, (digB c || c == 45 && digB (nx l)) = y → middenref05_one.j3 (k + 2) s (n : Int) (c.toNat : Int) ((nx l).toNat : Int) y = some (oneOut (if (digB c || c == 45 && digB (nx l)) = true then
              (if (if (c == 45) = true then numOf true (digVal (l.takeWhile digB)) else numOf false (digVal (c :: l.takeWhile digB))).2 = true
                then ⟨4, [], (if (c == 45) = true then numOf true (digVal (l.takeWhile digB)) else numOf false (digVal (c :: l.takeWhile digB))).1, c :: l.takeWhile digB, 0⟩ else ⟨0, [], 0, c :: l.takeWhile digB, 22⟩)
              else if (c == 45 && nx l == 62) = true then ⟨5, [45, 62], 0, [45, 62], 0⟩
              else if (c != 45 && signL [c]) = true then ⟨5, [c], 0, [c], 0⟩
              else ⟨0, [], 0, [], 20⟩) n) := by
            intro y hy
            rw [hy]
            show middenref05_one.j3 (k + 1 + 1) _ _ _ _ _ = _
            simp only [middenref05_one.j3]
            cases y with
            | true =>
              rw [if_pos rfl, if_pos rfl, wrap_one n (by omega)]
              have hend : n + 1 + (l.takeWhile digB).length = n + (c :: l.takeWhile digB).length := by simp; omega
              rw [ed1, hend] at l0
              by_cases h45 : c = 45
              · subst h45
                rw [l0 _ (number_dash _ hwl (takeWhile_all _ _))]
                simp only [beq_self_eq_true, if_true]
                split <;> rfl
              · have hdc : digB c = true := by
                  have : (c == 45) = false := by simpa using h45
                  simpa [this] using hy
                have h45' : (c == 45) = false := by simpa using h45
                rw [l0 _ (number_dig' _ _ hwl hdc (takeWhile_all _ _))]
                simp only [h45', Bool.false_eq_true, if_false]
                split <;> rfl
            | false =>
              rw [if_neg Bool.false_ne_true, if_neg Bool.false_ne_true]
              have j5 : ∀ z : Bool, (c == 45 && nx l == 62) = z → middenref05_one.j5 (k + 1) s (n : Int) z = some (oneOut (if (c == 45 && nx l == 62) = true then ⟨5, [45, 62], 0, [45, 62], 0⟩
                  else if (c != 45 && signL [c]) = true then ⟨5, [c], 0, [c], 0⟩
                  else ⟨0, [], 0, [], 20⟩) n) := by
                intro z hz2
                rw [hz2]
                simp only [middenref05_one.j5]
                cases z with
                | true =>
                  have e2 : wrap64 ((n : Int) + 2) = ((n + 2 : Nat) : Int) := wrap_nat n 2 (by omega)
                  rw [if_pos rfl, if_pos rfl, e2]
                  rfl
                | false =>
                  rw [if_neg Bool.false_ne_true, if_neg Bool.false_ne_true, wrap_one n (by omega), if_pos (by omega), if_pos (by omega), if_pos (by omega), Int.toNat_natCast, Int.toNat_natCast, one1, rsign_f, B_list]
                  simp only [Option.bind_some]
                  by_cases h45 : c = 45
                  · subst h45
                    rfl
                  · have h45' : (c != 45) = true := by simpa using h45
                    simp only [h45', Bool.true_and]
                    split <;> rfl
              by_cases h45 : c = 45
              · subst h45
                rw [if_pos ((eq45 45).2 rfl)]
                refine j5 _ ?_
                simp only [beq_self_eq_true, Bool.true_and]
                rw [Bool.eq_iff_iff]
                simp only [beq_iff_eq]
                exact (eq62 (nx l)).symm
              · rw [if_neg (fun e => h45 ((eq45 c).1 e))]
                refine j5 _ ?_
                simp [h45]
          rw [rdigit_f]
          simp only [Option.bind_some]
          by_cases hdc : digB c = true
          · rw [if_pos hdc]
            exact j3 true (by simp [hdc])
          · rw [if_neg hdc]
            have hdc' : digB c = false := by simpa using hdc
            by_cases h45 : c = 45
            · subst h45
              rw [if_pos ((eq45 45).2 rfl), rdigit_f]
              exact j3 _ (by simp [hdc'])
            · rw [if_neg (fun e => h45 ((eq45 c).1 e))]
              exact j3 _ (by simp [hdc', h45])
      by_cases h35 : c = 35
      · subst h35
        rw [if_pos ((eq35 35).2 rfl), rsmall_f]
        refine rest _ ?_
        simp
      · rw [if_neg (fun e => h35 ((eq35 c).1 e))]
        refine rest _ ?_
        simp [h35]
theorem take_pre (p : UInt8 → Bool) (l : List UInt8) : ∃ r, l = l.takeWhile p ++ r := ⟨l.dropWhile p, List.takeWhile_append_dropWhile.symm⟩
theorem tok_pre (l : List UInt8) (h : (tokL l).err = 0) : ∃ r, l = (tokL l).used ++ r := by
  cases l with
  | nil => exact ⟨[], rfl⟩
  | cons c l =>
    obtain ⟨r1, h1⟩ := take_pre insB l
    obtain ⟨r2, h2⟩ := take_pre digB l
    revert h
    rw [tokL]
    by_cases hs : smallB c = true
    · rw [if_pos hs]; intro _; exact ⟨r1, by simp [← h1]⟩
    · rw [if_neg hs]
      by_cases hL : largeB c = true
      · rw [if_pos hL]; intro _; exact ⟨r1, by simp [← h1]⟩
      · rw [if_neg hL]
        by_cases h35 : (c == 35 && smallB (nx l)) = true
        · rw [if_pos h35]; intro _; exact ⟨r1, by simp [← h1]⟩
        · rw [if_neg h35]
          by_cases hd : (digB c || c == 45 && digB (nx l)) = true
          · rw [if_pos hd]
            generalize (if (c == 45) = true then numOf true (digVal (l.takeWhile digB)) else numOf false (digVal (c :: l.takeWhile digB))) = r
            by_cases hr : r.2 = true
            · rw [if_pos hr]; intro _; exact ⟨r2, by simp [← h2]⟩
            · rw [if_neg hr]; intro h; exact absurd h (by show ¬ (22 : Int) = 0; decide)
          · rw [if_neg hd]
            by_cases h45 : (c == 45 && nx l == 62) = true
            · rw [if_pos h45]
              intro _
              simp only [Bool.and_eq_true, beq_iff_eq] at h45
              obtain ⟨rfl, h62⟩ := h45
              cases l with
              | nil => simp [nx] at h62
              | cons d l => rw [nx_cons] at h62; subst h62; exact ⟨l, rfl⟩
            · rw [if_neg h45]
              split
              · intro _; exact ⟨l, rfl⟩
              · intro h; exact absurd h (by decide)
theorem tok_whole (l : List UInt8) (h : (tokL l).err = 0) : (tokL l).used = l ↔ (tokL l).used.length = l.length := by
  obtain ⟨r, hr⟩ := tok_pre l h
  constructor
  · intro e; rw [e]
  · intro e
    have h2 := congrArg List.length hr
    rw [List.length_append, e] at h2
    have h0 : r = [] := List.length_eq_zero_iff.1 (by omega)
    rw [h0, List.append_nil] at hr
    exact hr.symm
end Go.Proofs.Ytjmcoekdgiomiaa.Fke
