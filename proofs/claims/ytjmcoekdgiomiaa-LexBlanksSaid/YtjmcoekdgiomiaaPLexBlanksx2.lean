-- laid by a program of this seat, on the kit's print, over contracts written by hand
import Derived.Test.YtjmcoekdgiomiaaPLexBlanksx0
import Derived.Test.YtjmcoekdgiomiaaPLexBlanksx1
namespace Go.Proofs.Ytjmcoekdgiomiaa.PLexBlanks
open Go.RowKit Go.Proofs.YtjmcoekdgiomiaaW.PrintWords Go.Proofs.YtjmcoekdgiomiaaW.PrintLast Go.Proofs.YtjmcoekdgiomiaaW.PrintMore
attribute [local go_sem] max2_int min2_int max_two min_two max_three min_three max_four min_four   -- for this text's walks alone
set_option linter.unusedVariables false
set_option linter.unusedSimpArgs false

/-! ### lex_sign: function 36 -/
def lex_sign.f (a0 : ByteArray) : Option (Bool) := if a0.toList = ([45, 62] : List UInt8) then (some true) else (if a0.toList = ([61] : List UInt8) then (some true) else (if a0.toList = ([92] : List UInt8) then (some true) else (if a0.toList = ([123] : List UInt8) then (some true) else (if a0.toList = ([125] : List UInt8) then (some true) else (if a0.toList = ([59] : List UInt8) then (some true) else (if a0.toList = ([40] : List UInt8) then (some true) else (if a0.toList = ([41] : List UInt8) then (some true) else (some false))))))))
set_option maxHeartbeats 8000000 in
set_option maxRecDepth 100000 in
theorem lex_sign.calls (a0 : ByteArray) (r : Bool) (w : World) (h : lex_sign.f a0 = some r) :
    Calls Try.prog 36 #[.string a0] w fun e w' => e = .returned (.bool r) ∧ Drawn0 w w' := by
  have H : (if a0.toList = ([45, 62] : List UInt8) then (some true) else (if a0.toList = ([61] : List UInt8) then (some true) else (if a0.toList = ([92] : List UInt8) then (some true) else (if a0.toList = ([123] : List UInt8) then (some true) else (if a0.toList = ([125] : List UInt8) then (some true) else (if a0.toList = ([59] : List UInt8) then (some true) else (if a0.toList = ([40] : List UInt8) then (some true) else (if a0.toList = ([41] : List UInt8) then (some true) else (some false))))))))) = some r := h
  clear h
  by_cases c2 : a0.toList = ([45, 62] : List UInt8)
  · rw [if_pos c2] at H
    have c2b0 : (a0.toList == ([45, 62] : List UInt8)) = true := beq_iff_eq.mpr c2
    have c2b1 : (a0.toList != ([45, 62] : List UInt8)) = false := bne_eq_false_iff_eq.mpr c2
    clear c2
    obtain rfl := Option.some.inj H
    go_enter Try.func36, Try.ntmps36
    go_wp2
    go_ret
    exact ⟨by first | rfl | (simp; done) | (simp [*]; done), by repeat (first | exact Drawn0.refl _ | apply Drawn0.step)⟩
  · rw [if_neg c2] at H
    have c2b0 : (a0.toList == ([45, 62] : List UInt8)) = false := beq_eq_false_iff_ne.mpr c2
    have c2b1 : (a0.toList != ([45, 62] : List UInt8)) = true := bne_iff_ne.mpr c2
    by_cases c3 : a0.toList = ([61] : List UInt8)
    · rw [if_pos c3] at H
      have c3b0 : (a0.toList == ([61] : List UInt8)) = true := beq_iff_eq.mpr c3
      have c3b1 : (a0.toList != ([61] : List UInt8)) = false := bne_eq_false_iff_eq.mpr c3
      clear c3
      obtain rfl := Option.some.inj H
      go_enter Try.func36, Try.ntmps36
      go_wp2
      go_ret
      exact ⟨by first | rfl | (simp; done) | (simp [*]; done), by repeat (first | exact Drawn0.refl _ | apply Drawn0.step)⟩
    · rw [if_neg c3] at H
      have c3b0 : (a0.toList == ([61] : List UInt8)) = false := beq_eq_false_iff_ne.mpr c3
      have c3b1 : (a0.toList != ([61] : List UInt8)) = true := bne_iff_ne.mpr c3
      by_cases c4 : a0.toList = ([92] : List UInt8)
      · rw [if_pos c4] at H
        have c4b0 : (a0.toList == ([92] : List UInt8)) = true := beq_iff_eq.mpr c4
        have c4b1 : (a0.toList != ([92] : List UInt8)) = false := bne_eq_false_iff_eq.mpr c4
        clear c4
        obtain rfl := Option.some.inj H
        go_enter Try.func36, Try.ntmps36
        go_wp2
        go_ret
        exact ⟨by first | rfl | (simp; done) | (simp [*]; done), by repeat (first | exact Drawn0.refl _ | apply Drawn0.step)⟩
      · rw [if_neg c4] at H
        have c4b0 : (a0.toList == ([92] : List UInt8)) = false := beq_eq_false_iff_ne.mpr c4
        have c4b1 : (a0.toList != ([92] : List UInt8)) = true := bne_iff_ne.mpr c4
        by_cases c5 : a0.toList = ([123] : List UInt8)
        · rw [if_pos c5] at H
          have c5b0 : (a0.toList == ([123] : List UInt8)) = true := beq_iff_eq.mpr c5
          have c5b1 : (a0.toList != ([123] : List UInt8)) = false := bne_eq_false_iff_eq.mpr c5
          clear c5
          obtain rfl := Option.some.inj H
          go_enter Try.func36, Try.ntmps36
          go_wp2
          go_ret
          exact ⟨by first | rfl | (simp; done) | (simp [*]; done), by repeat (first | exact Drawn0.refl _ | apply Drawn0.step)⟩
        · rw [if_neg c5] at H
          have c5b0 : (a0.toList == ([123] : List UInt8)) = false := beq_eq_false_iff_ne.mpr c5
          have c5b1 : (a0.toList != ([123] : List UInt8)) = true := bne_iff_ne.mpr c5
          by_cases c6 : a0.toList = ([125] : List UInt8)
          · rw [if_pos c6] at H
            have c6b0 : (a0.toList == ([125] : List UInt8)) = true := beq_iff_eq.mpr c6
            have c6b1 : (a0.toList != ([125] : List UInt8)) = false := bne_eq_false_iff_eq.mpr c6
            clear c6
            obtain rfl := Option.some.inj H
            go_enter Try.func36, Try.ntmps36
            go_wp2
            go_ret
            exact ⟨by first | rfl | (simp; done) | (simp [*]; done), by repeat (first | exact Drawn0.refl _ | apply Drawn0.step)⟩
          · rw [if_neg c6] at H
            have c6b0 : (a0.toList == ([125] : List UInt8)) = false := beq_eq_false_iff_ne.mpr c6
            have c6b1 : (a0.toList != ([125] : List UInt8)) = true := bne_iff_ne.mpr c6
            by_cases c7 : a0.toList = ([59] : List UInt8)
            · rw [if_pos c7] at H
              have c7b0 : (a0.toList == ([59] : List UInt8)) = true := beq_iff_eq.mpr c7
              have c7b1 : (a0.toList != ([59] : List UInt8)) = false := bne_eq_false_iff_eq.mpr c7
              clear c7
              obtain rfl := Option.some.inj H
              go_enter Try.func36, Try.ntmps36
              go_wp2
              go_ret
              exact ⟨by first | rfl | (simp; done) | (simp [*]; done), by repeat (first | exact Drawn0.refl _ | apply Drawn0.step)⟩
            · rw [if_neg c7] at H
              have c7b0 : (a0.toList == ([59] : List UInt8)) = false := beq_eq_false_iff_ne.mpr c7
              have c7b1 : (a0.toList != ([59] : List UInt8)) = true := bne_iff_ne.mpr c7
              by_cases c8 : a0.toList = ([40] : List UInt8)
              · rw [if_pos c8] at H
                have c8b0 : (a0.toList == ([40] : List UInt8)) = true := beq_iff_eq.mpr c8
                have c8b1 : (a0.toList != ([40] : List UInt8)) = false := bne_eq_false_iff_eq.mpr c8
                clear c8
                obtain rfl := Option.some.inj H
                go_enter Try.func36, Try.ntmps36
                go_wp2
                go_ret
                exact ⟨by first | rfl | (simp; done) | (simp [*]; done), by repeat (first | exact Drawn0.refl _ | apply Drawn0.step)⟩
              · rw [if_neg c8] at H
                have c8b0 : (a0.toList == ([40] : List UInt8)) = false := beq_eq_false_iff_ne.mpr c8
                have c8b1 : (a0.toList != ([40] : List UInt8)) = true := bne_iff_ne.mpr c8
                by_cases c9 : a0.toList = ([41] : List UInt8)
                · rw [if_pos c9] at H
                  have c9b0 : (a0.toList == ([41] : List UInt8)) = true := beq_iff_eq.mpr c9
                  have c9b1 : (a0.toList != ([41] : List UInt8)) = false := bne_eq_false_iff_eq.mpr c9
                  clear c9
                  obtain rfl := Option.some.inj H
                  go_enter Try.func36, Try.ntmps36
                  go_wp2
                  go_ret
                  exact ⟨by first | rfl | (simp; done) | (simp [*]; done), by repeat (first | exact Drawn0.refl _ | apply Drawn0.step)⟩
                · rw [if_neg c9] at H
                  have c9b0 : (a0.toList == ([41] : List UInt8)) = false := beq_eq_false_iff_ne.mpr c9
                  have c9b1 : (a0.toList != ([41] : List UInt8)) = true := bne_iff_ne.mpr c9
                  obtain rfl := Option.some.inj H
                  go_enter Try.func36, Try.ntmps36
                  go_wp2
                  go_ret
                  exact ⟨by first | rfl | (simp; done) | (simp [*]; done), by repeat (first | exact Drawn0.refl _ | apply Drawn0.step)⟩

/-! ### lex_reader_run at lex_inside and at lex_digit: function 30; by hand -/
/-- The place behind the run from a place. -/
def runEnd (p : UInt8 → Bool) (s : ByteArray) (n : Nat) : Nat := n + ((s.data.toList.drop n).takeWhile p).length
def runF (p : UInt8 → Bool) (s0_0 : ByteArray) (s0_1 : Int) (a1 : Int) : Option (ByteArray × ByteArray × Int) :=
  if 0 ≤ s0_1 ∧ 0 ≤ a1 ∧ s0_1 + a1 ≤ (s0_0.size : Int) ∧ s0_0.size ≤ 140737488351232 then some (s0_0.extract s0_1.toNat (runEnd p s0_0 (s0_1 + a1).toNat), s0_0, s0_1) else none
def lex_reader_run31.f (s0_0 : ByteArray) (s0_1 : Int) (a1 : Int) : Option (ByteArray × ByteArray × Int) := runF insB s0_0 s0_1 a1
def lex_reader_run34.f (s0_0 : ByteArray) (s0_1 : Int) (a1 : Int) : Option (ByteArray × ByteArray × Int) := runF digB s0_0 s0_1 a1
theorem bt_get (s : ByteArray) (n : Nat) (h : n < s.size) : bt s (n : Int) = ((s.data.toList[n]'(by simpa using h)).toNat : Int) := by
  unfold bt
  simp [h, ByteArray.getElem_eq_getElem_data]
theorem dig_f (c : UInt8) : lex_digit.f (c.toNat : Int) = some (digB c) := by
  unfold lex_digit.f digB
  by_cases h : (c.toNat : Int) ≥ 48
  · rw [if_pos h, Option.some.injEq, Bool.eq_iff_iff]
    simp [UInt8.le_iff_toNat_le]
    omega
  · rw [if_neg h, Option.some.injEq, Bool.eq_iff_iff]
    simp [UInt8.le_iff_toNat_le]
    omega
theorem ins_f (c : UInt8) : lex_inside.f (c.toNat : Int) = some (insB c) := by
  have hd := dig_f c
  unfold lex_inside.f
  rw [hd]
  have hs : lex_small.f (c.toNat : Int) = some (97 ≤ c && c ≤ 122) := by
    unfold lex_small.f
    by_cases h : (c.toNat : Int) ≥ 97
    · rw [if_pos h, Option.some.injEq, Bool.eq_iff_iff]; simp [UInt8.le_iff_toNat_le]; omega
    · rw [if_neg h, Option.some.injEq, Bool.eq_iff_iff]; simp [UInt8.le_iff_toNat_le]; omega
  have hl : lex_large.f (c.toNat : Int) = some (65 ≤ c && c ≤ 90) := by
    unfold lex_large.f
    by_cases h : (c.toNat : Int) ≥ 65
    · rw [if_pos h, Option.some.injEq, Bool.eq_iff_iff]; simp [UInt8.le_iff_toNat_le]; omega
    · rw [if_neg h, Option.some.injEq, Bool.eq_iff_iff]; simp [UInt8.le_iff_toNat_le]; omega
  have he : ((c.toNat : Int) == 95) = (c == 95) := by
    rw [Bool.eq_iff_iff]
    simp only [beq_iff_eq]
    constructor
    · intro h; apply UInt8.toNat_inj.1; show c.toNat = 95; omega
    · rintro rfl; rfl
  simp only [Option.bind_some]
  rw [hs, hl, he]
  unfold insB
  simp only [Option.bind_some]
  cases h1 : digB c
  · unfold digB at h1
    rw [h1]
    cases h2 : (decide (97 ≤ c) && decide (c ≤ 122)) <;> cases h3 : (decide (65 ≤ c) && decide (c ≤ 90)) <;> simp
  · unfold digB at h1
    rw [h1]
    simp
theorem runEnd_stop (p : UInt8 → Bool) (s : ByteArray) (n : Nat) (h : s.size ≤ n) : runEnd p s n = n := by
  unfold runEnd
  rw [List.drop_eq_nil_of_le (by simpa using h)]
  rfl
theorem runEnd_step (p : UInt8 → Bool) (s : ByteArray) (n : Nat) (h : n < s.size) : runEnd p s n = if p (s.data.toList[n]'(by simpa using h)) then runEnd p s (n + 1) else n := by
  unfold runEnd
  rw [List.drop_eq_getElem_cons (by simpa using h), List.takeWhile_cons]
  split
  · simp; omega
  · simp
theorem runEnd_ge (p : UInt8 → Bool) (s : ByteArray) (n : Nat) : n ≤ runEnd p s n := Nat.le_add_right _ _
theorem runEnd_le (p : UInt8 → Bool) (s : ByteArray) (n : Nat) (h : n ≤ s.size) : runEnd p s n ≤ s.size := by
  unfold runEnd
  have h1 := (List.takeWhile_sublist p (l := s.data.toList.drop n)).length_le
  simp at h1
  omega
set_option maxHeartbeats 1000000 in
set_option maxRecDepth 100000 in
theorem lex_reader_run31.calls (g : Nat) (s0_0 : ByteArray) (s0_1 : Int) (a1 : Int) (r1 : ByteArray) (r2 : ByteArray) (r3 : Int) (w0 w : World) (hI : IsS44 w0 w g s0_0 s0_1) (hB : Below w0.heap.size w0 w) (h : lex_reader_run31.f s0_0 s0_1 a1 = some (r1, r2, r3)) :
    Calls Try.prog 30 #[.pointer (some ⟨g, 0, none⟩), .int .i64 a1, .func (.func 31) #[] #[]] w fun e w' => e = .returned (.string r1) ∧ IsS44 w0 w' g r2 r3 ∧ Below w0.heap.size w0 w' ∧ KeepBut w w' g none := by
  unfold lex_reader_run31.f runF at h
  split at h
  case isFalse => cases h
  rename_i hc
  obtain ⟨h0, h1, h2, h3⟩ := hc
  simp only [Option.some.injEq, Prod.mk.injEq] at h
  obtain ⟨rfl, rfl, rfl⟩ := h
  obtain ⟨at_, rfl⟩ := Int.eq_ofNat_of_zero_le h0
  obtain ⟨fr, rfl⟩ := Int.eq_ofNat_of_zero_le h1
  have hsz : at_ + fr ≤ s0_0.size := by omega
  have hz : s0_0.size ≤ 9223372036854775807 := by omega
  rw [show ((at_ : Int) + (fr : Int)).toNat = at_ + fr by omega, Int.toNat_natCast]
  have HI := Lib.hid hI
  have HB := Lib.hid hB
  obtain ⟨HG, hg⟩ := hI
  have c0 := cellS44_0 HG
  have c1 := cellS44_1 HG
  have f0 := blk_frozen HG 0
  have f1 := blk_frozen HG 1
  have ge := runEnd_ge insB s0_0 (at_ + fr)
  have le := runEnd_le insB s0_0 (at_ + fr) hsz
  clear HG hg hB h0 h1 h2
  go_enter Try.func30, Try.ntmps30
  go_wp2_with fail
  go_loopw [7] (fun c wr => ∃ n : Nat, at_ + fr ≤ n ∧ n ≤ s0_0.size ∧ c = .int .i64 n ∧ Hid (runEnd insB s0_0 n = runEnd insB s0_0 (at_ + fr)) ∧ Hid (Drawn0 w wr)) (fun c _ => s0_0.size - (intOf c).toNat)
  case atStart => exact ⟨at_ + fr, Nat.le_refl _, hsz, by simp, Lib.hid rfl, Drawn0.refl _⟩
  case round =>
    obtain ⟨n, hn1, hn2, rfl, HE, HD⟩ := hrel
    obtain ⟨⟨m, rfl⟩⟩ := HD.out
    by_cases hlt : n < s0_0.size
    · have hstep := runEnd_step insB s0_0 n hlt
      have hget : ((s0_0.data.toList[n]'(by simpa using hlt))) = s0_0[n] := by simp [ByteArray.getElem_eq_getElem_data]
      rw [hget] at hstep
      have C := fun w => lex_inside.calls ((s0_0[n]).toNat : Int) (insB s0_0[n]) w (ins_f s0_0[n])
      have HC := Lib.hid C
      clear C hget
      cases hpx : insB s0_0[n] with
      | true =>
        rw [hpx] at HC hstep
        have HS := Lib.hid hstep
        clear hstep hpx
        go_wp2_with fail
        refine (HC.out _).mono ?_; rintro e w' ⟨rfl, ⟨m', rfl⟩⟩
        go_wp2_with fail
        go_roundw
        case rel => exact ⟨n + 1, by omega, by omega, by simp, Lib.hid (by rw [← HE.out, HS.out]; rfl), Lib.hid ⟨⟨_, rfl⟩⟩⟩
        case measure => simp [intOf]; omega
      | false =>
        rw [hpx] at HC hstep
        have HS := Lib.hid ((HE.out.symm.trans hstep).trans (if_neg (by decide)))
        clear hstep hpx
        go_wp2_with fail
        refine (HC.out _).mono ?_; rintro e w' ⟨rfl, ⟨m', rfl⟩⟩
        go_wp2_with fail
        have z1 : ((0 : Int) ≤ (at_ : Int)) = True := eq_true (by omega)
        have z2 : ((at_ : Int) ≤ (n : Int)) = True := eq_true (by omega)
        have z3 : ((n : Int) ≤ (s0_0.size : Int)) = True := eq_true (by omega)
        repeat (go_quiet (fail); try go_wp2)
        go_ret
        exact ⟨congrArg (fun z => Ending.returned (.string (s0_0.extract at_ z))) HS.out.symm, (HI.out.drewN _).drewN _, pw_below_drewN (pw_below_drewN HB.out _) _, keep_drewN (keep_drewN (KeepBut.refl _ _ _) _) _⟩
    · obtain rfl : n = s0_0.size := by omega
      go_wp2_with fail
      have z1 : ((0 : Int) ≤ (at_ : Int)) = True := eq_true (by omega)
      have z2 : ((at_ : Int) ≤ (s0_0.size : Int)) = True := eq_true (by omega)
      repeat (go_quiet (fail); try go_wp2)
      go_ret
      exact ⟨congrArg (fun z => Ending.returned (.string (s0_0.extract at_ z))) ((runEnd_stop insB s0_0 _ (Nat.le_refl _)).symm.trans HE.out), (HI.out.drewN _).drewN _, pw_below_drewN (pw_below_drewN HB.out _) _, keep_drewN (keep_drewN (KeepBut.refl _ _ _) _) _⟩
set_option maxHeartbeats 1000000 in
set_option maxRecDepth 100000 in
theorem lex_reader_run34.calls (g : Nat) (s0_0 : ByteArray) (s0_1 : Int) (a1 : Int) (r1 : ByteArray) (r2 : ByteArray) (r3 : Int) (w0 w : World) (hI : IsS44 w0 w g s0_0 s0_1) (hB : Below w0.heap.size w0 w) (h : lex_reader_run34.f s0_0 s0_1 a1 = some (r1, r2, r3)) :
    Calls Try.prog 30 #[.pointer (some ⟨g, 0, none⟩), .int .i64 a1, .func (.func 34) #[] #[]] w fun e w' => e = .returned (.string r1) ∧ IsS44 w0 w' g r2 r3 ∧ Below w0.heap.size w0 w' ∧ KeepBut w w' g none := by
  unfold lex_reader_run34.f runF at h
  split at h
  case isFalse => cases h
  rename_i hc
  obtain ⟨h0, h1, h2, h3⟩ := hc
  simp only [Option.some.injEq, Prod.mk.injEq] at h
  obtain ⟨rfl, rfl, rfl⟩ := h
  obtain ⟨at_, rfl⟩ := Int.eq_ofNat_of_zero_le h0
  obtain ⟨fr, rfl⟩ := Int.eq_ofNat_of_zero_le h1
  have hsz : at_ + fr ≤ s0_0.size := by omega
  have hz : s0_0.size ≤ 9223372036854775807 := by omega
  rw [show ((at_ : Int) + (fr : Int)).toNat = at_ + fr by omega, Int.toNat_natCast]
  have HI := Lib.hid hI
  have HB := Lib.hid hB
  obtain ⟨HG, hg⟩ := hI
  have c0 := cellS44_0 HG
  have c1 := cellS44_1 HG
  have f0 := blk_frozen HG 0
  have f1 := blk_frozen HG 1
  have ge := runEnd_ge digB s0_0 (at_ + fr)
  have le := runEnd_le digB s0_0 (at_ + fr) hsz
  clear HG hg hB h0 h1 h2
  go_enter Try.func30, Try.ntmps30
  go_wp2_with fail
  go_loopw [7] (fun c wr => ∃ n : Nat, at_ + fr ≤ n ∧ n ≤ s0_0.size ∧ c = .int .i64 n ∧ Hid (runEnd digB s0_0 n = runEnd digB s0_0 (at_ + fr)) ∧ Hid (Drawn0 w wr)) (fun c _ => s0_0.size - (intOf c).toNat)
  case atStart => exact ⟨at_ + fr, Nat.le_refl _, hsz, by simp, Lib.hid rfl, Drawn0.refl _⟩
  case round =>
    obtain ⟨n, hn1, hn2, rfl, HE, HD⟩ := hrel
    obtain ⟨⟨m, rfl⟩⟩ := HD.out
    by_cases hlt : n < s0_0.size
    · have hstep := runEnd_step digB s0_0 n hlt
      have hget : ((s0_0.data.toList[n]'(by simpa using hlt))) = s0_0[n] := by simp [ByteArray.getElem_eq_getElem_data]
      rw [hget] at hstep
      have C := fun w => lex_digit.calls ((s0_0[n]).toNat : Int) (digB s0_0[n]) w (dig_f s0_0[n])
      have HC := Lib.hid C
      clear C hget
      cases hpx : digB s0_0[n] with
      | true =>
        rw [hpx] at HC hstep
        have HS := Lib.hid hstep
        clear hstep hpx
        go_wp2_with fail
        refine (HC.out _).mono ?_; rintro e w' ⟨rfl, ⟨m', rfl⟩⟩
        go_wp2_with fail
        go_roundw
        case rel => exact ⟨n + 1, by omega, by omega, by simp, Lib.hid (by rw [← HE.out, HS.out]; rfl), Lib.hid ⟨⟨_, rfl⟩⟩⟩
        case measure => simp [intOf]; omega
      | false =>
        rw [hpx] at HC hstep
        have HS := Lib.hid ((HE.out.symm.trans hstep).trans (if_neg (by decide)))
        clear hstep hpx
        go_wp2_with fail
        refine (HC.out _).mono ?_; rintro e w' ⟨rfl, ⟨m', rfl⟩⟩
        go_wp2_with fail
        have z1 : ((0 : Int) ≤ (at_ : Int)) = True := eq_true (by omega)
        have z2 : ((at_ : Int) ≤ (n : Int)) = True := eq_true (by omega)
        have z3 : ((n : Int) ≤ (s0_0.size : Int)) = True := eq_true (by omega)
        repeat (go_quiet (fail); try go_wp2)
        go_ret
        exact ⟨congrArg (fun z => Ending.returned (.string (s0_0.extract at_ z))) HS.out.symm, (HI.out.drewN _).drewN _, pw_below_drewN (pw_below_drewN HB.out _) _, keep_drewN (keep_drewN (KeepBut.refl _ _ _) _) _⟩
    · obtain rfl : n = s0_0.size := by omega
      go_wp2_with fail
      have z1 : ((0 : Int) ≤ (at_ : Int)) = True := eq_true (by omega)
      have z2 : ((at_ : Int) ≤ (s0_0.size : Int)) = True := eq_true (by omega)
      repeat (go_quiet (fail); try go_wp2)
      go_ret
      exact ⟨congrArg (fun z => Ending.returned (.string (s0_0.extract at_ z))) ((runEnd_stop digB s0_0 _ (Nat.le_refl _)).symm.trans HE.out), (HI.out.drewN _).drewN _, pw_below_drewN (pw_below_drewN HB.out _) _, keep_drewN (keep_drewN (KeepBut.refl _ _ _) _) _⟩


end Go.Proofs.Ytjmcoekdgiomiaa.PLexBlanks
