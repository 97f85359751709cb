-- laid by a program of this seat, on the kit's print, over contracts written by hand
import Derived.Test.YtjmcoekdgiomiaaPLexBlanksx0
import Derived.Test.YtjmcoekdgiomiaaPLexBlanksx1
namespace Go.Proofs.Ytjmcoekdgiomiaa.PLexBlanks
open Go.RowKit Go.Proofs.YtjmcoekdgiomiaaW.PrintWords Go.Proofs.YtjmcoekdgiomiaaW.PrintLast Go.Proofs.YtjmcoekdgiomiaaW.PrintMore
attribute [local go_sem] max2_int min2_int max_two min_two max_three min_three max_four min_four   -- for this text's walks alone
set_option linter.unusedVariables false
set_option linter.unusedSimpArgs false

/-! ### middenref05_number: function 42; by hand -/
def middenref05_number.f (a0 : ByteArray) : Option (Int × Bool) := lex_number.f a0
theorem rnum_over (v d : Int) (h0 : 0 ≤ d) (h9 : d ≤ 9) (hv : 0 ≤ v) : (9223372036854775808 - d) / 10 < v ↔ ¬ 10 * v + d ≤ 9223372036854775808 := by omega
theorem rnum_next (v d : Int) (h0 : 0 ≤ d) (h9 : d ≤ 9) (hv : 0 ≤ v) (h : 10 * v + d ≤ 9223372036854775808) : IntKind.u64.wrap (IntKind.u64.wrap (v * 10) + d) = 10 * v + d := by
  rw [IntWalk.u64_in (v * 10) (by omega), IntWalk.u64_in _ (by omega)]
  omega
theorem rnum_end (v : Nat) (h : v ≤ 9223372036854775808) : (wrap64 (v : Int), decide ((v : Int) < 9223372036854775808)) = numOf false v := by
  unfold numOf
  rw [if_neg (by omega)]
  by_cases e : v = 9223372036854775808
  · have e2 : decide ((v : Int) < 9223372036854775808) = false := decide_eq_false (by omega)
    have e3 : wrap64 (v : Int) = -9223372036854775808 := by unfold wrap64; omega
    rw [e2, e3]
    simp [e]
  · have e2 : decide ((v : Int) < 9223372036854775808) = true := decide_eq_true (by omega)
    have e3 : wrap64 (v : Int) = v := by unfold wrap64; omega
    rw [e2, e3]
    simp [e]
theorem rnum_endm (v : Nat) (h : v ≤ 9223372036854775808) (hne : ¬ (v : Int) = 9223372036854775808) : (wrap64 (-wrap64 (v : Int)), true) = numOf true v := by
  unfold numOf
  rw [if_neg (by omega)]
  have e3 : wrap64 (v : Int) = v := by unfold wrap64; omega
  have e4 : wrap64 (-(v : Int)) = -v := by unfold wrap64; omega
  rw [e3, e4]
  rfl
set_option maxHeartbeats 1000000 in
set_option maxRecDepth 100000 in
theorem rnumber_plain (a0 : ByteArray) (w : World) (hs : 0 < a0.size) (hz : a0.size ≤ 140737488351232) (h0 : ¬ (a0[0].toNat : Int) = 45) (hd : a0.data.toList.all digB = true) :
    Calls Try.prog 42 #[.string a0] w fun e w' => e = .returned (.tuple #[.int .i64 (numOf false (digVal a0.data.toList)).1, .bool (numOf false (digVal a0.data.toList)).2]) ∧ Drawn0 w w' := by
  have e0 := beq_eq_false_iff_ne.2 h0
  have z0 : decide (0 < a0.size) = true := decide_eq_true hs
  obtain ⟨V, hV⟩ : ∃ V, V = digVal a0.data.toList := ⟨_, rfl⟩
  rw [← hV]
  have HV0 := Lib.hid hV
  have HD := Lib.hid hd
  clear h0 hd hV
  go_enter Try.func42, Try.ntmps42
  go_wp2_with fail
  go_loop [4, 6, 7] (fun i n c7 => ∃ k : Nat, 0 ≤ k ∧ k ≤ a0.size ∧ i = .int .i64 k ∧ n = .int .u64 (digVal (a0.data.toList.take (k - 0)) : Int) ∧ Hid (digVal (a0.data.toList.take (k - 0)) ≤ 9223372036854775808)) (fun i _ _ => a0.size - (intOf i).toNat)
  case atStart => exact ⟨0, Nat.le_refl _, by omega, rfl, by simp [digVal], Lib.hid (by simp [digVal])⟩
  case round =>
    obtain ⟨k, hk0, hk, rfl, rfl, HV⟩ := hrel
    by_cases hlt : k < a0.size
    · have dd : (48 ≤ (a0[k].toNat : Int) ∧ (a0[k].toNat : Int) ≤ 57) ∧ digVal (a0.data.toList.take (k + 1 - 0)) = 10 * digVal (a0.data.toList.take (k - 0)) + (a0[k].toNat - 48) := by
        exact ⟨number_dig a0 HD.out k hlt, digVal_succ a0 k hlt⟩
      obtain ⟨⟨d1, d2⟩, hs2⟩ := dd
      have HS := Lib.hid hs2
      have HT := Lib.hid (digVal_take a0.data.toList (k + 1 - 0))
      clear hs2
      generalize digVal (a0.data.toList.take (k - 0)) = v at HV HS ⊢
      go_wp2_with fail
      · rename_i h
        have hh : (9223372036854775808 - ((a0[k].toNat : Int) - 48)) / 10 < (v : Int) := by assumption
        rw [rnum_over _ _ (by omega) (by omega) (by omega)] at hh
        go_ret2
        have hb : 9223372036854775808 < V := by rw [HV0.out]; have := HS.out; have := HT.out; omega
        refine ⟨?_, Drawn0.refl _⟩
        unfold numOf
        rw [if_pos hb]
        rfl
      · rename_i h
        have hh : ¬ (9223372036854775808 - ((a0[k].toNat : Int) - 48)) / 10 < (v : Int) := by omega
        rw [rnum_over _ _ (by omega) (by omega) (by omega), Classical.not_not] at hh
        have hn : (v : Int) * 10 + ((a0[k].toNat : Int) - 48) = 10 * (v : Int) + ((a0[k].toNat : Int) - 48) := by omega
        refine ⟨⟨k + 1, by omega, by omega, by simp, ?_, Lib.hid ?_⟩, by simp [intOf]; omega⟩
        · rw [hn, HS.out]
          congr 2
          omega
        · rw [HS.out]; omega
    · obtain rfl : k = a0.size := by omega
      rw [show a0.data.toList.take (a0.size - 0) = a0.data.toList from List.take_of_length_le (by simp), ← HV0.out] at HV ⊢
      have hend := rnum_end V HV.out
      by_cases hm : (V : Int) < 9223372036854775808
      · have hm2 : decide ((V : Int) < 9223372036854775808) = true := decide_eq_true hm
        rw [hm2] at hend
        have HE := Lib.hid hend
        clear hm hend
        go_wp2_with fail
        go_ret2
        refine ⟨?_, Drawn0.refl _⟩
        exact congrArg (fun p : Int × Bool => Ending.returned (.tuple #[.int .i64 p.1, .bool p.2])) HE.out
      · have hm2 : decide ((V : Int) < 9223372036854775808) = false := decide_eq_false hm
        rw [hm2] at hend
        have HE := Lib.hid hend
        clear hm hend
        go_wp2_with fail
        go_ret2
        refine ⟨?_, Drawn0.refl _⟩
        exact congrArg (fun p : Int × Bool => Ending.returned (.tuple #[.int .i64 p.1, .bool p.2])) HE.out
set_option maxHeartbeats 1000000 in
set_option maxRecDepth 100000 in
theorem rnumber_minus (a0 : ByteArray) (w : World) (hs : 0 < a0.size) (hz : a0.size ≤ 140737488351232) (h0 :  (a0[0].toNat : Int) = 45) (hd : (a0.data.toList.drop 1).all digB = true) :
    Calls Try.prog 42 #[.string a0] w fun e w' => e = .returned (.tuple #[.int .i64 (numOf true (digVal (a0.data.toList.drop 1))).1, .bool (numOf true (digVal (a0.data.toList.drop 1))).2]) ∧ Drawn0 w w' := by
  have e0 := beq_iff_eq.2 h0
  have z0 : decide (0 < a0.size) = true := decide_eq_true hs
  obtain ⟨V, hV⟩ : ∃ V, V = digVal (a0.data.toList.drop 1) := ⟨_, rfl⟩
  rw [← hV]
  have HV0 := Lib.hid hV
  have HD := Lib.hid hd
  clear h0 hd hV
  go_enter Try.func42, Try.ntmps42
  go_wp2_with fail
  go_loop [4, 6, 7] (fun i n c7 => ∃ k : Nat, 1 ≤ k ∧ k ≤ a0.size ∧ i = .int .i64 k ∧ n = .int .u64 (digVal ((a0.data.toList.drop 1).take (k - 1)) : Int) ∧ Hid (digVal ((a0.data.toList.drop 1).take (k - 1)) ≤ 9223372036854775808)) (fun i _ _ => a0.size - (intOf i).toNat)
  case atStart => exact ⟨1, Nat.le_refl _, by omega, rfl, by simp [digVal], Lib.hid (by simp [digVal])⟩
  case round =>
    obtain ⟨k, hk0, hk, rfl, rfl, HV⟩ := hrel
    by_cases hlt : k < a0.size
    · have dd : (48 ≤ (a0[k].toNat : Int) ∧ (a0[k].toNat : Int) ≤ 57) ∧ digVal ((a0.data.toList.drop 1).take (k + 1 - 1)) = 10 * digVal ((a0.data.toList.drop 1).take (k - 1)) + (a0[k].toNat - 48) := by
        have hx : (a0.extract 1 a0.size).data.toList = a0.data.toList.drop 1 := by
          simp
          rw [List.take_of_length_le (by simp)]
        have hk2 : k - 1 < (a0.extract 1 a0.size).size := by simp; omega
        have e1 := number_dig (a0.extract 1 a0.size) (by rw [hx]; exact HD.out) (k - 1) hk2
        have e2 := digVal_succ (a0.extract 1 a0.size) (k - 1) hk2
        have e3 : (a0.extract 1 a0.size)[k - 1] = a0[k] := by
          rw [ByteArray.getElem_extract]
          congr 1
          omega
        rw [e3] at e1 e2
        rw [hx] at e2
        rw [show k + 1 - 1 = k - 1 + 1 by omega]
        exact ⟨e1, e2⟩
      obtain ⟨⟨d1, d2⟩, hs2⟩ := dd
      have HS := Lib.hid hs2
      have HT := Lib.hid (digVal_take (a0.data.toList.drop 1) (k + 1 - 1))
      clear hs2
      generalize digVal ((a0.data.toList.drop 1).take (k - 1)) = v at HV HS ⊢
      go_wp2_with fail
      · rename_i h
        have hh : (9223372036854775808 - ((a0[k].toNat : Int) - 48)) / 10 < (v : Int) := by assumption
        rw [rnum_over _ _ (by omega) (by omega) (by omega)] at hh
        go_ret2
        have hb : 9223372036854775808 < V := by rw [HV0.out]; have := HS.out; have := HT.out; omega
        refine ⟨?_, Drawn0.refl _⟩
        unfold numOf
        rw [if_pos hb]
        rfl
      · rename_i h
        have hh : ¬ (9223372036854775808 - ((a0[k].toNat : Int) - 48)) / 10 < (v : Int) := by omega
        rw [rnum_over _ _ (by omega) (by omega) (by omega), Classical.not_not] at hh
        have hn : (v : Int) * 10 + ((a0[k].toNat : Int) - 48) = 10 * (v : Int) + ((a0[k].toNat : Int) - 48) := by omega
        refine ⟨⟨k + 1, by omega, by omega, by simp, ?_, Lib.hid ?_⟩, by simp [intOf]; omega⟩
        · rw [hn, HS.out]
          congr 2
          omega
        · rw [HS.out]; omega
    · obtain rfl : k = a0.size := by omega
      rw [show (a0.data.toList.drop 1).take (a0.size - 1) = (a0.data.toList.drop 1) from List.take_of_length_le (by simp), ← HV0.out] at HV ⊢
      by_cases hm : (V : Int) = 9223372036854775808
      · have hm2 := beq_iff_eq.2 hm
        clear hm
        go_wp2_with fail
        go_ret2
        refine ⟨?_, Drawn0.refl _⟩
        have hm3 := beq_iff_eq.1 hm2
        have : V = 9223372036854775808 := by omega
        subst this
        rfl
      · have hm2 := beq_eq_false_iff_ne.2 hm
        go_wp2_with fail
        go_ret2
        refine ⟨?_, Drawn0.refl _⟩
        exact congrArg (fun p : Int × Bool => Ending.returned (.tuple #[.int .i64 p.1, .bool p.2])) (rnum_endm _ HV.out hm)
theorem middenref05_number.calls (a0 : ByteArray) (r1 : Int) (r2 : Bool) (w : World) (h : middenref05_number.f a0 = some (r1, r2)) :
    Calls Try.prog 42 #[.string a0] w fun e w' => e = .returned (.tuple #[.int .i64 r1, .bool r2]) ∧ Drawn0 w w' := by
  unfold middenref05_number.f lex_number.f at h
  split at h
  case isFalse => cases h
  rename_i hc
  obtain ⟨hs, hz⟩ := hc
  have hh : a0.data.toList.head? = some a0[0] := head_at0 a0 hs
  rw [hh] at h
  split at h
  · rename_i hm
    split at h
    case isFalse => cases h
    rename_i hd
    simp only [Option.some.injEq] at h
    have e : a0[0] = 45 := by simpa using hm
    have := rnumber_minus a0 w hs hz (by rw [e]; rfl) hd
    rw [h] at this
    exact this
  · rename_i hm
    split at h
    case isFalse => cases h
    rename_i hd
    simp only [Option.some.injEq] at h
    have := rnumber_plain a0 w hs hz (fun e => hm (by rw [Option.some.injEq, ← UInt8.toNat_inj]; show a0[0].toNat = 45; omega)) hd
    rw [h] at this
    exact this

end Go.Proofs.Ytjmcoekdgiomiaa.PLexBlanks
