/- Without a pool or an arena there is no space; a nil one has nothing: the law BumpNone. No condition. -/
import Derived.Test.YtladhenjoipfpaaAk
import Derived.Test.YtladhenjoipfpaaEp
set_option linter.unusedVariables false
set_option linter.unusedSimpArgs false
namespace Go.Proofs.Ytladhenjoipfpaa.LawNone
open Go.RowKit
open Pl Rn Ov Lf Wl Gp Ct Sn Gq Tf Mt Rr Kp Sc Nn Tk La Rp Rq Mb S2 Ak Ek
set_option maxRecDepth 100000 in
theorem lay_nil (w : World) (n : Int) : Calls Try.prog 10 #[.pointer none, .int .i64 n] w fun e w' => e = .returned (.tuple #[.int .i64 0, .int .i64 1]) ∧ w' = w := by
  go_enter Try.func10, Try.ntmps10
  go_wp2_with fail
  go_ret2
  exact ⟨rfl, rfl⟩
theorem has_nil (w : World) (n : Int) : Calls Try.prog 20 #[.pointer none, .int .i64 n] w fun e w' => e = .returned (.bool false) ∧ w' = w := by
  go_enter Try.func20, Try.ntmps20
  go_wp2_with fail
  go_ret
  exact ⟨rfl, rfl⟩
theorem free_nil (w : World) : Calls Try.prog 21 #[.pointer none] w fun e w' => e = .returned (.int .i64 1) ∧ w' = w := by
  go_enter Try.func21, Try.ntmps21
  go_wp2_with fail
  go_ret
  exact ⟨rfl, rfl⟩
theorem used_nil (w : World) : Calls Try.prog 12 #[.pointer none] w fun e w' => e = .returned (.int .i64 0) ∧ w' = w := by
  go_enter Try.func12, Try.ntmps12
  go_wp2_with fail
  go_ret
  exact ⟨rfl, rfl⟩
theorem blocks_nil (w : World) : Calls Try.prog 11 #[.pointer none] w fun e w' => e = .returned (.int .i64 0) ∧ w' = w := by
  go_enter Try.func11, Try.ntmps11
  go_wp2_with fail
  go_ret
  exact ⟨rfl, rfl⟩
theorem each_nil (w : World) : Calls Try.prog 19 #[.pointer none] w fun e w' => e = .returned (.func (.func 32) #[] #[.pointer (some ⟨w.heap.size, 0, none⟩), .pointer (some ⟨w.heap.size + 1, 0, none⟩)]) ∧ Below w.heap.size w w' ∧ Tr w' 0 w.heap.size (w.heap.size + 1) (.slice none 0 0) (.slice none 0 0) [] := by
  go_enter Try.func19, Try.ntmps19
  go_wp2_with fail
  go_ret
  exact ⟨rfl, Kit.allocB (Kit.allocB (Below.refl _ _) _) _, Kit.keep_alloc (Kit.new_blk w _) _, Kit.new_blk2 w _ _, ⟨rfl, .inl ⟨rfl, _, _, rfl⟩⟩, ⟨rfl, .inl ⟨rfl, _, _, rfl⟩⟩⟩
set_option maxRecDepth 100000 in
set_option maxHeartbeats 4000000 in
theorem law (w : World) (n : Int) : Calls Try.prog 5 #[.int .i64 n] w fun e w' => e = .returned (.bool true) ∧ Below w.heap.size w w' := by
  have NP := Lib.hid (new_it w 1 (by omega) (by omega))
  have AW := Lib.hid awake_it
  go_enter Try.func5, Try.ntmps5
  go_wp2_with fail
  refine NP.out.mono ?_
  rintro e w1 ⟨g, a, b, rfl, _, _, b1⟩
  have NA := Lib.hid (Ar.new_ok w1 1 (by omega) (by omega))
  have B1 := Lib.hid b1
  clear b1 NP
  go_wp2_with fail
  refine NA.out.mono ?_
  rintro e w2 ⟨ga, ar, rfl, _, _, _, b2⟩
  have B2 := Lib.hid (Kit.stepB B1.out b2)
  have N1 := Lib.hid (new_no w2 (.pointer none) (.pointer (some ⟨ga, 0, none⟩)) (.inl rfl))
  have N2 := Lib.hid (new_no w2 (.pointer (some ⟨g, 0, none⟩)) (.pointer none) (.inr ⟨⟨g, rfl⟩, rfl⟩))
  clear b2 NA B1
  go_wp2_with fail
  refine N1.out.mono ?_
  rintro e _ ⟨rfl, rfl⟩
  clear N1
  go_wp2_with fail
  refine N2.out.mono ?_
  rintro e w3 ⟨rfl, rfl⟩
  clear N2
  have L1 := Lib.hid (lay_nil w3 n)
  have E1 := Lib.hid (each_nil w3)
  have HH := Lib.hid has_nil
  have HF := Lib.hid free_nil
  have HU := Lib.hid used_nil
  have HBl := Lib.hid blocks_nil
  go_wp2_with fail
  refine L1.out.mono ?_
  rintro e _ ⟨rfl, rfl⟩
  clear L1
  go_wp2_with fail
  refine E1.out.mono ?_
  rintro e w4 ⟨rfl, b4, T4⟩
  have PI := Lib.hid (Ep.pairs_it w4 0 _ _ _ _ [] (by simp) T4)
  have B4 := Lib.hid (Kit.stepB B2.out b4)
  clear b4 T4 E1 B2
  go_wp2_with fail
  refine PI.out.mono ?_
  rintro e w5 ⟨v2, u2, rfl, b5, o1, o2, _⟩
  obtain ⟨p1, c1, rfl⟩ : ∃ p c, v2 = .slice p 0 c := by
    rcases o1.2 with ⟨rfl, _⟩ | ⟨g, cap, cur, rfl, _⟩
    · exact ⟨_, _, rfl⟩
    · exact ⟨_, _, rfl⟩
  have B5 := Lib.hid (Kit.stepB B4.out b5)
  clear o1 o2 b5 PI B4
  go_wp2_with fail
  refine (AW.out _).mono ?_
  rintro e w6 ⟨rfl, b6⟩
  have B6 := Lib.hid (Kit.stepB B5.out b6)
  clear b6 AW B5
  go_wp2_with fail
  refine (HH.out _ _).mono ?_
  rintro e _ ⟨rfl, rfl⟩
  go_wp2_with fail
  refine (HF.out _).mono ?_
  rintro e _ ⟨rfl, rfl⟩
  go_wp2_with fail
  refine (HU.out _).mono ?_
  rintro e _ ⟨rfl, rfl⟩
  go_wp2_with fail
  refine (HBl.out _).mono ?_
  rintro e _ ⟨rfl, rfl⟩
  go_wp2_with fail
  go_ret
  exact ⟨rfl, B6.out⟩
end Go.Proofs.Ytladhenjoipfpaa.LawNone
