/- A nil pool has nothing: the law PoolNone answers true for every number. No condition. -/
import Derived.Test.YtlhgdcimchmldaaPw
set_option linter.unusedVariables false
set_option linter.unusedSimpArgs false
namespace Go.Proofs.Ytlhgdcimchmldaa.LawNone
open Go.RowKit
open Pl Nn Pw
set_option maxRecDepth 100000 in
set_option maxHeartbeats 4000000 in
theorem law (w : World) (n : Int) : Calls Try.prog 7 #[.int .i64 n] w fun e w' => e = .returned (.bool true) ∧ Below w.heap.size w w' := by
  have A1 := Lib.hid alloc_nil
  have G1 := Lib.hid group_nil
  have F1 := Lib.hid free_nil
  have R1 := Lib.hid runs_nil
  have R2 := Lib.hid groups_nil
  have P1 := Lib.hid pairs_none1
  have P2 := Lib.hid pairs_none2
  have LE := Lib.hid left_nil
  have LO := Lib.hid longest_nil
  have AW := Lib.hid awake_it
  go_enter Try.func7, Try.ntmps7
  go_wp2_with fail
  refine (A1.out _ _).mono ?_
  rintro e w1 ⟨rfl, B1⟩
  go_wp2_with fail
  refine (G1.out _ _).mono ?_
  rintro e _ ⟨rfl, rfl⟩
  go_wp2_with fail
  refine (R1.out _).mono ?_
  rintro e _ ⟨rfl, rfl⟩
  go_wp2_with fail
  refine (P1.out _).mono ?_
  rintro e w2 ⟨rfl, B2⟩
  have C2 := Lib.hid (Kit.stepB B1 B2)
  clear B1 B2
  go_wp2_with fail
  refine (R2.out _).mono ?_
  rintro e w3 ⟨rfl, B3⟩
  go_wp2_with fail
  refine (P2.out _).mono ?_
  rintro e w4 ⟨rfl, B4⟩
  have C4 := Lib.hid (Kit.stepB (Kit.stepB C2.out B3) B4)
  clear B3 B4
  go_wp2_with fail
  refine (AW.out _).mono ?_
  rintro e w5 ⟨rfl, B5⟩
  go_wp2_with fail
  refine (F1.out _ _).mono ?_
  rintro e _ ⟨rfl, rfl⟩
  go_wp2_with fail
  refine (LE.out _).mono ?_
  rintro e w6 ⟨rfl, B6⟩
  go_wp2_with fail
  refine (LO.out _).mono ?_
  rintro e w7 ⟨rfl, B7⟩
  go_wp2_with fail
  go_ret
  exact ⟨rfl, Kit.stepB (Kit.stepB (Kit.stepB C4.out B5) B6) B7⟩
end Go.Proofs.Ytlhgdcimchmldaa.LawNone
