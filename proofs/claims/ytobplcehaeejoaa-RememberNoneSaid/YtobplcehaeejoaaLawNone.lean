/- Nil lists have nothing: the law RememberNone. No condition. -/
import Derived.Test.YtobplcehaeejoaaLq
set_option linter.unusedVariables false
set_option linter.unusedSimpArgs false
namespace Go.Proofs.Ytobplcehaeejoaa.LawNone
open Go.RowKit Se Mq Sm Ls Nx Lw Ln Lm Lq
set_option maxHeartbeats 2000000 in
set_option maxRecDepth 100000 in
theorem law (W : World) (gen at' : Int) (ha : (Lit.int .i64 at').wf = true) : Calls Try.prog 7 #[.int .i64 gen, .int .i64 at'] W fun e w => e = .returned (.bool true) ∧ Below W.heap.size W w := by
  have AW := Lib.hid (awake_it W)
  have PI := Lib.hid (fun w => put_nil w gen at')
  have DI := Lib.hid (fun w => drop_nil w gen at')
  have HI := Lib.hid (fun w => has_nil w gen at' ha)
  have AI := Lib.hid (fun w => all_none w (.pointer none) gen (list_nil w gen))
  have TI := Lib.hid (fun w => take_none w (.pointer none) gen (list_nil w gen))
  have LI := Lib.hid len_nil
  clear ha
  go_enter Try.func7, Try.ntmps7
  go_wp2_with fail
  refine AW.out.mono ?_
  rintro e w1 ⟨rfl, b1⟩
  have B1 := Lib.hid b1
  clear b1 AW
  go_wp2_with fail
  refine (PI.out _).mono ?_
  rintro e w1 ⟨rfl, rfl⟩
  go_wp2_with fail
  refine (DI.out _).mono ?_
  rintro e w1 ⟨rfl, rfl⟩
  go_wp2_with fail
  refine (HI.out _).mono ?_
  rintro e w1 ⟨rfl, rfl⟩
  go_wp2_with fail
  refine (AI.out _).mono ?_
  rintro e w2 ⟨rfl, b2⟩
  have B2 := Lib.hid (Kit.stepB B1.out b2)
  clear b2 B1
  go_wp2_with fail
  refine (TI.out _).mono ?_
  rintro e w3 ⟨rfl, b3⟩
  have B3 := Lib.hid (Kit.stepB B2.out b3)
  clear b3 B2
  go_wp2_with fail
  refine (LI.out _).mono ?_
  rintro e w3 ⟨rfl, rfl⟩
  go_wp2_with fail
  go_ret
  exact ⟨rfl, B3.out⟩
end Go.Proofs.Ytobplcehaeejoaa.LawNone
