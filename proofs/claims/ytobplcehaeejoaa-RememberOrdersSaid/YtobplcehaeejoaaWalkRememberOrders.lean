/- For every input the law RememberOrders answers true (the order of putting plays no part). No condition. -/
import Derived.Test.YtobplcehaeejoaaLawOrders
import Derived.OpenShut
import Derived.ProofKit
import Derived.SizedLaws
import Derived.Lib.SmallJoins
set_option linter.unusedVariables false
namespace Go.Proofs.Ytobplcehaeejoaa.WalkRememberOrders
open Go.RowKit Go.ChangeShapes Go.WideShapes Go.Joins
theorem walk {H : Type} {enc : TypeId × Value → H} (W : World) {base : Nat} {v0 v1 : Value} {d0 d1 : DataW H} {p0 p1 : List MemPlace}
    (h0 : DataW.Trod enc Try.prog W 0 (fun _ => true) true 22 v0 d0 p0) (o0 : Value.okWide Try.prog W .any base 22 v0)
    (h1 : DataW.Trod enc Try.prog W 0 (fun _ => true) true 23 v1 d1 p1) (o1 : Value.okWide Try.prog W .any base 23 v1)
    (hs : (DataW.weightsEach Try.prog ([22, 23] ++ []) ([d0, d1] ++ [])).all (· ≤ reachBytes) = true) :
    Calls Try.prog 3 #[v0, v1] W fun e W' => e = .returned (.bool true) ∧ Below W.heap.size W W' := by
  clear hs
  obtain ⟨A1, len1, cap1, zs, rfl, R1⟩ := Ag.open_nums (k := .i64) Try.underlying22 Try.underlying3 (by kernel_rfl) o0 h0
  obtain ⟨A2, len2, cap2, os, rfl, R2⟩ := Ag.open_nums (k := .u8) Try.underlying23 Try.underlying5 (by kernel_rfl) o1 h1
  exact LawOrders.law W A1 len1 cap1 zs R1 A2 len2 cap2 os R2
end Go.Proofs.Ytobplcehaeejoaa.WalkRememberOrders
