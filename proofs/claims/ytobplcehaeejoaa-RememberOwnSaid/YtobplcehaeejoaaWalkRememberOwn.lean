/- For every input the law RememberOwn answers true (what is told is one's own). No condition. -/
import Derived.Test.YtobplcehaeejoaaLawOwn
import Derived.OpenShut
import Derived.ProofKit
import Derived.SizedLaws
import Derived.Lib.SmallJoins
set_option linter.unusedVariables false
namespace Go.Proofs.Ytobplcehaeejoaa.WalkRememberOwn
open Go.RowKit Go.ChangeShapes Go.WideShapes Go.Joins
theorem walk {H : Type} {enc : TypeId × Value → H} (W : World) {base : Nat} {v0 : Value} {d0 : DataW H} {p0 : List MemPlace}
    (h0 : DataW.Trod enc Try.prog W 0 (fun _ => true) true 22 v0 d0 p0) (o0 : Value.okWide Try.prog W .any base 22 v0)
    (hs : (DataW.weightsEach Try.prog ([22] ++ []) ([d0] ++ [])).all (· ≤ reachBytes) = true) :
    Calls Try.prog 4 #[v0] W fun e W' => e = .returned (.bool true) ∧ Below W.heap.size W W' := by
  clear hs
  obtain ⟨A1, len1, cap1, zs, rfl, R1⟩ := Ag.open_nums (k := .i64) Try.underlying22 Try.underlying3 (by kernel_rfl) o0 h0
  exact LawOwn.law W A1 len1 cap1 zs R1
end Go.Proofs.Ytobplcehaeejoaa.WalkRememberOwn
