/- For every input the law StableMoves tells true (handles follow what moves). No condition. -/
import Derived.Test.YtbjlmhkjlipnmaaMw
import Derived.Test.YtbjlmhkjlipnmaaAg
import Derived.OpenShut
import Derived.ProofKit
import Derived.Lib.SmallJoins
set_option linter.unusedVariables false
namespace Go.Proofs.Ytbjlmhkjlipnmaa.WalkStableMoves
open Go.RowKit Go.ChangeShapes Go.WideShapes Go.Joins
open Go.ChangeMaps (open_string shut_string)
theorem walk {H : Type} {enc : TypeId × Value → H} (W : World) {base : Nat} {v0 v1 : Value} {d0 d1 : DataW H} {p0 p1 : List MemPlace}
    (h0 : DataW.Trod enc Try.prog W 0 (fun _ => true) true 28 v0 d0 p0) (o0 : Value.okWide Try.prog W .any base 28 v0)
    (h1 : DataW.Trod enc Try.prog W 0 (fun _ => true) true 3 v1 d1 p1) (o1 : Value.okWide Try.prog W .any base 3 v1)
    (hs : (DataW.weightsEach Try.prog ([28, 3] ++ []) ([d0, d1] ++ [])).all (· ≤ reachBytes) = true) :
    Calls Try.prog 5 #[v0, v1] W fun e W' => e = .returned (.bool true) ∧ Below W.heap.size W W' := by
  clear hs
  obtain ⟨A0, len0, cap0, zs, rfl, R0⟩ := Ag.open_nums (k := .i64) Try.underlying28 Try.underlying3 (by kernel_rfl) o0 h0
  obtain ⟨a1, rfl, rfl, rfl, w1⟩ := open_int Try.underlying3 o1 h1
  exact Mw.law W A0 len0 cap0 zs a1 R0
end Go.Proofs.Ytbjlmhkjlipnmaa.WalkStableMoves
