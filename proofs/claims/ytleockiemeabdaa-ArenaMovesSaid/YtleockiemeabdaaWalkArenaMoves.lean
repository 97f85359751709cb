/- For every input the law ArenaMoves tells true (words that are moved are what they were, and all others stay). No condition. -/
import Derived.Test.YtleockiemeabdaaMoves
import Derived.Test.YtleockiemeabdaaAg
import Derived.OpenShut
import Derived.ProofKit
import Derived.Lib.SmallJoins
set_option linter.unusedVariables false
namespace Go.Proofs.Ytleockiemeabdaa.WalkArenaMoves
open Go.RowKit Go.ChangeShapes Go.WideShapes Go.Joins
open Go.ChangeMaps (open_string shut_string)
theorem walk {H : Type} {enc : TypeId × Value → H} (W : World) {base : Nat} {v0 v1 : Value} {d0 d1 : DataW H} {p0 p1 : List MemPlace}
    (h0 : DataW.Trod enc Try.prog W 0 (fun _ => true) true 5 v0 d0 p0) (o0 : Value.okWide Try.prog W .any base 5 v0)
    (h1 : DataW.Trod enc Try.prog W 0 (fun _ => true) true 32 v1 d1 p1) (o1 : Value.okWide Try.prog W .any base 32 v1)
    (hs : (DataW.weightsEach Try.prog ([5, 32] ++ []) ([d0, d1] ++ [])).all (· ≤ reachBytes) = true) :
    Calls Try.prog 4 #[v0, v1] W fun e W' => e = .returned (.bool true) ∧ Below W.heap.size W W' := by
  clear hs
  obtain ⟨a0, rfl, rfl, rfl, w0⟩ := open_int Try.underlying5 o0 h0
  obtain ⟨a1_0, a1_1, a1_2, a1_3, a1_4, rfl, w1_0, w1_1, w1_2, w1_3, w1_4⟩ := Ag.open5 (k0 := .i64) (k1 := .i64) (k2 := .i64) (k3 := .i64) (k4 := .u64) Try.underlying32 (by kernel_rfl) (by kernel_rfl) o1 h1
  exact Moves.law W a0 a1_0 a1_1 a1_2 a1_3 a1_4 (bounds_u8 w0).1 (bounds_u8 w0).2 (bounds_i64 w1_3).1 (bounds_i64 w1_3).2
end Go.Proofs.Ytleockiemeabdaa.WalkArenaMoves
