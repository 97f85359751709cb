/- For every input the law ArenaClears tells true (words that are cleared are 0, and all others stay). No condition. -/
import Derived.Test.YtleockiemeabdaaClears
import Derived.OpenShut
import Derived.ProofKit
import Derived.Lib.SmallJoins
set_option linter.unusedVariables false
namespace Go.Proofs.Ytleockiemeabdaa.WalkArenaClears
open Go.RowKit Go.ChangeShapes Go.WideShapes Go.Joins
open Go.ChangeMaps (open_string shut_string)
theorem walk {H : Type} {enc : TypeId × Value → H} (W : World) {base : Nat} {v0 v1 v2 : Value} {d0 d1 d2 : DataW H} {p0 p1 p2 : List MemPlace}
    (h0 : DataW.Trod enc Try.prog W 0 (fun _ => true) true 5 v0 d0 p0) (o0 : Value.okWide Try.prog W .any base 5 v0)
    (h1 : DataW.Trod enc Try.prog W 0 (fun _ => true) true 3 v1 d1 p1) (o1 : Value.okWide Try.prog W .any base 3 v1)
    (h2 : DataW.Trod enc Try.prog W 0 (fun _ => true) true 3 v2 d2 p2) (o2 : Value.okWide Try.prog W .any base 3 v2)
    (hs : (DataW.weightsEach Try.prog ([5, 3, 3] ++ []) ([d0, d1, d2] ++ [])).all (· ≤ reachBytes) = true) :
    Calls Try.prog 6 #[v0, v1, v2] W fun e W' => e = .returned (.bool true) ∧ Below W.heap.size W W' := by
  clear hs
  obtain ⟨a0, rfl, rfl, rfl, w0⟩ := open_int Try.underlying5 o0 h0
  obtain ⟨a1, rfl, rfl, rfl, w1⟩ := open_int Try.underlying3 o1 h1
  obtain ⟨a2, rfl, rfl, rfl, w2⟩ := open_int Try.underlying3 o2 h2
  exact Clears.law W a0 a1 a2 (bounds_u8 w0).1 (bounds_u8 w0).2 (bounds_i64 w2).1 (bounds_i64 w2).2
end Go.Proofs.Ytleockiemeabdaa.WalkArenaClears
