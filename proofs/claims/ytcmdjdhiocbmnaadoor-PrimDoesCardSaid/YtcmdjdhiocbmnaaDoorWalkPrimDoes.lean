/- For every input the law PrimDoes tells true (what each primitive tells of any two numbers). No condition, but that the table of primitives reads as the program's text lays it. -/
import Derived.Test.YtcmdjdhiocbmnaaDoorL8
import Derived.Test.YtcmdjdhiocbmnaaDoorTabIs
import Derived.OpenShut
import Derived.ProofKit
set_option linter.unusedVariables false
namespace Go.Proofs.YtcmdjdhiocbmnaaDoor.WalkPrimDoes
open Go.RowKit Go.ChangeShapes Go.WideShapes
open Go.ChangeMaps (open_string shut_string)
open L8
theorem walk {H : Type} {enc : TypeId × Value → H} (W : World) {base : Nat} {v0 v1 v2 : Value} {d0 d1 d2 : DataW H} {p0 p1 p2 : List MemPlace}
    (h0 : DataW.Trod enc Tryd.prog W 0 (fun _ => true) true 3 v0 d0 p0) (o0 : Value.okWide Tryd.prog W .any base 3 v0)
    (h1 : DataW.Trod enc Tryd.prog W 0 (fun _ => true) true 2 v1 d1 p1) (o1 : Value.okWide Tryd.prog W .any base 2 v1)
    (h2 : DataW.Trod enc Tryd.prog W 0 (fun _ => true) true 2 v2 d2 p2) (o2 : Value.okWide Tryd.prog W .any base 2 v2) {hs : Prop} (_ : hs) (hL : laidMetH Tryd.prog Rows.primDoesRow.laid W) :
    Calls Tryd.prog 4 #[v0, v1, v2] W fun e w' => e = .returned (.bool true) ∧ Below W.heap.size W w' := by
  have T := TabIs.of_laid hL
  obtain ⟨a0, rfl, rfl, rfl, w0⟩ := open_int Tryd.underlying3 o0 h0
  obtain ⟨a1, rfl, rfl, rfl, w1⟩ := open_int Tryd.underlying2 o1 h1
  obtain ⟨a2, rfl, rfl, rfl, w2⟩ := open_int Tryd.underlying2 o2 h2
  exact law_does a0 a1 a2 W T (bounds_i64 w1).1 (bounds_i64 w1).2 (bounds_i64 w2).1 (bounds_i64 w2).2
end Go.Proofs.YtcmdjdhiocbmnaaDoor.WalkPrimDoes
