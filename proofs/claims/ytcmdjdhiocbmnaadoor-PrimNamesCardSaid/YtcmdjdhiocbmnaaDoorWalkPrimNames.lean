/- For every input the law PrimNames tells true (names and numbers: which names there are, and their numbers). No condition, but that the table of primitives reads as the program's text lays it. -/
import Derived.Test.YtcmdjdhiocbmnaaDoorL8
import Derived.Test.YtcmdjdhiocbmnaaDoorTabIs
import Derived.OpenShut
import Derived.ProofKit
set_option linter.unusedVariables false
namespace Go.Proofs.YtcmdjdhiocbmnaaDoor.WalkPrimNames
open Go.RowKit Go.ChangeShapes Go.WideShapes
open Go.ChangeMaps (open_string shut_string)
open L8
theorem walk {H : Type} {enc : TypeId × Value → H} (W : World) {base : Nat} {v0 v1 : Value} {d0 d1 : DataW H} {p0 p1 : List MemPlace}
    (h0 : DataW.Trod enc Tryd.prog W 0 (fun _ => true) true 3 v0 d0 p0) (o0 : Value.okWide Tryd.prog W .any base 3 v0)
    (h1 : DataW.Trod enc Tryd.prog W 0 (fun _ => true) true 9 v1 d1 p1) (o1 : Value.okWide Tryd.prog W .any base 9 v1) {hs : Prop} (_ : hs) (hL : laidMetH Tryd.prog Rows.primNamesRow.laid W) :
    Calls Tryd.prog 3 #[v0, v1] W fun e w' => e = .returned (.bool true) ∧ Below W.heap.size W w' := by
  have T := TabIs.of_laid hL
  obtain ⟨a0, rfl, rfl, rfl, w0⟩ := open_int Tryd.underlying3 o0 h0
  obtain ⟨a1, rfl, rfl, rfl, w1⟩ := open_string Tryd.underlying9 o1 h1
  exact law_names a0 a1 W T
end Go.Proofs.YtcmdjdhiocbmnaaDoor.WalkPrimNames
