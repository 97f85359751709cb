/- The law ShapeRight answers true for every header. No condition. -/
import Derived.Test.YtnpjnpdfhlpanaaNPShapeRight
import Derived.OpenShut
set_option linter.unusedVariables false
namespace Go.Proofs.Ytnpjnpdfhlpanaa.BShapeRight
open Go.RowKit Go.WideShapes
theorem law (W : World) (k i p n : Int) (w : (Lit.int .i64 p).wf = true) :
    Calls Try.prog 3 #[.agg #[.int .i64 k, .int .i64 i, .int .i64 p, .int .i64 n]] W fun e W' => e = .returned (.bool true) ∧ Below W.heap.size W W' :=
  PShapeRight.middenlaw04_ShapeRight.calls 20 k i p n true W (NPShapeRight.law_it k i p n ⟨(bounds_i64 w).1, (bounds_i64 w).2⟩)
end Go.Proofs.Ytnpjnpdfhlpanaa.BShapeRight
