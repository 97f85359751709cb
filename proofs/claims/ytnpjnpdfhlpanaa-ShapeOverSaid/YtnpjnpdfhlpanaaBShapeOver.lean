/- The law ShapeOver answers true for every header. No condition. -/
import Derived.Test.YtnpjnpdfhlpanaaNPShapeOver
import Derived.OpenShut
set_option linter.unusedVariables false
namespace Go.Proofs.Ytnpjnpdfhlpanaa.BShapeOver
open Go.RowKit Go.WideShapes
theorem law (W : World) (k i p n q : Int) (w : (Lit.int .i64 p).wf = true) :
    Calls Try.prog 5 #[.agg #[.int .i64 k, .int .i64 i, .int .i64 p, .int .i64 n], .int .i64 q] W fun e W' => e = .returned (.bool true) ∧ Below W.heap.size W W' :=
  PShapeOver.middenlaw04_ShapeOver.calls 20 k i p n q true W (NPShapeOver.law_it k i p n q ⟨(bounds_i64 w).1, (bounds_i64 w).2⟩)
end Go.Proofs.Ytnpjnpdfhlpanaa.BShapeOver
