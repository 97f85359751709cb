/- The law ShapeStays answers true for every header and every two kinds. No condition. -/
import Derived.Test.YtnpjnpdfhlpanaaNPShapeStays
import Derived.OpenShut
set_option linter.unusedVariables false
namespace Go.Proofs.Ytnpjnpdfhlpanaa.BShapeStays
open Go.RowKit Go.WideShapes
theorem law (W : World) (k i p n q t : Int) (w : (Lit.int .i64 p).wf = true) :
    Calls Try.prog 6 #[.agg #[.int .i64 k, .int .i64 i, .int .i64 p, .int .i64 n], .int .i64 q, .int .i64 t] W fun e W' => e = .returned (.bool true) ∧ Below W.heap.size W W' :=
  PShapeStays.middenlaw04_ShapeStays.calls 40 k i p n q t true W (NPShapeStays.law_it k i p n q t ⟨(bounds_i64 w).1, (bounds_i64 w).2⟩)
end Go.Proofs.Ytnpjnpdfhlpanaa.BShapeStays
