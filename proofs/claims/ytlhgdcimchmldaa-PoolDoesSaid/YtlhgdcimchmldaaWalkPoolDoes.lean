/- For every input the law PoolDoes answers true (every call of a pool is answered as the document says). No condition. -/
import Derived.Test.YtlhgdcimchmldaaLawDoes
import Derived.OpenShut
import Derived.ProofKit
import Derived.SizedLaws
import Derived.Lib.SmallJoins
set_option linter.unusedVariables false
namespace Go.Proofs.Ytlhgdcimchmldaa.WalkPoolDoes
open Go.RowKit Go.ChangeShapes Go.WideShapes Go.Joins
theorem walk {H : Type} {enc : TypeId × Value → H} (W : World) {base : Nat} {v0 v1 : Value} {d0 d1 : DataW H} {p0 p1 : List MemPlace}
    (h0 : DataW.Trod enc Try.prog W 0 (fun _ => true) true 3 v0 d0 p0) (o0 : Value.okWide Try.prog W .any base 3 v0)
    (h1 : DataW.Trod enc Try.prog W 0 (fun _ => true) true 22 v1 d1 p1) (o1 : Value.okWide Try.prog W .any base 22 v1)
    (hs : (DataW.weightsEach Try.prog ([3, 22] ++ []) ([d0, d1] ++ [])).all (· ≤ reachBytes) = true) :
    Calls Try.prog 6 #[v0, v1] W fun e W' => e = .returned (.bool true) ∧ Below W.heap.size W W' := by
  clear hs
  obtain ⟨a0, rfl, rfl, rfl, w0⟩ := open_int Try.underlying3 o0 h0
  obtain ⟨A1, len1, cap1, L1, rfl, R1⟩ := Ag.open_rows (ks := [.i64, .i64]) Try.underlying22 Try.underlying52 (by kernel_rfl) (by kernel_rfl) (by decide) o1 h1
  exact LawDoes.law W a0 (bounds_i64 w0).2 A1 len1 cap1 L1 R1
end Go.Proofs.Ytlhgdcimchmldaa.WalkPoolDoes
