/- For every input the law BumpApart answers true (what was laid has words of its own). No condition. -/
import Derived.Test.YtladhenjoipfpaaLawApart
import Derived.OpenShut
import Derived.ProofKit
import Derived.SizedLaws
import Derived.Lib.SmallJoins
set_option linter.unusedVariables false
namespace Go.Proofs.Ytladhenjoipfpaa.WalkBumpApart
open Go.RowKit Go.ChangeShapes Go.WideShapes Go.Joins
theorem walk {H : Type} {enc : TypeId × Value → H} (W : World) {base : Nat} {v0 v1 : Value} {d0 d1 : DataW H} {p0 p1 : List MemPlace}
    (h0 : DataW.Trod enc Try.prog W 0 (fun _ => true) true 5 v0 d0 p0) (o0 : Value.okWide Try.prog W .any base 5 v0)
    (h1 : DataW.Trod enc Try.prog W 0 (fun _ => true) true 22 v1 d1 p1) (o1 : Value.okWide Try.prog W .any base 22 v1)
    (hs : (DataW.weightsEach Try.prog ([5, 22] ++ []) ([d0, d1] ++ [])).all (· ≤ reachBytes) = true) :
    Calls Try.prog 4 #[v0, v1] W fun e W' => e = .returned (.bool true) ∧ Below W.heap.size W W' := by
  clear hs
  obtain ⟨a0, rfl, rfl, rfl, w0⟩ := open_int Try.underlying5 o0 h0
  obtain ⟨A1, len1, cap1, L1, rfl, R1⟩ := Ac.open_acts Try.underlying22 Try.underlying38 (by kernel_rfl) ⟨rfl, rfl, rfl⟩ ⟨by kernel_rfl, by kernel_rfl, by kernel_rfl⟩ ⟨Try.underlying3, Try.underlying3, Try.underlying4⟩ o1 h1
  have b0 : 0 ≤ a0 ∧ a0 ≤ 255 := bounds_u8 w0
  obtain ⟨n, rfl⟩ : ∃ n : Nat, a0 = n := ⟨a0.toNat, by omega⟩
  exact LawApart.law W n (by omega) A1 len1 cap1 L1 R1
end Go.Proofs.Ytladhenjoipfpaa.WalkBumpApart
