/- For every input the law BumpLays answers true (every call of two spaces of one pool is answered as the document says). No condition. -/
import Derived.Test.YtladhenjoipfpaaLawLays
import Derived.OpenShut
import Derived.ProofKit
import Derived.SizedLaws
import Derived.Lib.SmallJoins
set_option linter.unusedVariables false
namespace Go.Proofs.Ytladhenjoipfpaa.WalkBumpLays
open Go.RowKit Go.ChangeShapes Go.WideShapes Go.Joins
theorem walk {H : Type} {enc : TypeId × Value → H} (W : World) {base : Nat} {v0 v1 v2 : Value} {d0 d1 d2 : DataW H} {p0 p1 p2 : List MemPlace}
    (h0 : DataW.Trod enc Try.prog W 0 (fun _ => true) true 5 v0 d0 p0) (o0 : Value.okWide Try.prog W .any base 5 v0)
    (h1 : DataW.Trod enc Try.prog W 0 (fun _ => true) true 60 v1 d1 p1) (o1 : Value.okWide Try.prog W .any base 60 v1)
    (h2 : DataW.Trod enc Try.prog W 0 (fun _ => true) true 22 v2 d2 p2) (o2 : Value.okWide Try.prog W .any base 22 v2)
    (hs : (DataW.weightsEach Try.prog ([5, 60, 22] ++ []) ([d0, d1, d2] ++ [])).all (· ≤ reachBytes) = true) :
    Calls Try.prog 7 #[v0, v1, v2] W fun e W' => e = .returned (.bool true) ∧ Below W.heap.size W W' := by
  clear hs
  obtain ⟨a0, rfl, rfl, rfl, w0⟩ := open_int Try.underlying5 o0 h0
  obtain ⟨a1, rfl, rfl, rfl, w1⟩ := open_int Try.underlying60 o1 h1
  obtain ⟨A1, len1, cap1, L1, rfl, R1⟩ := Ac.open_acts Try.underlying22 Try.underlying38 (by kernel_rfl) ⟨rfl, rfl, rfl⟩ ⟨by kernel_rfl, by kernel_rfl, by kernel_rfl⟩ ⟨Try.underlying3, Try.underlying3, Try.underlying4⟩ o2 h2
  have b0 : 0 ≤ a0 ∧ a0 ≤ 255 := bounds_u8 w0
  have b1 : 0 ≤ a1 ∧ a1 ≤ 65535 := by
    simp [Lit.wf, IntKind.min, IntKind.max, IntKind.signed, IntKind.bits] at w1
    omega
  obtain ⟨n, rfl⟩ : ∃ n : Nat, a0 = n := ⟨a0.toNat, by omega⟩
  obtain ⟨m, rfl⟩ : ∃ n : Nat, a1 = n := ⟨a1.toNat, by omega⟩
  exact LawLays.law W n m (by omega) (by omega) A1 len1 cap1 L1 R1
end Go.Proofs.Ytladhenjoipfpaa.WalkBumpLays
