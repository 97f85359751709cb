/- For every input the law PoolJoins answers true (all freed, one run has all blocks). No condition. -/
import Derived.Test.YtlhgdcimchmldaaLawJoins
import Derived.OpenShut
import Derived.ProofKit
import Derived.SizedLaws
import Derived.Lib.SmallJoins
set_option linter.unusedVariables false
namespace Go.Proofs.Ytlhgdcimchmldaa.WalkPoolJoins
open Go.RowKit Go.ChangeShapes Go.WideShapes Go.Joins
theorem walk {H : Type} {enc : TypeId × Value → H} (W : World) {base : Nat} {v0 v1 v2 : Value} {d0 d1 d2 : DataW H} {p0 p1 p2 : List MemPlace}
    (h0 : DataW.Trod enc Try.prog W 0 (fun _ => true) true 5 v0 d0 p0) (o0 : Value.okWide Try.prog W .any base 5 v0)
    (h1 : DataW.Trod enc Try.prog W 0 (fun _ => true) true 22 v1 d1 p1) (o1 : Value.okWide Try.prog W .any base 22 v1)
    (h2 : DataW.Trod enc Try.prog W 0 (fun _ => true) true 42 v2 d2 p2) (o2 : Value.okWide Try.prog W .any base 42 v2)
    (hs : (DataW.weightsEach Try.prog ([5, 22, 42] ++ []) ([d0, d1, d2] ++ [])).all (· ≤ reachBytes) = true) :
    Calls Try.prog 5 #[v0, v1, v2] W fun e W' => e = .returned (.bool true) ∧ Below W.heap.size W W' := by
  clear hs
  obtain ⟨a0, rfl, rfl, rfl, w0⟩ := open_int Try.underlying5 o0 h0
  obtain ⟨A1, len1, cap1, L1, rfl, R1⟩ := Ag.open_rows (ks := [.i64, .i64]) Try.underlying22 Try.underlying52 (by kernel_rfl) (by kernel_rfl) (by decide) o1 h1
  obtain ⟨A2, len2, cap2, zs, rfl, R2⟩ := Ag.open_nums (k := .u8) Try.underlying42 Try.underlying5 (by kernel_rfl) o2 h2
  have b0 : 0 ≤ a0 ∧ a0 ≤ 255 := bounds_u8 w0
  obtain ⟨n, rfl⟩ : ∃ n : Nat, a0 = n := ⟨a0.toNat, by omega⟩
  exact LawJoins.law W n (by omega) A1 len1 cap1 L1 R1 A2 len2 cap2 zs R2
end Go.Proofs.Ytlhgdcimchmldaa.WalkPoolJoins
