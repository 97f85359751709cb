/- For every frame the law StackNone answers true (a nil stack has nothing). No condition. -/
import Derived.Test.YtedkackmccnkfaaLawNone
import Derived.Test.YtedkackmccnkfaaOf
import Derived.OpenShut
import Derived.ProofKit
import Derived.SizedLaws
set_option linter.unusedVariables false
namespace Go.Proofs.Ytedkackmccnkfaa.WalkStackNone
open Go.RowKit Go.ChangeShapes Go.WideShapes
theorem walk {H : Type} {enc : TypeId × Value → H} (W : World) {base : Nat} {v0 : Value} {d0 : DataW H} {p0 : List MemPlace}
    (h0 : DataW.Trod enc Try.prog W 0 (fun _ => true) true 24 v0 d0 p0) (o0 : Value.okWide Try.prog W .any base 24 v0)
    (hs : (DataW.weightsEach Try.prog ([24] ++ []) ([d0] ++ [])).all (· ≤ reachBytes) = true) :
    Calls Try.prog 8 #[v0] W fun e W' => e = .returned (.bool true) ∧ Below W.heap.size W W' := by
  have hw : ∀ m ∈ d0.weights Try.prog 24, m ≤ reachBytes := fun m hm => by
    have := List.all_eq_true.1 hs m (DataW.weights_mem_each (j := 0) (t := 24) (d := d0) rfl rfl m hm)
    simpa using this
  obtain ⟨f, q, c, rfl, S, hl⟩ := Of.frame_arg h0 o0 hw
  exact LawNone.law W f.k f.a f.b q f.ps.length c
end Go.Proofs.Ytedkackmccnkfaa.WalkStackNone
