/- For every input the law LexBack tells true (tokens that are written are read as they were). No condition. -/
import Derived.Test.YtjmcoekdgiomiaaOp
import Derived.Test.YtjmcoekdgiomiaaPureLexBack
import Derived.OpenShut
import Derived.ProofKit
import Derived.SizedLaws
set_option linter.unusedVariables false
namespace Go.Proofs.Ytjmcoekdgiomiaa.WalkLexBack
open Go.RowKit Go.ChangeShapes Go.WideShapes Go.Proofs.Ytjmcoekdgiomiaa.Op Go.Proofs.YtjmcoekdgiomiaaW.PrintWords
open Go.Proofs.Ytjmcoekdgiomiaa.PLexBack
theorem opens34 {H : Type} {enc : TypeId × Value → H} {w : World} {sp : Nat → Bool} {held : Bool} : Opens enc Try.prog w sp held k34 34 (fun t => (Lit.int .i64 t.f0).wf = true ∧ t.f1.size ≤ 140737488351232 ∧ (Lit.int .i64 t.f2).wf = true ∧ (Lit.int .i64 t.f3).wf = true) :=
  opens_iso (opens_struct Try.underlying34 rfl (by kernel_rfl)
    (opensF_cons (opens_int Try.underlying3 (by kernel_rfl)) rfl (opensF_cons (opens_string Try.underlying9 (by kernel_rfl)) rfl (opensF_cons (opens_int Try.underlying2 (by kernel_rfl)) rfl (opensF_one (opens_int Try.underlying3 (by kernel_rfl)) rfl)))))
    (fun x : S34 => (x.f0, x.f1, x.f2, x.f3)) (fun p => ⟨p.1, p.2.1, p.2.2.1, p.2.2.2⟩) (fun _ => rfl)
theorem walk {H : Type} {enc : TypeId × Value → H} (W : World) {base : Nat} {v0 : Value} {d0 : DataW H} {p0 : List MemPlace}
    (h0 : DataW.Trod enc Try.prog W 0 (fun _ => true) true 22 v0 d0 p0) (o0 : Value.okWide Try.prog W .any base 22 v0)
    (hs : (DataW.weightsEach Try.prog ([22] ++ []) ([d0] ++ [])).all (· ≤ reachBytes) = true) :
    Calls Try.prog 8 #[v0] W fun e W' => e = .returned (.bool true) ∧ Below W.heap.size W W' := by
  obtain ⟨A, n, c, rfl⟩ := okWide_slice Try.underlying22 o0
  have hw : ∀ m ∈ d0.weights Try.prog 22, m ≤ reachBytes := fun m hm => by
    have := List.all_eq_true.1 hs m (DataW.weights_mem_each (j := 0) (t := 22) (d := d0) rfl rfl m hm)
    simpa using this
  obtain ⟨l, hk, hg, hl, _⟩ := opens_arg (opens_slice (B := 40) ⟨0, ⟨#[]⟩, 0, 0⟩ Try.underlying22 (by kernel_rfl) (by kernel_rfl) opens34) h0 hw
  obtain ⟨A', c', e, hlc, hC⟩ := hk
  simp [Value.cells] at e
  obtain ⟨rfl, rfl, rfl⟩ := e
  exact middenlaw05_LexBack.calls _ A c l true W hC hlc (Pure.lexBack_pure l (fun t ht => by
    have := (hg t ht).2.2.1
    simp [Lit.wf] at this
    have e1 : IntKind.i64.min = -9223372036854775808 := rfl
    have e2 : IntKind.i64.max = 9223372036854775807 := rfl
    rw [e1] at this
    try rw [e2] at this
    omega) (by omega))
end Go.Proofs.Ytjmcoekdgiomiaa.WalkLexBack
