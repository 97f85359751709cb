/- For every input the law LexBlanks tells true (blanks and remarks between tokens change nothing but places). No condition. -/
import Derived.Test.YtjmcoekdgiomiaaOp
import Derived.Test.YtjmcoekdgiomiaaPureLexBlanks
import Derived.OpenShut
import Derived.ProofKit
import Derived.SizedLaws
set_option linter.unusedVariables false
namespace Go.Proofs.Ytjmcoekdgiomiaa.WalkLexBlanks
open Go.RowKit Go.ChangeShapes Go.WideShapes Go.Proofs.Ytjmcoekdgiomiaa.Op Go.Proofs.YtjmcoekdgiomiaaW.PrintWords
open Go.Proofs.Ytjmcoekdgiomiaa.PLexBlanks
theorem opens34 {H : Type} {enc : TypeId × Value → H} {w : World} {sp : Nat → Bool} {held : Bool} : Opens enc Try.prog w sp held k34 34 (fun t => (Lit.int .i64 t.f0).wf = true ∧ t.f1.size ≤ 140737488351232 ∧ (Lit.int .i64 t.f2).wf = true ∧ (Lit.int .i64 t.f3).wf = true) :=
  opens_iso (opens_struct Try.underlying34 rfl (by kernel_rfl)
    (opensF_cons (opens_int Try.underlying3 (by kernel_rfl)) rfl (opensF_cons (opens_string Try.underlying9 (by kernel_rfl)) rfl (opensF_cons (opens_int Try.underlying2 (by kernel_rfl)) rfl (opensF_one (opens_int Try.underlying3 (by kernel_rfl)) rfl)))))
    (fun x : S34 => (x.f0, x.f1, x.f2, x.f3)) (fun p => ⟨p.1, p.2.1, p.2.2.1, p.2.2.2⟩) (fun _ => rfl)
theorem walk {H : Type} {enc : TypeId × Value → H} (W : World) {base : Nat} {v0 v1 : Value} {d0 d1 : DataW H} {p0 p1 : List MemPlace}
    (h0 : DataW.Trod enc Try.prog W 0 (fun _ => true) true 22 v0 d0 p0) (o0 : Value.okWide Try.prog W .any base 22 v0)
    (h1 : DataW.Trod enc Try.prog W 0 (fun _ => true) true 30 v1 d1 p1) (o1 : Value.okWide Try.prog W .any base 30 v1)
    (hs : (DataW.weightsEach Try.prog ([22, 30] ++ []) ([d0, d1] ++ [])).all (· ≤ reachBytes) = true) :
    Calls Try.prog 5 #[v0, v1] W fun e W' => e = .returned (.bool true) ∧ Below W.heap.size W W' := by
  obtain ⟨A, n, c, rfl⟩ := okWide_slice Try.underlying22 o0
  obtain ⟨A1, n1, c1, rfl⟩ := okWide_slice Try.underlying30 o1
  have hw : ∀ m ∈ d0.weights Try.prog 22, m ≤ reachBytes := fun m hm => by
    have := List.all_eq_true.1 hs m (DataW.weights_mem_each (j := 0) (t := 22) (d := d0) rfl rfl m hm)
    simpa using this
  have hw1 : ∀ m ∈ d1.weights Try.prog 30, m ≤ reachBytes := fun m hm => by
    have := List.all_eq_true.1 hs m (DataW.weights_mem_each (j := 1) (t := 30) (d := d1) rfl rfl m hm)
    simpa using this
  obtain ⟨l, hk, hg, hl, _⟩ := opens_arg (opens_slice (B := 40) ⟨0, ⟨#[]⟩, 0, 0⟩ Try.underlying22 (by kernel_rfl) (by kernel_rfl) opens34) h0 hw
  obtain ⟨l1, hk1, _, _, _⟩ := opens_arg (opens_slice (B := 16) ⟨#[]⟩ Try.underlying30 (by kernel_rfl) (by kernel_rfl) (opens_string Try.underlying9 (by kernel_rfl))) h1 hw1
  obtain ⟨A', c', e, hlc, hC⟩ := hk
  simp [Value.cells] at e
  obtain ⟨rfl, rfl, rfl⟩ := e
  obtain ⟨A1', c1', e1, hlc1, hC1⟩ := hk1
  simp [Value.cells] at e1
  obtain ⟨rfl, rfl, rfl⟩ := e1
  exact middenlaw05_LexBlanks.calls _ A c l A1 c1 l1 true W hC hlc hC1 hlc1 (Pure.lexBlanks_pure l l1 (fun t ht => by
    have := (hg t ht).2.2.1
    simp [Lit.wf] at this
    have e1 : IntKind.i64.min = -9223372036854775808 := rfl
    have e2 : IntKind.i64.max = 9223372036854775807 := rfl
    rw [e1] at this
    try rw [e2] at this
    omega) (by omega))
end Go.Proofs.Ytjmcoekdgiomiaa.WalkLexBlanks
