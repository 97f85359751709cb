/- For every input the law StackDoes answers true (every call of a stack is answered as the document says). No condition. -/
import Derived.Test.YtedkackmccnkfaaLawDoes
import Derived.Test.YtedkackmccnkfaaOf
import Derived.OpenShut
import Derived.ProofKit
import Derived.SizedLaws
set_option linter.unusedVariables false
namespace Go.Proofs.Ytedkackmccnkfaa.WalkStackDoes
open Go.RowKit Go.ChangeShapes Go.WideShapes Go.Proofs.Ytedkackmccnkfaa.Op Go.Proofs.YtedkackmccnkfaaW.PrintWords
open Fr Sk Bk Of LawDoes
/-- How a call lies in cells. -/
def kA : Kd Ac := Kd.iso (Kd.pair (Kd.int .i64) (Kd.pair (Kd.int .i64) kF)) (fun x => (x.k, x.n, x.f))
def gA (x : Ac) : Prop := x.f.ps.length ≤ 17592186044416
theorem opensA {H : Type} {enc : TypeId × Value → H} {w : World} {sp : Nat → Bool} {held : Bool} : Opens enc Try.prog w sp held kA 55 gA := by
  have h := opens_iso (opens_struct Try.underlying55 rfl (by kernel_rfl)
    (opensF_cons (opens_int (H := H) (enc := enc) (w := w) (sp := sp) (held := held) Try.underlying3 (by kernel_rfl)) rfl (opensF_cons (opens_int Try.underlying3 (by kernel_rfl)) rfl (opensF_one opensF rfl))))
    (fun x : Ac => (x.k, x.n, x.f)) (fun p => ⟨p.1, p.2.1, p.2.2⟩) (fun _ => rfl)
  refine ⟨h.1, fun fuel cs x ht hw => ?_⟩
  obtain ⟨v, hk, g1, g2, g3⟩ := h.2 fuel cs x ht hw
  exact ⟨v, hk, g3⟩
theorem kA_cells {w : World} {x : Ac} {cs : List Value} (h : kA.K w x cs) : ∃ p c, cs = [.int .i64 x.k, .int .i64 x.n, .int .i64 x.f.k, .int .i64 x.f.a, .int .i64 x.f.b, .slice p x.f.ps.length c] ∧ Sl w p x.f.ps := by
  obtain ⟨c0, c1, rfl, h0, d0, d1, rfl, h1, hF⟩ := h
  have h0 : c0 = [Value.int .i64 x.k] := h0
  have h1 : d0 = [Value.int .i64 x.n] := h1
  obtain ⟨p, c, e, S⟩ := kF_cells hF
  subst h0 h1
  exact ⟨p, c, by rw [e]; rfl, S⟩
theorem AIn.ofC {w : World} {A : Option Addr} {acs : List Ac} (h : kA.C w A acs.length acs) (hg : ∀ x, x ∈ acs → gA x) : AIn w A acs := by
  obtain ⟨h1, h2, h3⟩ := h
  refine ⟨h2, fun h0 => ?_⟩
  obtain ⟨ad, rfl, hc⟩ := h3 h0
  have each : ∀ i, i < acs.length → ∃ (x : Ac) (p : Option Addr) (c : Nat), Sl w p x.f.ps ∧ x.f.ps.length ≤ 17592186044416 ∧
      ∀ j u, [Value.int .i64 x.k, .int .i64 x.n, .int .i64 x.f.k, .int .i64 x.f.a, .int .i64 x.f.b, .slice p x.f.ps.length c][j]? = some u → w.cell? (ad.add (i * 6 + j)) = some u := fun i hi => by
    obtain ⟨c, hl, hk, hu⟩ := hc i (acs.getD i ⟨0, 0, ⟨0, 0, 0, []⟩⟩) (by simp [List.getD_eq_getElem?_getD, hi])
    obtain ⟨p, cp, rfl, S⟩ := kA_cells hk
    exact ⟨acs.getD i ⟨0, 0, ⟨0, 0, 0, []⟩⟩, p, cp, S, hg _ (by rw [List.getD_eq_getElem?_getD, List.getElem?_eq_getElem hi]; exact List.getElem_mem hi), fun j u hj => hu j u hj⟩
  obtain ⟨b, off, spot⟩ := ad
  obtain ⟨x0, _, _, _, _, hx0⟩ := each 0 h0
  have hspot : spot = none := by simpa [Addr.add] using World.cell?_spot (hx0 0 _ rfl)
  subst hspot
  refine ⟨b, off, rfl, ?_, fun i hi => ?_⟩
  · have := World.block_lt_of_cell? w _ (hx0 0 _ rfl)
    simpa [Addr.add] using this
  · obtain ⟨x, p, c, e2, e3, e4⟩ := each i hi
    refine ⟨x, p, c, e2, e3, ?_, ?_, ?_, ?_, ?_, ?_⟩
    · have := e4 0 _ rfl; rw [Go.WideShapes.add_plain] at this; exact this
    · have := e4 1 _ rfl; rw [Go.WideShapes.add_plain] at this; exact this
    · have := e4 2 _ rfl; rw [Go.WideShapes.add_plain] at this; exact this
    · have := e4 3 _ rfl; rw [Go.WideShapes.add_plain] at this; exact this
    · have := e4 4 _ rfl; rw [Go.WideShapes.add_plain] at this; exact this
    · have := e4 5 _ rfl; rw [Go.WideShapes.add_plain] at this; exact this
theorem walk {H : Type} {enc : TypeId × Value → H} (W : World) {base : Nat} {v0 v1 : Value} {d0 d1 : DataW H} {p0 p1 : List MemPlace}
    (h0 : DataW.Trod enc Try.prog W 0 (fun _ => true) true 48 v0 d0 p0) (o0 : Value.okWide Try.prog W .any base 48 v0)
    (h1 : DataW.Trod enc Try.prog W 0 (fun _ => true) true 49 v1 d1 p1) (o1 : Value.okWide Try.prog W .any base 49 v1)
    (hs : (DataW.weightsEach Try.prog ([48, 49] ++ []) ([d0, d1] ++ [])).all (· ≤ reachBytes) = true) :
    Calls Try.prog 6 #[v0, v1] W fun e W' => e = .returned (.bool true) ∧ Below W.heap.size W W' := by
  obtain ⟨a0, rfl, rfl, rfl, w0⟩ := open_int Try.underlying48 o0 h0
  obtain ⟨A, n, c, rfl⟩ := okWide_slice Try.underlying49 o1
  have hw : ∀ m ∈ d1.weights Try.prog 49, m ≤ reachBytes := fun m hm => by
    have := List.all_eq_true.1 hs m (DataW.weights_mem_each (j := 1) (t := 49) (d := d1) rfl rfl m hm)
    simpa using this
  obtain ⟨acs, hk, hg, hl, _⟩ := opens_arg (opens_slice (B := 64) (⟨0, 0, ⟨0, 0, 0, []⟩⟩ : Ac) Try.underlying49 (by kernel_rfl) (by kernel_rfl) opensA) h1 hw
  obtain ⟨A', c', e, hlc, hC⟩ := hk
  simp [Value.cells] at e
  obtain ⟨rfl, rfl, rfl⟩ := e
  have hb : 0 ≤ a0 ∧ a0 ≤ 65535 := by
    have := w0
    simp [Lit.wf, IntKind.signed, IntKind.bits, IntKind.min, IntKind.max] at this
    omega
  exact LawDoes.law W a0 hb A c acs (AIn.ofC hC hg)
end Go.Proofs.Ytedkackmccnkfaa.WalkStackDoes
