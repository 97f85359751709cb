/- For every list of frames the law StackMaps answers true (pointers are turned in order). No condition. -/
import Derived.Test.YtedkackmccnkfaaLawMaps
import Derived.OpenShut
import Derived.ProofKit
import Derived.SizedLaws
set_option linter.unusedVariables false
namespace Go.Proofs.Ytedkackmccnkfaa.WalkStackMaps
open Go.RowKit Go.ChangeShapes Go.WideShapes Go.Proofs.Ytedkackmccnkfaa.Op Go.Proofs.YtedkackmccnkfaaW.PrintWords
open Fr Sk Bk Of
theorem FIn.ofC {w : World} {A : Option Addr} {fs : List Fm} (h : kF.C w A fs.length fs) (hg : ∀ f, f ∈ fs → gF f) : FIn w A fs := by
  obtain ⟨h1, h2, h3⟩ := h
  refine ⟨h2, fun h0 => ?_⟩
  obtain ⟨ad, rfl, hc⟩ := h3 h0
  have each : ∀ i, i < fs.length → ∃ x : In, x.1 = fs.getD i ⟨0, 0, 0, []⟩ ∧ Sl w x.2.1 x.1.ps ∧ x.1.ps.length ≤ 17592186044416 ∧
      ∀ j u, (cellsI x)[j]? = some u → w.cell? (ad.add (i * 4 + j)) = some u := fun i hi => by
    obtain ⟨c, hl, hk, hu⟩ := hc i (fs.getD i ⟨0, 0, 0, []⟩) (by simp [List.getD_eq_getElem?_getD, hi])
    obtain ⟨p, cp, rfl, S⟩ := kF_cells hk
    refine ⟨(fs.getD i ⟨0, 0, 0, []⟩, p, cp), rfl, S, hg _ (by rw [List.getD_eq_getElem?_getD, List.getElem?_eq_getElem hi]; exact List.getElem_mem hi), fun j u hj => hu j u hj⟩
  obtain ⟨b, off, spot⟩ := ad
  obtain ⟨x0, _, _, _, hx0⟩ := each 0 h0
  have hspot : spot = none := by simpa [Addr.add] using World.cell?_spot (hx0 0 _ rfl)
  subst hspot
  refine ⟨b, off, rfl, ?_, fun i hi => ?_⟩
  · have := World.block_lt_of_cell? w _ (hx0 0 _ rfl)
    simpa [Addr.add] using this
  · obtain ⟨x, e1, e2, e3, e4⟩ := each i hi
    refine ⟨x, e1, e2, e3, ?_, ?_, ?_, ?_⟩
    · have := e4 0 _ rfl; rw [Go.WideShapes.add_plain] at this; exact this
    · have := e4 1 _ rfl; rw [Go.WideShapes.add_plain] at this; exact this
    · have := e4 2 _ rfl; rw [Go.WideShapes.add_plain] at this; exact this
    · have := e4 3 _ rfl; rw [Go.WideShapes.add_plain] at this; exact this
theorem walk {H : Type} {enc : TypeId × Value → H} (W : World) {base : Nat} {v0 : Value} {d0 : DataW H} {p0 : List MemPlace}
    (h0 : DataW.Trod enc Try.prog W 0 (fun _ => true) true 36 v0 d0 p0) (o0 : Value.okWide Try.prog W .any base 36 v0)
    (hs : (DataW.weightsEach Try.prog ([36] ++ []) ([d0] ++ [])).all (· ≤ reachBytes) = true) :
    Calls Try.prog 7 #[v0] W fun e W' => e = .returned (.bool true) ∧ Below W.heap.size W W' := by
  obtain ⟨A, n, c, rfl⟩ := okWide_slice Try.underlying36 o0
  have hw : ∀ m ∈ d0.weights Try.prog 36, m ≤ reachBytes := fun m hm => by
    have := List.all_eq_true.1 hs m (DataW.weights_mem_each (j := 0) (t := 36) (d := d0) rfl rfl m hm)
    simpa using this
  obtain ⟨fs, hk, hg, hl, _⟩ := opens_arg (opens_slice (B := 48) (⟨0, 0, 0, []⟩ : Fm) Try.underlying36 (by kernel_rfl) (by kernel_rfl) opensF) h0 hw
  obtain ⟨A', c', e, hlc, hC⟩ := hk
  simp [Value.cells] at e
  obtain ⟨rfl, rfl, rfl⟩ := e
  exact LawMaps.law W A c fs (FIn.ofC hC hg)
end Go.Proofs.Ytedkackmccnkfaa.WalkStackMaps
