/- Opening an argument: a slice of structs of two numbers and a bool. No condition. -/
import Derived.Test.YtladhenjoipfpaaProg
import Derived.ProofKit
import Derived.OpenShut
import Derived.Deep.Slices
import Derived.WideShapes
import Derived.ChangeArms
set_option linter.unusedVariables false
namespace Go.Proofs.Ytladhenjoipfpaa.Ac
open Go Go.ChangeShapes Go.WideShapes Go.RowKit
/-- What a walk is told of a slice of acts: the numbers and the mark of each. -/
structure Acts (w : World) (A : Option Addr) (len : Nat) (L : Nat → Int × Int × Bool) : Prop where
  max : len ≤ 9223372036854775807
  cells : 0 < len → ∃ b off, A = some ⟨b, off, none⟩ ∧ b < w.heap.size ∧ ∀ i, i < len → w.cell? ⟨b, off + i * 3, none⟩ = some (.int .i64 (L i).1) ∧ w.cell? ⟨b, off + i * 3 + 1, none⟩ = some (.int .i64 (L i).2.1) ∧ w.cell? ⟨b, off + i * 3 + 2, none⟩ = some (.bool (L i).2.2) ∧ (Lit.int .i64 (L i).1).wf = true ∧ (Lit.int .i64 (L i).2.1).wf = true
section
variable {H : Type} {enc : TypeId × Value → H} {P : Program} {w : World} {base : Nat} {sp : Nat → Bool} {held : Bool}
theorem struct_act {t : TypeId} {f0 f1 f2 : Field} {fuel : Nat} {cs : List Value} {x : DataW H × List MemPlace} (ht : P.underlying t = some (.struct #[f0, f1, f2])) (hC : P.cellsOf t = 3)
    (o : f0.offset = 0 ∧ f1.offset = 1 ∧ f2.offset = 2) (c : P.cellsOf f0.type = 1 ∧ P.cellsOf f1.type = 1 ∧ P.cellsOf f2.type = 1) (u : P.underlying f0.type = some (.int .i64) ∧ P.underlying f1.type = some (.int .i64) ∧ P.underlying f2.type = some .bool)
    (h : DataW.trod enc P w base sp held fuel t cs = some x) : ∃ (n0 n1 : Int) (b : Bool), cs = [.int .i64 n0, .int .i64 n1, .bool b] ∧ (Lit.int .i64 n0).wf = true ∧ (Lit.int .i64 n1).wf = true := by
  obtain ⟨xs, m, _, _, hlen, hxl, hel⟩ := DataW.trod_struct ht h
  rw [hC] at hlen
  have hx : xs.length = 3 := by simpa using hxl
  match cs, hlen with
  | [c0, c1, c2], _ =>
    have e0 := hel 0 f0 rfl
    have e1 := hel 1 f1 rfl
    have e2 := hel 2 f2 rfl
    rw [o.1, c.1, List.getElem?_eq_getElem (by omega)] at e0
    rw [o.2.1, c.2.1, List.getElem?_eq_getElem (by omega)] at e1
    rw [o.2.2, c.2.2, List.getElem?_eq_getElem (by omega)] at e2
    obtain ⟨n0, a0, _, w0⟩ := DataW.trod_int u.1 e0
    obtain ⟨n1, a1, _, w1⟩ := DataW.trod_int u.2.1 e1
    obtain ⟨b, a2, _⟩ := DataW.trod_bool u.2.2 e2
    simp at a0 a1 a2
    subst a0 a1 a2
    exact ⟨n0, n1, b, rfl, w0, w1⟩
theorem open_acts {r : Reach} {b0 : Nat} {t e : TypeId} {f0 f1 f2 : Field} {v : Value} {d : DataW H} {p : List MemPlace} (ht : P.underlying t = some (.slice e)) (he : P.underlying e = some (.struct #[f0, f1, f2])) (hC : P.cellsOf e = 3)
    (o : f0.offset = 0 ∧ f1.offset = 1 ∧ f2.offset = 2) (c : P.cellsOf f0.type = 1 ∧ P.cellsOf f1.type = 1 ∧ P.cellsOf f2.type = 1) (u : P.underlying f0.type = some (.int .i64) ∧ P.underlying f1.type = some (.int .i64) ∧ P.underlying f2.type = some .bool)
    (hv : Value.okWide P w r b0 t v) (h : DataW.Trod enc P w base sp held t v d p) : ∃ A len cap L, v = .slice A len cap ∧ Acts w A len L := by
  obtain ⟨A, len, cap, rfl⟩ := okWide_slice ht hv
  obtain ⟨fuel, hf⟩ := h
  rcases Go.Deep.open_slice ht hf with h0 | ⟨a, len', cap', m, n, D, Pl, hcs, _, hl, hm, hmm, _, hi⟩
  · have h0 := h0.1
    simp [Value.cells] at h0
    obtain ⟨rfl, rfl, rfl⟩ := h0
    exact ⟨none, 0, 0, fun _ => (0, 0, false), rfl, by omega, fun h => by omega⟩
  · simp [Value.cells] at hcs
    obtain ⟨rfl, rfl, rfl⟩ := hcs
    have each : ∀ i, ∃ q : Int × Int × Bool, i < len → w.cell? (a.add (i * 3)) = some (.int .i64 q.1) ∧ w.cell? (a.add (i * 3 + 1)) = some (.int .i64 q.2.1) ∧ w.cell? (a.add (i * 3 + 2)) = some (.bool q.2.2) ∧ (Lit.int .i64 q.1).wf = true ∧ (Lit.int .i64 q.2.1).wf = true := fun i => by
      by_cases hlt : i < len
      · obtain ⟨cs', hc, ht'⟩ := hi i (by rw [hmm]; split <;> omega)
        rw [hC] at hc
        obtain ⟨n0, n1, b, hcs, w0, w1⟩ := struct_act he hC o c u ht'
        obtain ⟨_, _, hat⟩ := World.cells?_some hc
        refine ⟨(n0, n1, b), fun _ => ⟨?_, ?_, ?_, w0, w1⟩⟩
        · have := hat 0 (by omega)
          rw [hcs, Go.Deep.add_add] at this
          exact this
        · rw [← Go.Deep.add_add, hat 1 (by omega), hcs]; rfl
        · rw [← Go.Deep.add_add, hat 2 (by omega), hcs]; rfl
      · exact ⟨(0, 0, false), fun h => absurd h hlt⟩
    refine ⟨some a, len, cap, fun i => Classical.choose (each i), rfl, by unfold maxLen at hm; omega, fun h0 => ?_⟩
    have hc0 := (Classical.choose_spec (each 0) h0).1
    obtain ⟨b, off, spot⟩ := a
    have hspot : spot = none := by simpa [Addr.add] using World.cell?_spot hc0
    subst hspot
    refine ⟨b, off, rfl, ?_, fun i hi => ?_⟩
    · have := World.block_lt_of_cell? w _ hc0
      simpa [Addr.add] using this
    · obtain ⟨h1, h2, h3, h4, h5⟩ := Classical.choose_spec (each i) hi
      exact ⟨(show w.cell? ⟨b, off + i * 3, none⟩ = w.cell? ((⟨b, off, none⟩ : Addr).add (i * 3)) by rw [Go.WideShapes.add_plain]).trans h1,
        (show w.cell? ⟨b, off + i * 3 + 1, none⟩ = w.cell? ((⟨b, off, none⟩ : Addr).add (i * 3 + 1)) by rw [Go.WideShapes.add_plain, Nat.add_assoc]).trans h2,
        (show w.cell? ⟨b, off + i * 3 + 2, none⟩ = w.cell? ((⟨b, off, none⟩ : Addr).add (i * 3 + 2)) by rw [Go.WideShapes.add_plain, Nat.add_assoc]).trans h3, h4, h5⟩
end
end Go.Proofs.Ytladhenjoipfpaa.Ac
