/- Opening arguments: structs whose fields are all whole numbers, by value, and slices of such structs. No condition. -/
import Derived.ProofKit
import Derived.OpenShut
import Derived.Deep.Slices
import Derived.WideShapes
namespace Go.Proofs.Ytobplcehaeejoaa.Ag
open Go Go.ChangeShapes Go.WideShapes Go.RowKit
/-- Are these fields one whole number each, of these kinds, one behind the other? -/
def isInts (P : Program) (fs : Array Field) (ks : List IntKind) : Bool :=
  fs.size == ks.length && (List.range fs.size).all fun j => match fs[j]?, ks[j]? with
    | some f, some k => f.offset == j && P.cellsOf f.type == 1 && (match P.underlying f.type with | some (.int k') => decide (k' = k) | _ => false)
    | _, _ => false
theorem isInts_at {P : Program} {fs : Array Field} {ks : List IntKind} (h : isInts P fs ks = true) : fs.size = ks.length ∧ ∀ (j : Nat) (k : IntKind), ks[j]? = some k → ∃ f, fs[j]? = some f ∧ f.offset = j ∧ P.cellsOf f.type = 1 ∧ P.underlying f.type = some (.int k) := by
  unfold isInts at h
  rw [Bool.and_eq_true, beq_iff_eq, List.all_eq_true] at h
  refine ⟨h.1, fun j k hk => ?_⟩
  have hj : j < fs.size := by rw [h.1]; exact (List.getElem?_eq_some_iff.1 hk).1
  have hx := h.2 j (List.mem_range.2 hj)
  rw [Array.getElem?_eq_getElem hj, hk] at hx
  simp only [Bool.and_eq_true, beq_iff_eq] at hx
  obtain ⟨⟨ho, hc⟩, hu⟩ := hx
  refine ⟨_, Array.getElem?_eq_getElem hj, ho, hc, ?_⟩
  split at hu
  · rename_i k' he
    rw [he, of_decide_eq_true hu]
  · exact absurd hu (by simp)
section
variable {H : Type} {enc : TypeId × Value → H} {P : Program} {w : World} {base : Nat} {sp : Nat → Bool} {held : Bool}
/-- The cells of such a struct. -/
theorem struct_ints {t : TypeId} {fs : Array Field} {ks : List IntKind} {fuel : Nat} {cs : List Value} {x : DataW H × List MemPlace} (ht : P.underlying t = some (.struct fs)) (hB : isInts P fs ks = true) (hC : P.cellsOf t = ks.length)
    (h : DataW.trod enc P w base sp held fuel t cs = some x) :
    ∃ l : List Int, l.length = ks.length ∧ cs.length = ks.length ∧ ∀ (j : Nat) (k : IntKind), ks[j]? = some k → ∃ n : Int, l[j]? = some n ∧ cs[j]? = some (Value.int k n) ∧ (Lit.int k n).wf = true := by
  obtain ⟨hs, hf⟩ := isInts_at hB
  obtain ⟨xs, m, _, _, hlen, hxl, hel⟩ := DataW.trod_struct ht h
  rw [hC] at hlen
  have each : ∀ (j : Nat) (k : IntKind), ks[j]? = some k → ∃ n : Int, cs[j]? = some (Value.int k n) ∧ (Lit.int k n).wf = true := fun j k hk => by
    obtain ⟨f, hfj, ho, hc, hu⟩ := hf j k hk
    have hj := (List.getElem?_eq_some_iff.1 hk).1
    have e := hel j f hfj
    rw [ho, hc, List.getElem?_eq_getElem (by omega)] at e
    obtain ⟨n, e1, _, wf⟩ := DataW.trod_int hu e
    have e2 : ((cs.drop j).take 1)[0]? = some (Value.int k n) := by rw [e1]; rfl
    exact ⟨n, by simpa [List.getElem?_take, List.getElem?_drop] using e2, wf⟩
  refine ⟨cs.map intOf, by simpa using hlen, hlen, fun j k hk => ?_⟩
  obtain ⟨n, e, wf⟩ := each j k hk
  exact ⟨n, by rw [List.getElem?_map, e]; rfl, e, wf⟩
/-- By value: five numbers. -/
theorem open5 {r : Reach} {b0 : Nat} {t : TypeId} {fs : Array Field} {k0 k1 k2 k3 k4 : IntKind} {v : Value} {d : DataW H} {p : List MemPlace} (ht : P.underlying t = some (.struct fs)) (hB : isInts P fs [k0, k1, k2, k3, k4] = true) (hC : P.cellsOf t = 5)
    (hv : Value.okWide P w r b0 t v) (h : DataW.Trod enc P w base sp held t v d p) :
    ∃ a0 a1 a2 a3 a4 : Int, v = Value.agg #[.int k0 a0, .int k1 a1, .int k2 a2, .int k3 a3, .int k4 a4] ∧ (Lit.int k0 a0).wf = true ∧ (Lit.int k1 a1).wf = true ∧ (Lit.int k2 a2).wf = true ∧ (Lit.int k3 a3).wf = true ∧ (Lit.int k4 a4).wf = true := by
  obtain ⟨cs, rfl, hsz⟩ := okWide_struct ht hv
  obtain ⟨fuel, hf⟩ := h
  obtain ⟨l, hl, hcl, hx⟩ := struct_ints ht hB hC hf
  obtain ⟨n0, _, e0, w0⟩ := hx 0 k0 rfl
  obtain ⟨n1, _, e1, w1⟩ := hx 1 k1 rfl
  obtain ⟨n2, _, e2, w2⟩ := hx 2 k2 rfl
  obtain ⟨n3, _, e3, w3⟩ := hx 3 k3 rfl
  obtain ⟨n4, _, e4, w4⟩ := hx 4 k4 rfl
  refine ⟨n0, n1, n2, n3, n4, ?_, w0, w1, w2, w3, w4⟩
  obtain ⟨cl⟩ := cs
  match cl, hcl with
  | [c0, c1, c2, c3, c4], _ =>
    simp [Value.cells] at e0 e1 e2 e3 e4
    subst e0 e1 e2 e3 e4
    rfl
/-- A slice of such structs: nil, or a row of cells, each element's numbers one behind the other. -/
theorem open_structs {t e : TypeId} {fs : Array Field} {ks : List IntKind} {fuel : Nat} {cs : List Value} {x : DataW H × List MemPlace} (ht : P.underlying t = some (.slice e)) (he : P.underlying e = some (.struct fs)) (hB : isInts P fs ks = true) (hC : P.cellsOf e = ks.length)
    (h : DataW.trod enc P w base sp held fuel t cs = some x) :
    cs = [.slice none 0 0] ∨ ∃ (a : Addr) (len cap : Nat) (L : Nat → List Int), cs = [.slice (some a) len cap] ∧ len ≤ cap ∧ cap ≤ maxLen ∧
      ∀ i, i < len → (L i).length = ks.length ∧ ∀ (j : Nat) (k : IntKind), ks[j]? = some k → ∃ n : Int, (L i)[j]? = some n ∧ w.cell? (a.add (i * ks.length + j)) = some (Value.int k n) ∧ (Lit.int k n).wf = true := by
  rcases Go.Deep.open_slice ht h with h0 | ⟨a, len, cap, m, n, D, Pl, hcs, _, hl, hm, hmm, _, hi⟩
  · exact .inl h0.1
  · have each : ∀ i, ∃ L : List Int, i < len → L.length = ks.length ∧ ∀ (j : Nat) (k : IntKind), ks[j]? = some k → ∃ n : Int, L[j]? = some n ∧ w.cell? (a.add (i * ks.length + j)) = some (Value.int k n) ∧ (Lit.int k n).wf = true := fun i => by
      by_cases hlt : i < len
      · obtain ⟨cs', hc, ht'⟩ := hi i (by rw [hmm]; split <;> omega)
        rw [hC] at hc
        obtain ⟨l, hl', _, hx⟩ := struct_ints he hB hC ht'
        obtain ⟨_, _, hat⟩ := World.cells?_some hc
        refine ⟨l, fun _ => ⟨hl', fun j k hk => ?_⟩⟩
        obtain ⟨n, e1, e2, wf⟩ := hx j k hk
        have hj := (List.getElem?_eq_some_iff.1 hk).1
        refine ⟨n, e1, ?_, wf⟩
        rw [← Go.Deep.add_add, hat j hj, e2]
      · exact ⟨[], fun h => absurd h hlt⟩
    exact .inr ⟨a, len, cap, fun i => Classical.choose (each i), hcs, hl, hm, fun i hlt => Classical.choose_spec (each i) hlt⟩
end
/-- What a walk is told of a slice of such structs that came in: L i: the numbers of element i. -/
structure Rows (w : World) (A : Option Addr) (len : Nat) (ks : List IntKind) (L : Nat → List Int) : Prop where
  max : len ≤ 9223372036854775807
  cells : 0 < len → ∃ b off, A = some ⟨b, off, none⟩ ∧ b < w.heap.size ∧ ∀ i, i < len → (L i).length = ks.length ∧ ∀ (j : Nat) (k : IntKind), ks[j]? = some k → ∃ n : Int, (L i)[j]? = some n ∧ w.cell? ⟨b, off + (i * ks.length + j), none⟩ = some (Value.int k n) ∧ (Lit.int k n).wf = true
section
variable {H : Type} {enc : TypeId × Value → H} {P : Program} {w : World} {base : Nat} {sp : Nat → Bool} {held : Bool}
theorem open_rows {r : Reach} {b0 : Nat} {t e : TypeId} {fs : Array Field} {ks : List IntKind} {v : Value} {d : DataW H} {p : List MemPlace} (ht : P.underlying t = some (.slice e)) (he : P.underlying e = some (.struct fs)) (hB : isInts P fs ks = true) (hC : P.cellsOf e = ks.length) (hk : 0 < ks.length)
    (hv : Value.okWide P w r b0 t v) (h : DataW.Trod enc P w base sp held t v d p) : ∃ A len cap L, v = .slice A len cap ∧ Rows w A len ks L := by
  obtain ⟨A, len, cap, rfl⟩ := okWide_slice ht hv
  obtain ⟨fuel, hf⟩ := h
  rcases open_structs ht he hB hC hf with h0 | ⟨a, len', cap', L, hcs, hl, hm, hx⟩
  · simp [Value.cells] at h0
    obtain ⟨rfl, rfl, rfl⟩ := h0
    exact ⟨none, 0, 0, fun _ => [], rfl, by omega, fun h => by omega⟩
  · simp [Value.cells] at hcs
    obtain ⟨rfl, rfl, rfl⟩ := hcs
    refine ⟨some a, len, cap, L, rfl, by unfold maxLen at hm; omega, fun h0 => ?_⟩
    obtain ⟨k0, hk0⟩ : ∃ k, ks[0]? = some k := ⟨_, List.getElem?_eq_getElem hk⟩
    obtain ⟨n0, _, hc0, _⟩ := (hx 0 h0).2 0 k0 hk0
    obtain ⟨b, off, spot⟩ := a
    have hspot : spot = none := by simpa [Addr.add] using World.cell?_spot hc0
    subst hspot
    refine ⟨b, off, rfl, ?_, fun i hi => ⟨(hx i hi).1, fun j k hk => ?_⟩⟩
    · have := World.block_lt_of_cell? w _ hc0
      simpa [Addr.add] using this
    · obtain ⟨n, e1, e2, wf⟩ := (hx i hi).2 j k hk
      rw [Go.WideShapes.add_plain] at e2
      exact ⟨n, e1, e2, wf⟩
end
/-- What a walk is told of a slice of numbers that came in. -/
structure Nums (w : World) (A : Option Addr) (len : Nat) (k : IntKind) (zs : List Int) : Prop where
  size : zs.length = len
  max : len ≤ 9223372036854775807
  cells : 0 < len → ∃ b off, A = some ⟨b, off, none⟩ ∧ b < w.heap.size ∧ ∀ i, i < len → w.cell? ⟨b, off + i, none⟩ = some (Value.int k (zs.getD i 0))
  wf : ∀ n ∈ zs, (Lit.int k n).wf = true
section
variable {H : Type} {enc : TypeId × Value → H} {P : Program} {w : World} {base : Nat} {sp : Nat → Bool} {held : Bool}
theorem open_nums {r : Reach} {b0 : Nat} {t e : TypeId} {k : IntKind} {v : Value} {d : DataW H} {p : List MemPlace} (ht : P.underlying t = some (.slice e)) (he : P.underlying e = some (.int k)) (hC : P.cellsOf e = 1)
    (hv : Value.okWide P w r b0 t v) (h : DataW.Trod enc P w base sp held t v d p) : ∃ A len cap zs, v = .slice A len cap ∧ Nums w A len k zs := by
  obtain ⟨A, len, cap, rfl⟩ := okWide_slice ht hv
  obtain ⟨fuel, hf⟩ := h
  rcases ChangeShapes.open_ints ht he hC hf with ⟨h0, _⟩ | ⟨a, len', cap', zs, hcs, _, hl, hm, hz, _, hx, hw⟩
  · simp [Value.cells] at h0
    obtain ⟨rfl, rfl, rfl⟩ := h0
    exact ⟨none, 0, 0, [], rfl, rfl, by omega, fun h => by omega, fun n hn => by cases hn⟩
  · simp [Value.cells] at hcs
    obtain ⟨rfl, rfl, rfl⟩ := hcs
    have hle : len ≤ zs.length := by rw [hz]; split <;> omega
    refine ⟨some a, len, cap, zs.take len, rfl, by simp; omega, by unfold maxLen at hm; omega, fun h0 => ?_, fun n hn => hw n (List.mem_of_mem_take hn)⟩
    have hc0 := hx 0 (by omega)
    obtain ⟨b, off, spot⟩ := a
    have hspot : spot = none := by simpa [Addr.add] using World.cell?_spot hc0
    subst hspot
    refine ⟨b, off, rfl, ?_, fun i hi => ?_⟩
    · have := World.block_lt_of_cell? w _ hc0
      simpa [Addr.add] using this
    · have e2 := hx i (by omega)
      rw [Go.WideShapes.add_plain] at e2
      rw [e2]
      simp [List.getD_eq_getElem?_getD, List.getElem?_take_of_lt hi]
end
end Go.Proofs.Ytobplcehaeejoaa.Ag
