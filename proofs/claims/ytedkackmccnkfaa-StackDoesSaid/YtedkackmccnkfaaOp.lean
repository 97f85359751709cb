/- Opening arguments of whatever depth (numbers, bools, strings, structs, slices of such): the kind's own reading, and how large what was read may be. No condition. -/
import Derived.Test.YtedkackmccnkfaaWWords
import Derived.Handed
import Derived.Deep.Slices
import Derived.WideShapes
import Derived.ChangeArms
set_option linter.unusedVariables false
namespace Go.Proofs.Ytedkackmccnkfaa.Op
open Go Go.ChangeShapes Go.WideShapes Go.RowKit Go.Proofs.YtedkackmccnkfaaW.PrintWords
section
variable {H : Type} {enc : TypeId × Value → H} {P : Program} {w : World} {sp : Nat → Bool} {held : Bool}
/-- Values of a type read as a kind, and what is told of them. -/
def Opens (enc : TypeId × Value → H) (P : Program) (w : World) (sp : Nat → Bool) (held : Bool) {α : Type} (d : Kd α) (t : TypeId) (G : α → Prop) : Prop :=
  P.cellsOf t = d.sz ∧ ∀ (fuel : Nat) (cs : List Value) (x : DataW H × List MemPlace), DataW.trod enc P w 0 sp held fuel t cs = some x → (∀ m ∈ x.1.weights P t, m ≤ reachBytes) → ∃ v : α, d.K w v cs ∧ G v
theorem opens_int {t : TypeId} {k : IntKind} (ht : P.underlying t = some (.int k)) (hc : P.cellsOf t = 1) : Opens enc P w sp held (Kd.int k) t (fun n => (Lit.int k n).wf = true) :=
  ⟨hc, fun fuel cs x h _ => by
    obtain ⟨n, e, _, wf⟩ := DataW.trod_int ht h
    exact ⟨n, e, wf⟩⟩
theorem opens_bool {t : TypeId} (ht : P.underlying t = some .bool) (hc : P.cellsOf t = 1) : Opens enc P w sp held Kd.bool t (fun _ => True) :=
  ⟨hc, fun fuel cs x h _ => by
    obtain ⟨b, e, _⟩ := DataW.trod_bool ht h
    exact ⟨b, e, trivial⟩⟩
theorem opens_string {t : TypeId} (ht : P.underlying t = some .string) (hc : P.cellsOf t = 1) : Opens enc P w sp held Kd.string t (fun s => s.size ≤ 140737488351232) :=
  ⟨hc, fun fuel cs x h hw => by
    obtain ⟨s, e, ex, _⟩ := DataW.trod_string ht h
    refine ⟨s, e, ?_⟩
    rw [ex] at hw
    have := hw s.data.toList.length (by simp [DataW.weights])
    simpa [reachBytes] using this⟩
theorem opens_iso {α β : Type} {d : Kd α} {t : TypeId} {G : α → Prop} (h : Opens enc P w sp held d t G) (f : β → α) (g : α → β) (hg : ∀ a, f (g a) = a) : Opens enc P w sp held (Kd.iso d f) t (fun b => G (f b)) :=
  ⟨h.1, fun fuel cs x ht hw => by
    obtain ⟨v, hk, hv⟩ := h.2 fuel cs x ht hw
    refine ⟨g v, ?_, ?_⟩
    · show d.K w (f (g v)) cs
      rw [hg]; exact hk
    · show G (f (g v))
      rw [hg]; exact hv⟩
/-- A struct's fields from one on, one behind the other from a cell on. -/
def OpensF (enc : TypeId × Value → H) (P : Program) (w : World) (sp : Nat → Bool) (held : Bool) {α : Type} (d : Kd α) (fs : List Field) (o : Nat) (G : α → Prop) : Prop :=
  ∀ (n : Nat) (cs : List Value) (xs : List (DataW H × List MemPlace)), xs.length = fs.length → o + d.sz ≤ cs.length → (∀ (i : Nat) (f : Field), fs[i]? = some f → DataW.trod enc P w 0 sp held n f.type ((cs.drop f.offset).take (P.cellsOf f.type)) = xs[i]?) →
    (∀ m ∈ DataW.weightsEach P (fs.map (·.type)) (xs.map (·.1)), m ≤ reachBytes) → ∃ v : α, d.K w v ((cs.drop o).take d.sz) ∧ G v
theorem opensF_one {α : Type} {d : Kd α} {f : Field} {o : Nat} {G : α → Prop} (h : Opens enc P w sp held d f.type G) (ho : f.offset = o) : OpensF enc P w sp held d [f] o G := by
  intro n cs xs hl hlen hx hw
  match xs, hl with
  | [x], _ =>
    have e := hx 0 f rfl
    rw [ho, h.1] at e
    exact h.2 n _ x e (fun m hm => hw m (by simpa [DataW.weightsEach] using hm))
theorem opensF_cons {α β : Type} {d : Kd α} {d' : Kd β} {f : Field} {fs : List Field} {o : Nat} {G : α → Prop} {G' : β → Prop} (h : Opens enc P w sp held d f.type G) (ho : f.offset = o) (h' : OpensF enc P w sp held d' fs (o + d.sz) G') :
    OpensF enc P w sp held (Kd.pair d d') (f :: fs) o (fun v => G v.1 ∧ G' v.2) := by
  intro n cs xs hl hlen hx hw
  have hsz : (Kd.pair d d').sz = d.sz + d'.sz := rfl
  rw [hsz] at hlen ⊢
  match xs, hl with
  | x :: xs, hl =>
    have e := hx 0 f rfl
    rw [ho, h.1] at e
    obtain ⟨v, hv, gv⟩ := h.2 n _ x e (fun m hm => hw m (by simp only [List.map_cons, DataW.weightsEach, List.mem_append]; exact .inl hm))
    obtain ⟨v', hv', gv'⟩ := h' n cs xs (by simpa using hl) (by omega) (fun i f hf => hx (i + 1) f hf) (fun m hm => hw m (by simp only [List.map_cons, DataW.weightsEach, List.mem_append]; exact .inr hm))
    refine ⟨(v, v'), ⟨_, _, ?_, hv, hv'⟩, gv, gv'⟩
    rw [List.take_add, List.drop_drop]
theorem opens_struct {α : Type} {d : Kd α} {t : TypeId} {fs : Array Field} {fl : List Field} {G : α → Prop} (ht : P.underlying t = some (.struct fs)) (hfl : fs.toList = fl) (hc : P.cellsOf t = d.sz) (h : OpensF enc P w sp held d fl 0 G) : Opens enc P w sp held d t G :=
  ⟨hc, fun fuel cs x hx hw => by
    obtain ⟨xs, n, _, rfl, hl, hlen, hf⟩ := DataW.trod_struct ht hx
    rw [hc] at hl
    have := h n cs xs (by rw [hlen, ← hfl]; simp) (by omega) (fun i f hi => hf i f (by rw [← hfl] at hi; simpa using hi)) (fun m hm => hw m (by simp only [DataW.weights, ht]; rw [hfl]; exact hm))
    rw [List.drop_zero, ← hl, List.take_length] at this
    exact this⟩
theorem weights_all {e : TypeId} : ∀ {l : List (DataW H)} {i : Nat} {d : DataW H}, l[i]? = some d → ∀ m ∈ d.weights P e, m ∈ DataW.weightsAll P e l
  | d0 :: l, 0, d, h, m, hm => by
    simp only [List.getElem?_cons_zero, Option.some.injEq] at h
    subst h
    simp only [DataW.weightsAll, List.mem_append]
    exact .inl hm
  | d0 :: l, i + 1, d, h, m, hm => by
    simp only [List.getElem?_cons_succ] at h
    simp only [DataW.weightsAll, List.mem_append]
    exact .inr (weights_all h m hm)
  | [], _, _, h, _, _ => by simp at h
theorem opens_slice {α : Type} {d : Kd α} {t e : TypeId} {G : α → Prop} {B : Nat} (z : α) (ht : P.underlying t = some (.slice e)) (hc : P.cellsOf t = 1) (hB : P.bytesOf e = B) (h : Opens enc P w sp held d e G) :
    Opens enc P w sp held (Kd.slice e d) t (fun xs => (∀ x ∈ xs, G x) ∧ xs.length * B ≤ 140737488351232 ∧ xs.length ≤ 9223372036854775807) :=
  ⟨hc, fun fuel cs x hx hw => by
    rcases Go.Deep.open_slice ht hx with h0 | ⟨a, len, cap, m, n, D, Pl, rfl, _, hl, hm, hmm, rfl, hi⟩
    · refine ⟨[], ⟨none, 0, h0.1, Nat.le_refl _, rfl, Nat.zero_le _, fun h => absurd h (Nat.lt_irrefl _)⟩, ?_⟩
      refine ⟨fun y hy => ?_, ?_, ?_⟩
      · cases hy
      · simp
      · simp
    · have hlm : len ≤ m := by rw [hmm]; split <;> omega
      have each : ∀ i, ∃ v : α, i < len → G v ∧ ∃ c, c.length = d.sz ∧ d.K w v c ∧ ∀ j u, c[j]? = some u → w.cell? (a.add (i * d.sz + j)) = some u := fun i => by
        by_cases hlt : i < len
        · obtain ⟨cs', hcs, htr⟩ := hi i (by omega)
          rw [h.1] at hcs
          obtain ⟨v, hk, hg⟩ := h.2 n cs' _ htr (fun m' hm' => hw m' (by
            simp only [DataW.weights, ht, List.mem_cons, List.mem_append]
            exact .inr (.inl (weights_all (i := i) (d := D i) (by simp [hlt]) m' hm'))))
          obtain ⟨hlen, _, hat⟩ := World.cells?_some hcs
          refine ⟨v, fun _ => ⟨hg, cs', d.K_len hk, hk, fun j u hu => ?_⟩⟩
          have hj := (List.getElem?_eq_some_iff.1 hu).1
          have := d.K_len hk
          rw [← Go.Deep.add_add, hat j (by omega), hu]
        · exact ⟨z, fun hh => absurd hh hlt⟩
      have hlen : len ≤ 9223372036854775807 := by unfold maxLen at hm; omega
      have hlw : len * B ≤ 140737488351232 := by
        have := hw (((List.range len).map D).length + ((List.range (m - len)).map fun j => D (len + j)).length |> fun q => q * P.bytesOf e) (by simp [DataW.weights, ht])
        simp only [List.length_map, List.length_range] at this
        rw [hB] at this
        have h2 : len * B ≤ (len + (m - len)) * B := Nat.mul_le_mul_right _ (by omega)
        simp [reachBytes] at this
        omega
      refine ⟨(List.range len).map fun i => Classical.choose (each i), ⟨some a, cap, by simp, by simpa using hl, by simp, by simpa using hlen, fun _ => ⟨a, rfl, fun j p hp => ?_⟩⟩, fun x hx => ?_, by simpa using hlw, by simpa using hlen⟩
      · rw [List.getElem?_map, Option.map_eq_some_iff] at hp
        obtain ⟨i, hi2, rfl⟩ := hp
        obtain ⟨hj, e⟩ := List.getElem?_eq_some_iff.1 hi2
        simp at hj e
        subst e
        obtain ⟨_, c, h1, h2, h3⟩ := Classical.choose_spec (each j) hj
        exact ⟨c, h1, h2, h3⟩
      · rw [List.mem_map] at hx
        obtain ⟨i, hi2, rfl⟩ := hx
        exact (Classical.choose_spec (each i) (List.mem_range.1 hi2)).1⟩
/-- An argument. -/
theorem opens_arg {α : Type} {d : Kd α} {t : TypeId} {G : α → Prop} {v : Value} {dd : DataW H} {p : List MemPlace} (h : Opens enc P w sp held d t G) (ht : DataW.Trod enc P w 0 sp held t v dd p) (hw : ∀ m ∈ dd.weights P t, m ≤ reachBytes) : ∃ x : α, d.K w x v.cells.toList ∧ G x := by
  obtain ⟨fuel, hf⟩ := ht
  exact h.2 fuel _ _ hf hw
end
end Go.Proofs.Ytedkackmccnkfaa.Op
