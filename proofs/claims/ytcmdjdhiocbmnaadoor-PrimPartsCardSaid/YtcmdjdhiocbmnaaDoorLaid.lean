/- What a row's condition on listed variables gives a walk: leaves of arrays and structs, cell by cell. -/
import Derived.ProofKit
import Derived.LaidMore
import Derived.OpenShut
import Derived.Stop.Joined
namespace Go.Proofs.YtcmdjdhiocbmnaaDoor.Laid
open Go Go.ChangeShapes Go.WideShapes Go.RowKit
section
variable {H : Type} {enc : TypeId × Value → H} {P : Program} {w : World} {base : Nat} {sp : Nat → Bool} {held : Bool} {fuel : Nat} {cs : List Value}
/-- An array's element, read by itself. -/
theorem arr_elem {t e : TypeId} {n : Nat} {ds : List (DataW H)} {p : List MemPlace} (ht : P.underlying t = some (.array n e)) (h : DataW.trod enc P w base sp held fuel t cs = some (.agg ds, p)) (i : Nat) (hi : i < n) (d : DataW H) (hd : ds[i]? = some d) :
    ∃ m q, DataW.trod enc P w base sp held m e ((cs.drop (i * P.cellsOf e)).take (P.cellsOf e)) = some (d, q) := by
  obtain ⟨xs, m, _, hx, _, _, hel⟩ := DataW.trod_array ht h
  simp only [Prod.mk.injEq, DataW.agg.injEq] at hx
  obtain ⟨rfl, _⟩ := hx
  rw [List.getElem?_map, Option.map_eq_some_iff] at hd
  obtain ⟨x, hx1, rfl⟩ := hd
  exact ⟨m, x.2, (hel i hi).trans hx1⟩
/-- A struct's field, read by itself. -/
theorem struct_field {t : TypeId} {fs : Array Field} {ds : List (DataW H)} {p : List MemPlace} (ht : P.underlying t = some (.struct fs)) (h : DataW.trod enc P w base sp held fuel t cs = some (.agg ds, p)) (i : Nat) (f : Field) (hf : fs.toList[i]? = some f) (d : DataW H) (hd : ds[i]? = some d) :
    ∃ m q, DataW.trod enc P w base sp held m f.type ((cs.drop f.offset).take (P.cellsOf f.type)) = some (d, q) := by
  cases fuel with
  | zero => simp [DataW.trod] at h
  | succ m =>
    unfold DataW.trod at h
    rw [ht] at h
    split at h <;> simp_all
    obtain ⟨hl, xs, hp, hx, _⟩ := h
    subst hx
    rw [List.getElem?_map, Option.map_eq_some_iff] at hd
    obtain ⟨x, hx1, rfl⟩ := hd
    exact ⟨m, x.2, (mapM_some_get hp i f (by simpa using hf)).trans hx1⟩
theorem int_leaf {t : TypeId} {k : IntKind} {n : Int} {p : List MemPlace} (ht : P.underlying t = some (.int k)) (h : DataW.trod enc P w base sp held fuel t cs = some (.lit (.int k n), p)) : cs = [.int k n] := by
  obtain ⟨m, e1, e2, _⟩ := DataW.trod_int ht h
  simp only [Prod.mk.injEq, DataW.lit.injEq, Lit.int.injEq, true_and] at e2
  rw [e1, e2.1]
theorem str_leaf {t : TypeId} {l : List UInt8} {p : List MemPlace} (ht : P.underlying t = some .string) (h : DataW.trod enc P w base sp held fuel t cs = some (.lit (.string l), p)) : cs = [.string ⟨l.toArray⟩] := by
  obtain ⟨s, e1, e2, _⟩ := DataW.trod_string ht h
  simp only [Prod.mk.injEq, DataW.lit.injEq, Lit.string.injEq] at e2
  rw [e1, e2.1]
theorem cell_of_take {a : Nat} {v : Value} (h : (cs.drop a).take 1 = [v]) : cs[a]? = some v := by
  have : ((cs.drop a).take 1)[0]? = some v := by rw [h]; rfl
  simpa [List.getElem?_take, List.getElem?_drop] using this
theorem cell_of_take2 {a b n : Nat} {v : Value} (hb : b < n) (h : (((cs.drop a).take n).drop b).take 1 = [v]) : cs[a + b]? = some v := by
  have h2 := cell_of_take h
  simpa [List.getElem?_take, List.getElem?_drop, hb] using h2
theorem cell_of_take3 {a b c n k : Nat} {v : Value} (hc : c < k) (hb : b + c < n) (h : (((((cs.drop a).take n).drop b).take k).drop c).take 1 = [v]) : cs[a + (b + c)]? = some v := by
  have h2 := cell_of_take2 hc h
  have h3 : ((cs.drop a).take n)[b + c]? = some v := h2
  simpa [List.getElem?_take, List.getElem?_drop, hb] using h3
end
end Go.Proofs.YtcmdjdhiocbmnaaDoor.Laid
