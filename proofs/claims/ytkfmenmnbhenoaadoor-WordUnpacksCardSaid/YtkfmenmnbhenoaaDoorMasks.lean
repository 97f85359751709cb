/- What the row's condition gives a walk: the four cells of the table masks. -/
import Derived.Test.YtkfmenmnbhenoaaDoorRows
import Derived.ProofKit
import Derived.LaidMore
import Derived.Lib.SmallJoins
import Derived.OpenShut
import Derived.Stop.Joined
namespace Go.Proofs.YtkfmenmnbhenoaaDoor.Masks
open Go Go.ChangeShapes Go.WideShapes Go.RowKit
section
variable {H : Type} {enc : TypeId × Value → H} {P : Program} {w : World} {base : Nat} {sp : Nat → Bool} {held : Bool} {fuel : Nat} {cs : List Value}
/-- An array's element, read by itself. -/
theorem arr_elem {t e : TypeId} {n : Nat} {ds : List (DataW H)} {p : List MemPlace} (ht : P.underlying t = some (.array n e)) (h : DataW.trod enc P w base sp held fuel t cs = some (.agg ds, p)) (i : Nat) (hi : i < n) (d : DataW H) (hd : ds[i]? = some d) :
    ∃ m q, DataW.trod enc P w base sp held m e ((cs.drop (i * P.cellsOf e)).take (P.cellsOf e)) = some (d, q) := by
  obtain ⟨xs, m, _, hx, _, _, hel⟩ := DataW.trod_array ht h
  simp only [Prod.mk.injEq, DataW.agg.injEq] at hx
  obtain ⟨rfl, _⟩ := hx
  rw [List.getElem?_map, Option.map_eq_some_iff] at hd
  obtain ⟨x, hx1, rfl⟩ := hd
  exact ⟨m, x.2, (hel i hi).trans hx1⟩
theorem int_leaf {t : TypeId} {k : IntKind} {n : Int} {p : List MemPlace} (ht : P.underlying t = some (.int k)) (h : DataW.trod enc P w base sp held fuel t cs = some (.lit (.int k n), p)) : cs = [.int k n] := by
  obtain ⟨m, e1, e2, _⟩ := DataW.trod_int ht h
  simp only [Prod.mk.injEq, DataW.lit.injEq, Lit.int.injEq, true_and] at e2
  rw [e1, e2.1]
theorem cell_of_take {a : Nat} {v : Value} (h : (cs.drop a).take 1 = [v]) : cs[a]? = some v := by
  have : ((cs.drop a).take 1)[0]? = some v := by rw [h]; rfl
  simpa [List.getElem?_take, List.getElem?_drop] using this
end
theorem gM : Tryd.prog.globalNamed "midden/word.masks" = some 0 := by kernel_rfl
theorem tM : (Tryd.prog.globals[0]?).map (·.type) = some 37 := by kernel_rfl
def laid1 : List (String × DataW Unit) := [("midden/word.masks", Rows.laid_midden_word_masks)]
theorem of_laid {W : World} (h : laidMetH Tryd.prog laid1 W) : 0 < W.heap.size ∧ W.cell? ⟨0, 0, none⟩ = some (.int .u64 15) ∧ W.cell? ⟨0, 1, none⟩ = some (.int .u64 4095) ∧ W.cell? ⟨0, 2, none⟩ = some (.int .u64 4095) ∧ W.cell? ⟨0, 3, none⟩ = some (.int .u64 1048575) := by
  rw [MakeChecks.laidMetH_plain _ _ _ (by kernel_rfl)] at h
  obtain ⟨ps, ⟨g0, t0, cs0, f0, p0, q0, hg0, ht0, hv0, hd0, _, _⟩, _, _⟩ := h
  obtain rfl := Option.some.inj (gM.symm.trans hg0)
  obtain rfl := Option.some.inj (tM.symm.trans ht0)
  have c22 : Tryd.prog.cellsOf 22 = 1 := by kernel_rfl
  have leaf : ∀ (i : Nat) (n : Int), i < 4 → [(DataW.lit (.int .u64 15) : DataW Unit), .lit (.int .u64 4095), .lit (.int .u64 4095), .lit (.int .u64 1048575)][i]? = some (.lit (.int .u64 n)) → W.cell? ⟨0, i, none⟩ = some (.int .u64 n) := fun i n hi hn => by
    obtain ⟨m, q, hx⟩ := arr_elem Tryd.underlying37 hd0 i hi _ hn
    have h1 := int_leaf Tryd.underlying22 hx
    rw [c22, Nat.mul_one] at h1
    have h2 := cell_of_take h1
    have h3 := World.var?_cell hg0 hv0 i
    rw [h3]
    simpa using h2
  have m0 := leaf 0 15 (by omega) rfl
  exact ⟨World.block_lt_of_cell? W _ m0, m0, leaf 1 4095 (by omega) rfl, leaf 2 4095 (by omega) rfl, leaf 3 1048575 (by omega) rfl⟩
end Go.Proofs.YtkfmenmnbhenoaaDoor.Masks
