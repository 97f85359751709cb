/- What the row's condition gives a walk: the table of primitives, cell by cell. -/
import Derived.Test.YtcmdjdhiocbmnaaDoorRows
import Derived.Test.YtcmdjdhiocbmnaaDoorLaid
import Derived.Test.YtcmdjdhiocbmnaaDoorOf
namespace Go.Proofs.YtcmdjdhiocbmnaaDoor.TabIs
open Go Go.ChangeShapes Go.WideShapes Go.RowKit
open Of (nm ar nd str Tab)
def rows : List (DataW Unit) := match (Rows.laid_midden_prim_table : DataW Unit) with | .agg l => l | _ => []
def rowD (i : Nat) : DataW Unit := .agg [.lit (.string (Of.names.getD i [])), .lit (.int .i64 (ar i)), .agg [.lit (.int .i64 (nd i 0)), .lit (.int .i64 (nd i 1)), .lit (.int .i64 (nd i 2))]]
theorem row_at : ∀ i, i < 17 → rows[i]? = some (rowD i)
  | 0, _ => rfl
  | 1, _ => rfl
  | 2, _ => rfl
  | 3, _ => rfl
  | 4, _ => rfl
  | 5, _ => rfl
  | 6, _ => rfl
  | 7, _ => rfl
  | 8, _ => rfl
  | 9, _ => rfl
  | 10, _ => rfl
  | 11, _ => rfl
  | 12, _ => rfl
  | 13, _ => rfl
  | 14, _ => rfl
  | 15, _ => rfl
  | 16, _ => rfl
  | n + 17, h => absurd h (by omega)
theorem gT : Tryd.prog.globalNamed "midden/prim.table" = some 0 := by kernel_rfl
theorem tT : (Tryd.prog.globals[0]?).map (·.type) = some 38 := by kernel_rfl
theorem c36 : Tryd.prog.cellsOf 36 = 5 := by kernel_rfl
theorem c34 : Tryd.prog.cellsOf 34 = 3 := by kernel_rfl
theorem c3 : Tryd.prog.cellsOf 3 = 1 := by kernel_rfl
theorem c9 : Tryd.prog.cellsOf 9 = 1 := by kernel_rfl
def laid1 : List (String × DataW Unit) := [("midden/prim.table", Rows.laid_midden_prim_table)]
theorem of_laid {W : World} (h : laidMetH Tryd.prog laid1 W) : Tab W := by
  rw [MakeChecks.laidMetH_plain _ _ _ (by kernel_rfl)] at h
  obtain ⟨ps, ⟨g0, t0, cs0, f0, p0, q0, hg0, ht0, hv0, hd0, _, _⟩, _, _⟩ := h
  obtain rfl := Option.some.inj (gT.symm.trans hg0)
  obtain rfl := Option.some.inj (tT.symm.trans ht0)
  have hrow : ∀ i, i < 17 → ∃ m q, DataW.trod _ Tryd.prog W 0 _ _ m 36 ((cs0.toList.drop (i * 5)).take 5) = some (rowD i, q) := fun i hi => by
    have := Laid.arr_elem Tryd.underlying38 (ds := rows) hd0 i hi _ (row_at i hi)
    rw [c36] at this
    exact this
  have cell : ∀ j (v : Value), cs0.toList[j]? = some v → W.cell? ⟨0, j, none⟩ = some v := fun j v hj => by
    rw [World.var?_cell hg0 hv0 j]
    simpa using hj
  have hname : ∀ i, i < 17 → W.cell? ⟨0, i * 5, none⟩ = some (.string (nm i)) := fun i hi => by
    obtain ⟨m, q, hm⟩ := hrow i hi
    obtain ⟨m1, q1, h1⟩ := Laid.struct_field Tryd.underlying36 hm 0 _ rfl _ rfl
    have h2 := Laid.str_leaf Tryd.underlying9 h1
    rw [c9] at h2
    exact cell _ _ (Laid.cell_of_take2 (b := 0) (by omega) h2)
  have har : ∀ i, i < 17 → W.cell? ⟨0, i * 5 + 1, none⟩ = some (.int .i64 (ar i)) := fun i hi => by
    obtain ⟨m, q, hm⟩ := hrow i hi
    obtain ⟨m1, q1, h1⟩ := Laid.struct_field Tryd.underlying36 hm 1 _ rfl _ rfl
    have h2 := Laid.int_leaf Tryd.underlying3 h1
    rw [c3] at h2
    exact cell _ _ (Laid.cell_of_take2 (b := 1) (by omega) h2)
  have hnd : ∀ i, i < 17 → ∀ j, j < 3 → W.cell? ⟨0, i * 5 + (2 + j), none⟩ = some (.int .i64 (nd i j)) := fun i hi j hj => by
    obtain ⟨m, q, hm⟩ := hrow i hi
    obtain ⟨m1, q1, h1⟩ := Laid.struct_field Tryd.underlying36 hm 2 _ rfl _ rfl
    rw [c34] at h1
    have hl : [(DataW.lit (.int .i64 (nd i 0)) : DataW Unit), .lit (.int .i64 (nd i 1)), .lit (.int .i64 (nd i 2))][j]? = some (.lit (.int .i64 (nd i j))) := by
      match j, hj with
      | 0, _ => rfl
      | 1, _ => rfl
      | 2, _ => rfl
      | n + 3, h => exact absurd h (by omega)
    obtain ⟨m2, q2, h2⟩ := Laid.arr_elem Tryd.underlying34 h1 j hj _ hl
    have h3 := Laid.int_leaf Tryd.underlying3 h2
    rw [c3, Nat.mul_one] at h3
    exact cell _ _ (Laid.cell_of_take3 (b := 2) hj (by omega) h3)
  exact ⟨World.block_lt_of_cell? W _ (hname 0 (by omega)), hname, har, fun i hi => hnd i hi 0 (by omega), fun i hi => hnd i hi 1 (by omega), fun i hi => hnd i hi 2 (by omega)⟩
end Go.Proofs.YtcmdjdhiocbmnaaDoor.TabIs
