/- Blocks of pairs of whole numbers, known whole: reading and writing one, making one. No condition. -/
import Derived.Test.YtbjlmhkjlipnmaaKit
import Derived.Laws.MakeOwn
import Derived.OpenShut
set_option linter.unusedVariables false
set_option linter.unusedSimpArgs false
namespace Go.Proofs.Ytbjlmhkjlipnmaa.Sr
open Go.RowKit
def flat (xs : List (Int × Int)) : List Value := xs.flatMap fun p => [.int .i64 p.1, .int .i64 p.2]
/-- A block of pairs. -/
def row (e : TypeId) (xs : List (Int × Int)) : Obj := .cells (flat xs).toArray e (0, 0)
theorem flat_length (xs : List (Int × Int)) : (flat xs).length = 2 * xs.length := by
  induction xs with
  | nil => rfl
  | cons x xs ih => simp [flat] at ih ⊢; omega
theorem flat_get (xs : List (Int × Int)) : ∀ j, j < xs.length → (flat xs)[j * 2]? = some (.int .i64 (xs.getD j (0, 0)).1) ∧ (flat xs)[j * 2 + 1]? = some (.int .i64 (xs.getD j (0, 0)).2) := by
  induction xs with
  | nil => intro j h; simp at h
  | cons x xs ih =>
    intro j h
    cases j with
    | zero => exact ⟨rfl, rfl⟩
    | succ j =>
      have := ih j (by simpa using h)
      rw [show (j + 1) * 2 = j * 2 + 2 by omega]
      exact this
theorem flat_set (xs : List (Int × Int)) : ∀ j, j < xs.length → ∀ v : Int, (flat xs).set (j * 2) (.int .i64 v) = flat (xs.set j (v, (xs.getD j (0, 0)).2)) ∧ (flat xs).set (j * 2 + 1) (.int .i64 v) = flat (xs.set j ((xs.getD j (0, 0)).1, v)) := by
  induction xs with
  | nil => intro j h; simp at h
  | cons x xs ih =>
    intro j h v
    cases j with
    | zero => exact ⟨rfl, rfl⟩
    | succ j =>
      have := ih j (by simpa using h) v
      rw [show (j + 1) * 2 = j * 2 + 2 by omega]
      constructor
      · exact congrArg (fun l => Value.int .i64 x.1 :: Value.int .i64 x.2 :: l) this.1
      · exact congrArg (fun l => Value.int .i64 x.1 :: Value.int .i64 x.2 :: l) this.2
section
variable {w : World} {r : Nat} {e : TypeId} {xs : List (Int × Int)}
theorem cell (h : w.heap[r]? = some (row e xs)) (j : Nat) (hj : j < xs.length) : w.cell? ⟨r, j * 2, none⟩ = some (.int .i64 (xs.getD j (0, 0)).1) ∧ w.cell? ⟨r, j * 2 + 1, none⟩ = some (.int .i64 (xs.getD j (0, 0)).2) := by
  rw [Kit.cell_of h, Kit.cell_of h]
  have := flat_get xs j hj
  simpa using this
theorem frozen (h : w.heap[r]? = some (row e xs)) (i : Nat) : w.frozen? ⟨r, i, none⟩ = false := Kit.frozen_of h i
theorem set1 (h : w.heap[r]? = some (row e xs)) (j : Nat) (hj : j < xs.length) (v : Int) : (w.setCell ⟨r, j * 2, none⟩ (.int .i64 v)).heap[r]? = some (row e (xs.set j (v, (xs.getD j (0, 0)).2))) := by
  rw [Kit.set_blk h]
  unfold row
  rw [← (flat_set xs j hj v).1]
  simp
theorem set2 (h : w.heap[r]? = some (row e xs)) (j : Nat) (hj : j < xs.length) (v : Int) : (w.setCell ⟨r, j * 2 + 1, none⟩ (.int .i64 v)).heap[r]? = some (row e (xs.set j ((xs.getD j (0, 0)).1, v))) := by
  rw [Kit.set_blk h]
  unfold row
  rw [← (flat_set xs j hj v).2]
  simp
theorem set12 (h : w.heap[r]? = some (row e xs)) (j : Nat) (hj : j < xs.length) (a b : Int) : ((w.setCell ⟨r, j * 2, none⟩ (.int .i64 a)).setCell ⟨r, j * 2 + 1, none⟩ (.int .i64 b)).heap[r]? = some (row e (xs.set j (a, b))) := by
  have h2 := set2 (set1 h j hj a) j (by simpa using hj) b
  rw [h2]
  simp [List.getD_eq_getElem?_getD, hj]
/-- A slice of many zero pairs is made. -/
theorem made (P : Program) (w : World) (t e : TypeId) (b : Nat) (ht : P.underlying t = some (.slice e)) (hi : (P.info? e).map (fun i => (i.zero, i.size, i.bytes)) = some (some (.agg #[.int .i64 0, .int .i64 0]), 2, b)) (n : Int) (h0 : 0 ≤ n) (h1 : (b : Int) * n ≤ 281474976710656) (h2 : n ≤ 9223372036854775807) :
    (Instr.makeSlice t (.int .i64 n) (.int .i64 n)).run P w = .ok (.slice (some ⟨w.heap.size, 0, none⟩) n.toNat n.toNat) (w.alloc (row e (List.replicate n.toNat (0, 0)))) := by
  rw [Option.map_eq_some_iff] at hi
  obtain ⟨i, hi, hz⟩ := hi
  simp only [Prod.mk.injEq] at hz
  obtain ⟨hz, hs, hb⟩ := hz
  rw [run_make w t e i (.agg #[.int .i64 0, .int .i64 0]) ht hi hz .i64 .i64 n n h0 (Int.le_refl _) (by rw [hb]; exact h1) h2, hs]
  have : madeCells (Value.agg #[.int .i64 0, .int .i64 0]).cells (n.toNat * 2) = (flat (List.replicate n.toNat (0, 0))).toArray := by
    apply Array.ext
    · simp [size_madeCells, flat_length]; omega
    · intro j h1 h2
      have hh : (flat (List.replicate n.toNat ((0 : Int), (0 : Int))))[j]? = some (.int .i64 0) := by
        rw [size_madeCells] at h1
        have g := flat_get (List.replicate n.toNat ((0 : Int), (0 : Int))) (j / 2) (by simp; omega)
        have : (List.replicate n.toNat ((0 : Int), (0 : Int))).getD (j / 2) (0, 0) = (0, 0) := by simp [List.getD_eq_getElem?_getD, List.getElem?_replicate]; split <;> rfl
        rw [this] at g
        by_cases hj : j % 2 = 0
        · rw [show j / 2 * 2 = j by omega] at g; exact g.1
        · rw [show j / 2 * 2 + 1 = j by omega] at g; exact g.2
      have h3 := (List.getElem?_eq_some_iff.1 hh).2
      have h4 : (flat (List.replicate n.toNat ((0 : Int), (0 : Int)))).toArray[j] = Value.int .i64 0 := by rw [← h3]; rfl
      rw [h4]
      have : j % 2 = 0 ∨ j % 2 = 1 := by omega
      rcases this with e | e <;> simp [madeCells, Value.cells, e]
  rw [this]
  rfl
end
end Go.Proofs.Ytbjlmhkjlipnmaa.Sr
