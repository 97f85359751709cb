/- Blocks of numbers, known whole: reading and writing one, making one, what a copy and a clearing leave. No condition. -/
import Derived.Test.YtedkackmccnkfaaKit
import Derived.Laws.MakeOwn
import Derived.Laws.CopyOwn
import Derived.Lib.SliceRun
import Derived.Deep.AppendSrc
import Derived.OpenShut
namespace Go.Proofs.Ytedkackmccnkfaa.Rw
open Go.RowKit
/-- A block of numbers. -/
def row (k : IntKind) (e : TypeId) (xs : List Int) : Obj := .cells (xs.map (Value.int k)).toArray e (0, 0)
section
variable {w : World} {r : Nat} {k : IntKind} {e : TypeId} {xs : List Int}
theorem cell (h : w.heap[r]? = some (row k e xs)) (i : Nat) (hi : i < xs.length) : w.cell? ⟨r, i, none⟩ = some (.int k (xs.getD i 0)) := by
  rw [Kit.cell_of h i]
  simp [hi, List.getD_eq_getElem?_getD]
theorem frozen (h : w.heap[r]? = some (row k e xs)) (i : Nat) : w.frozen? ⟨r, i, none⟩ = false := Kit.frozen_of h i
theorem set (h : w.heap[r]? = some (row k e xs)) (i : Nat) (v : Int) : (w.setCell ⟨r, i, none⟩ (.int k v)).heap[r]? = some (row k e (xs.set i v)) := by
  rw [Kit.set_blk h i]
  simp [row]
/-- A slice of many zeros is made: a block of them. -/
theorem made (P : Program) (w : World) (t e : TypeId) (k : IntKind) (b : Nat) (ht : P.underlying t = some (.slice e)) (hi : (P.info? e).map (fun i => (i.zero, i.size, i.bytes)) = some (some (.int k 0), 1, b)) (n : Int) (h0 : 0 ≤ n) (h1 : (b : Int) * n ≤ 281474976710656) (h2 : n ≤ 9223372036854775807) :
    (Instr.makeSlice t (.int .i64 n) (.int .i64 n)).run P w = .ok (.slice (some ⟨w.heap.size, 0, none⟩) n.toNat n.toNat) (w.alloc (row k e (List.replicate n.toNat 0))) := by
  rw [Option.map_eq_some_iff] at hi
  obtain ⟨i, hi, hz⟩ := hi
  simp only [Prod.mk.injEq] at hz
  obtain ⟨hz, hs, hb⟩ := hz
  rw [run_make w t e i (.int k 0) ht hi hz .i64 .i64 n n h0 (Int.le_refl _) (by rw [hb]; exact h1) h2, hs]
  have : madeCells (Value.int k 0).cells (n.toNat * 1) = (List.map (Value.int k) (List.replicate n.toNat 0)).toArray := by
    apply Array.ext
    · simp [size_madeCells]
    · intro j h1 h2
      simp [madeCells, Value.cells, Nat.mod_one]
  rw [this]
  rfl
/-- Numbers laid over others, from a place on. -/
def over (xs : List Int) (o : Nat) (ys : List Int) : List Int := xs.take o ++ (ys ++ xs.drop (o + ys.length))
theorem over_nil (xs : List Int) (o : Nat) : over xs o [] = xs := by simp [over]
theorem over_cons (xs : List Int) (o : Nat) (y : Int) (ys : List Int) (h : o + (ys.length + 1) ≤ xs.length) : over (xs.set o y) (o + 1) ys = over xs o (y :: ys) := by
  unfold over
  have e1 : (xs.set o y).take (o + 1) = xs.take o ++ [y] := by
    rw [List.take_succ_eq_append_getElem (by simp; omega)]
    simp [List.take_set_of_le]
  have e2 : (xs.set o y).drop (o + 1 + ys.length) = xs.drop (o + (y :: ys).length) := by
    rw [List.drop_set_of_lt (by omega)]
    rw [show o + 1 + ys.length = o + (y :: ys).length by simp; omega]
  rw [e1, e2]
  simp
theorem length_over (xs : List Int) (o : Nat) (ys : List Int) (h : o + ys.length ≤ xs.length) : (over xs o ys).length = xs.length := by
  simp [over]; omega
theorem over_getD (xs : List Int) (o : Nat) (ys : List Int) (h : o + ys.length ≤ xs.length) (i : Nat) : (over xs o ys).getD i 0 = if o ≤ i ∧ i < o + ys.length then ys.getD (i - o) 0 else xs.getD i 0 := by
  simp only [over, List.getD_eq_getElem?_getD]
  by_cases h1 : i < o
  · rw [if_neg (by omega), List.getElem?_append_left (by simp; omega), List.getElem?_take_of_lt h1]
  · by_cases h2 : i < o + ys.length
    · rw [if_pos (by omega), List.getElem?_append_right (by simp; omega), List.getElem?_append_left (by simp; omega)]
      simp [Nat.min_eq_left (show o ≤ xs.length by omega)]
    · rw [if_neg (by omega), List.getElem?_append_right (by simp; omega), List.getElem?_append_right (by simp; omega)]
      simp [Nat.min_eq_left (show o ≤ xs.length by omega)]
      congr 2
      omega
theorem setCells_row (ys : List Int) : ∀ (w : World) (o : Nat) (xs : List Int), w.heap[r]? = some (row k e xs) → o + ys.length ≤ xs.length → (w.setCells r o (ys.map (Value.int k))).heap[r]? = some (row k e (over xs o ys)) := by
  induction ys with
  | nil => intro w o xs h _; rw [over_nil]; exact h
  | cons y ys ih =>
    intro w o xs h hl
    rw [List.length_cons] at hl
    rw [← over_cons xs o y ys hl]
    exact ih _ (o + 1) _ (set h o y) (by simp; omega)
theorem setCells_mod (vs : List Value) : ∀ (S : List Nat) (w0 w : World) (o : Nat), Kit.Mod S w0 w → r ∈ S ∨ w0.heap.size ≤ r → Kit.Mod S w0 (w.setCells r o vs) := by
  induction vs with
  | nil => intro S w0 w o h _; exact h
  | cons v vs ih => intro S w0 w o h hr; exact ih S w0 _ (o + 1) (h.setCell hr v) hr
theorem setCells_far {o : Obj} {g : Nat} (hne : g ≠ r) (vs : List Value) : ∀ (w : World) (j : Nat), w.heap[g]? = some o → (w.setCells r j vs).heap[g]? = some o := by
  induction vs with
  | nil => intro w j h; exact h
  | cons v vs ih => intro w j h; exact ih _ (j + 1) (Kit.set_far h hne v)
/-- A clearing of n words. -/
theorem cleared (P : Program) (h : w.heap[r]? = some (row k e xs)) (t ty : TypeId) (ht : P.underlying t = some (.slice e)) (hv : ∀ w, (zeroValue e).run P w = .ok (.int k 0) w) (o n c : Nat) (hn : 0 < n) (hl : o + n ≤ xs.length) :
    (Builtin.clear_ #[t] ty #[.slice (some ⟨r, o, none⟩) n c]).run P w = .ok (.tuple #[]) (w.setCells r o ((List.replicate n 0).map (Value.int k))) := by
  rw [Lib.run_clear_slice w t e ty (.int k 0) ht hv rfl rfl r o n c hn (fun i hi => by rw [cell h _ (by omega)]; rfl) (fun i hi => frozen h _)]
  simp
theorem cleared_none (P : Program) (w : World) (t ty e : TypeId) (ht : P.underlying t = some (.slice e)) (a : Option Addr) (c : Nat) :
    (Builtin.clear_ #[t] ty #[.slice a 0 c]).run P w = .ok (.tuple #[]) w := by
  cases a <;> simp [Builtin.clear_, run_underlying ht]
/-- A copy within one block: all is read before anything is written. -/
theorem copied (P : Program) (h : w.heap[r]? = some (row k e xs)) (t ty : TypeId) (ht : P.underlying t = some (.slice e)) (hs : (P.info? e).map (·.size) = some 1) (to from_ n c1 c2 : Nat) (h1 : to + n ≤ xs.length) (h2 : from_ + n ≤ xs.length) :
    (Builtin.copy_ #[t, t] ty #[.slice (some ⟨r, to, none⟩) n c1, .slice (some ⟨r, from_, none⟩) n c2]).run P w = .ok (goInt n) (w.setCells r to (((xs.drop from_).take n).map (Value.int k))) := by
  have hl : ((xs.drop from_).take n).length = n := by simp; omega
  have := run_copy_cells (P := P) w t t ty e r to n c1 ⟨r, from_, none⟩ n c2 (((xs.drop from_).take n).map (Value.int k)) ht hs (by simp; omega)
    (fun j v hj => by
      rw [Addr.add_lit]
      rw [List.getElem?_map, Option.map_eq_some_iff] at hj
      obtain ⟨x, hx, rfl⟩ := hj
      have hlt : j < n := by have := (List.getElem?_eq_some_iff.1 hx).1; omega
      rw [cell h _ (by omega)]
      rw [List.getElem?_take_of_lt hlt, List.getElem?_drop] at hx
      rw [List.getD_eq_getElem?_getD, hx]
      rfl)
    (fun j hj => by
      rw [List.length_map, hl] at hj
      rw [cell h _ (by omega)]; rfl)
    (fun j hj => frozen h _) (fun v hv => by
      rw [List.mem_map] at hv
      obtain ⟨x, _, rfl⟩ := hv
      rfl)
  rw [this, List.length_map, hl]
/-- A copy of a whole slice of numbers, appended to an empty one without room: a new block, whose first cells are the numbers. -/
theorem appended (P : Program) (h : w.heap[r]? = some (row k e xs)) (t ty : TypeId) (i : TypeInfo) (ht : P.underlying t = some (.slice e)) (hi : P.info? e = some i) (hz : i.zero = some (.int k 0)) (hs : i.size = 1) (hb : i.bytes = 8) (base : Option Addr) (cap n : Nat) (hn : n = xs.length) (h0 : 0 < n) (hl : n ≤ 1048576) :
    ∃ (cp : Nat) (cur : Array Value), (Builtin.append_ #[t, t] ty #[.slice base 0 0, .slice (some ⟨r, 0, none⟩) n cap]).run P w = .ok (.slice (some ⟨w.heap.size, 0, none⟩) n cp) (w.drew.alloc (.cells cur e (0, 0))) ∧ ∀ j, j < n → cur[j]? = some (.int k (xs.getD j 0)) := by
  have hsrc : Src P i.size t (.slice (some ⟨r, 0, none⟩) n cap) n (xs.map (Value.int k)) w := by
    rw [hs]
    exact Src.ofSlice w ht ⟨r, 0, none⟩ n cap (xs.map (Value.int k)) (by simp [hn]) (fun j u hj => by
      rw [Addr.add_lit, Nat.zero_add]
      rw [List.getElem?_map, Option.map_eq_some_iff] at hj
      obtain ⟨x, hx, rfl⟩ := hj
      rw [cell h j (List.getElem?_eq_some_iff.1 hx).1, List.getD_eq_getElem?_getD, hx]
      rfl) (fun u hu => by
      rw [List.mem_map] at hu
      obtain ⟨x, _, rfl⟩ := hu
      rfl)
  have hl0 : ∀ (x : Addr), (loadCells x 0).run P w.drew = .ok #[] w.drew := fun x => by simpa using run_loadCells_list (P := P) w.drew x [] (by simp)
  have := run_append_grow_src (P := P) w t t ty e i (.int k 0) ht hi hz base 0 0 [] (by cases base <;> simp [Builtin.firstCells, hl0]) _ n _ hsrc (by omega) (by omega) (by
    rw [Nat.zero_add, nextslicecap_zero h0, hb]; omega)
  rw [Nat.zero_add] at this
  refine ⟨_, _, this, fun j hj => ?_⟩
  · rw [List.nil_append, Array.getElem?_append_left (by simp; omega)]
    simp [List.getD_eq_getElem?_getD, List.getElem?_eq_getElem (show j < xs.length by omega)]
end
/-- An append whose run is known. -/
theorem wp_append {P : Program} {w w' : World} {ops : Array Oper} {rest : List Oper} {o : Oper} {a : Act} {Q : Exit → Act → World → Prop} (hgd : o.guard = none) (d s : Operand) (t : TypeId) (v1 v2 v : Value)
    (ho : o.op = .call { callee := .builtin .append, args := #[d, s], argTypes := #[t, t] }) (hd : a.eval d = v1) (hs : a.eval s = v2) (hrun : (Builtin.append_ #[t, t] o.type #[v1, v2]).run P w = .ok v w')
    (h : wpList P ops Q rest (a.put o.dst v) w') : wpList P ops Q (o :: rest) a w := by
  refine wpList_plain hgd fun K hK => ?_
  unfold Oper.wp
  simp [execOp, ho, resolve, invoke, builtin, hd, hs, hrun, Result.andThen]
  exact hK _ _ h
end Go.Proofs.Ytedkackmccnkfaa.Rw
