/- A region that draws its order and appends to two boxes: all orders, by an invariant. No condition. -/
import Derived.Test.YtladhenjoipfpaaOv
import Derived.Test.YtladhenjoipfpaaProg
import Derived.RegionTactic
import Derived.Sort.LoopGhostIn
import Derived.RegionIn
import Derived.OwnWalkIn
import Derived.RangeFuncOwn
import Derived.Maps.AppendAt
set_option linter.unusedVariables false
set_option linter.unusedSimpArgs false
namespace Go.Proofs.Ytladhenjoipfpaa.Tw
open Go.RowKit
section any
variable {F : Fence} {n : Nat} {P : Program} {ops : Array Oper} {Q : Exit → Act → World → Prop} {md : Region.Mode}
theorem left_set (L : Array Bool) (i : Nat) (h : L.getD i true = false) : (L.setIfInBounds i true).toList.countP (· = false) + 1 = L.toList.countP (· = false) := by
  have hi : i < L.size := by
    rcases Nat.lt_or_ge i L.size with h' | h'
    · exact h'
    · exfalso; rw [Array.getD_eq_getD_getElem?, Array.getElem?_eq_none h'] at h; cases h
  have e : L[i] = false := by simpa [hi] using h
  obtain ⟨l⟩ := L
  have hi' : i < l.length := hi
  have e' : l[i]'hi' = false := by simpa using e
  rw [List.setIfInBounds_toArray]
  rw [List.countP_set hi']
  have pos : 0 < l.countP (fun x => decide (x = false)) := List.countP_pos_iff.2 ⟨false, by rw [← e']; exact List.getElem_mem _, by simp⟩
  have e1 : (decide ((true : Bool) = false)) = false := rfl
  have e2 : (decide (l[i]'hi' = false)) = true := by rw [e']; rfl
  simp only [e1, e2, if_true, Bool.false_eq_true, if_false]
  show l.countP (fun x => decide (x = false)) - 1 + 0 + 1 = l.countP (fun x => decide (x = false))
  omega
theorem wpAnyIn_inv (I : Array Bool → Act → World → Prop) (hdone : ∀ L a w, I L a w → Region.ready md ops L = [] → Q .normal a w)
    (hstep : ∀ L a w i, I L a w → i ∈ Region.ready md ops L → wpOpIn F n P ops Q i (fun a' w' => I (L.setIfInBounds i true) a' w') a w) :
    ∀ (fuel : Nat) (L : Array Bool) (a : Act) (w : World), L.toList.countP (· = false) ≤ fuel → I L a w → wpAnyIn F n P md ops Q fuel L a w
  | 0, L, a, w, hc, h => by
    have e : Region.ready md ops L = [] := by
      rcases hr : Region.ready md ops L with _ | ⟨i, t⟩
      · rfl
      · have hi : i ∈ Region.ready md ops L := by rw [hr]; simp
        have := left_set L i (mem_ready.1 hi).1
        omega
    exact ⟨e, hdone _ _ _ h e⟩
  | f + 1, L, a, w, hc, h => ⟨fun e => hdone _ _ _ h e, fun i hi => wpOpIn_mono (fun a' w' h' => wpAnyIn_inv I hdone hstep f _ a' w' (by have := left_set L i (mem_ready.1 hi).1; omega) h') (hstep _ _ _ i h hi)⟩
theorem all_listed (hord : ∀ (j : Nat) (o : Oper), ops[j]? = some o → ∀ e ∈ o.after, e.on < j) (L : Array Bool) (hr : Region.ready md ops L = []) : ∀ j, j < ops.size → L.getD j true = true := by
  intro j
  induction j using Nat.strongRecOn with
  | _ j ih =>
    intro hj
    cases hb : L.getD j true with
    | true => rfl
    | false =>
      exfalso
      have : j ∈ Region.ready md ops L := mem_ready.2 ⟨hb, ops[j], by simp [hj], fun e he _ => by
        have lt := hord j ops[j] (by simp [hj]) e he
        have t := ih e.on lt (by omega)
        have hjL : j < L.size := by
          rcases Nat.lt_or_ge j L.size with h' | h'
          · exact h'
          · simp [Array.getElem?_eq_none h'] at hb
        have hL : e.on < L.size := by omega
        simpa [hL] using t⟩
      rw [hr] at this
      cases this
theorem opIn_plain {i : Nat} {o : Oper} {K : Act → World → Prop} {a : Act} {w w' : World} {v : Value} (ho : ops[i]? = some o) (hg : o.guard = none) (hd : ∀ c, o.op ≠ .defer c)
    (hab : o.about P w a.eval = none) (hrun : (execOp a.eval o).run P w = .ok (.value v) w') (hK : K (a.put o.dst v) w') : wpOpIn F n P ops Q i K a w := by
  unfold wpOpIn
  rw [ho]
  have hw : Region.wanted o (yielded ops a.tmps) = true := by simp [Region.wanted, hg]
  simp only [hw, if_true]
  refine ⟨fun f hf => by (rw [hab] at hf; cases hf), ?_⟩
  rw [Oper.semAt_plain F _ _ hd, hrun]
  exact hK
theorem opIn_skip {i : Nat} {o : Oper} {K : Act → World → Prop} {a : Act} {w w' : World} (ho : ops[i]? = some o) (hg : o.guard = none) (hd : ∀ c, o.op ≠ .defer c)
    (hab : o.about P w a.eval = none) (hrun : (execOp a.eval o).run P w = .ok .skip w') (hK : K (a.put o.dst undef) w') : wpOpIn F n P ops Q i K a w := by
  unfold wpOpIn
  rw [ho]
  have hw : Region.wanted o (yielded ops a.tmps) = true := by simp [Region.wanted, hg]
  simp only [hw, if_true]
  refine ⟨fun f hf => by (rw [hab] at hf; cases hf), ?_⟩
  rw [Oper.semAt_plain F _ _ hd, hrun]
  exact hK
end any

section steps
variable {w : World}
theorem infoI : (Try.prog.info? 3).map (fun i => (i.zero, i.size, i.bytes)) = some (some (.int .i64 0), 1, 8) := by kernel_rfl
theorem run_load {ρ : Operand → Value} {o : Oper} {p : Operand} {r : Nat} {v : Value} (ho : o.op = .load 43 p) (hp : ρ p = .pointer (some ⟨r, 0, none⟩)) (h : w.heap[r]? = some (.cells #[v] 43 (0, 0))) :
    (execOp ρ o).run Try.prog w = .ok (.value v) w := by
  have hc := Kit.cells1 h
  simp only [execOp, ho, hp]
  go_simp
theorem run_store {ρ : Operand → Value} {o : Oper} {p x : Operand} {r : Nat} {v u : Value} (ho : o.op = .store 43 p x) (hp : ρ p = .pointer (some ⟨r, 0, none⟩)) (hx : ρ x = u) (hu : ∃ k m c, u = .slice k m c) (h : w.heap[r]? = some (.cells #[v] 43 (0, 0))) :
    (execOp ρ o).run Try.prog w = .ok .skip (w.setCell ⟨r, 0, none⟩ u) := by
  have hc := Kit.cells1 h
  have hf := Kit.frozen_of h 0
  obtain ⟨k, m, c, rfl⟩ := hu
  simp only [execOp, ho, hp, hx]
  go_simp
theorem run_build {ρ : Operand → Value} {o : Oper} {x : Operand} {X : Int} (ho : o.op = .buildSlice 43 1 #[(0, x)]) (hx : ρ x = .int .i64 X) :
    (execOp ρ o).run Try.prog w = .ok (.value (.slice (some ⟨w.heap.size, 0, none⟩) 1 1)) (w.alloc (.cells #[.int .i64 X] 3)) := by
  simp only [execOp, ho]
  go_simp
end steps

def X1 (x : Int) : Value := .int .i64 x
/-- One chain of the two: which of its operations are done, what its slots and its memory hold. -/
structure Half (S : Nat → Prop) (B r : Nat) (va : Value) (X : Int) (n : Nat) (xs : List Value) (b0 b1 b2 b3 b8 : Bool) (v0 v1 v2 v3 : Value) (w : World) : Prop where
  low : ∀ k, S k → B ≤ k ∧ k < w.heap.size
  c0 : b0 = true → v0 = va
  c1 : b1 = true → v1 = X1 X
  c2 : b2 = true → ∃ k, v2 = .slice (some ⟨k, 0, none⟩) 1 1 ∧ S k ∧ va.ownBlock ≠ some k ∧ w.heap[k]? = some (.cells #[X1 X] 3 (0, 0))
  ov : b3 = false → w.ownsRow B 3 1 va n xs
  sv : ∀ k, va.ownBlock = some k → S k
  o3 : b3 = true → w.ownsRow B 3 1 v3 (n + 1) (xs ++ [X1 X]) ∧ ∀ k, v3.ownBlock = some k → S k
  cell : w.heap[r]? = some (.cells #[if b8 = true then v3 else va] 43 (0, 0))
  dep : (b8 = true → b3 = true) ∧ (b3 = true → b0 = true)
  rB : r < B ∧ B ≤ w.heap.size
section half
variable {S : Nat → Prop} {B r : Nat} {va : Value} {X : Int} {n : Nat} {xs : List Value} {b0 b1 b2 b3 b8 : Bool} {v0 v1 v2 v3 : Value} {w w' : World}
theorem Half.keep (h : Half S B r va X n xs b0 b1 b2 b3 b8 v0 v1 v2 v3 w) {row : Option Nat} (hg : w.grownBy w' row) (hr : ∀ k, row = some k → ¬ S k ∧ k ≠ r) : Half S B r va X n xs b0 b1 b2 b3 b8 v0 v1 v2 v3 w' := by
  have blk : ∀ k, S k → w'.heap[k]? = w.heap[k]? := fun k hk => hg.block k (h.low k hk).2 (fun e => (hr k e.symm).1 hk)
  have own : ∀ {v : Value}, (∀ k, v.ownBlock = some k → S k) → v.ownBlock = none ∨ v.ownBlock ≠ row := fun {v} hv => by
    rcases hb : v.ownBlock with _ | k
    · exact .inl rfl
    · exact .inr (fun e => (hr k (e.symm)).1 (hv k hb))
  refine ⟨fun k hk => ⟨(h.low k hk).1, Nat.lt_of_lt_of_le (h.low k hk).2 hg.size⟩, h.c0, h.c1, fun b => ?_, fun b => (h.ov b).kept hg (own h.sv), h.sv, fun b => ⟨(h.o3 b).1.kept hg (own (h.o3 b).2), (h.o3 b).2⟩, ?_, h.dep, h.rB.1, Nat.le_trans h.rB.2 hg.size⟩
  · obtain ⟨k, e, hk, hn, hc⟩ := h.c2 b
    exact ⟨k, e, hk, hn, (blk k hk).trans hc⟩
  · rw [hg.block r (Nat.lt_of_lt_of_le h.rB.1 h.rB.2) (fun e => (hr r e.symm).2 rfl)]
    exact h.cell
theorem Half.load (h : Half S B r va X n xs b0 b1 b2 b3 b8 v0 v1 v2 v3 w) : Half S B r va X n xs true b1 b2 b3 b8 va v1 v2 v3 w :=
  ⟨h.low, fun _ => rfl, h.c1, h.c2, h.ov, h.sv, h.o3, h.cell, ⟨h.dep.1, fun _ => rfl⟩, h.rB⟩
theorem Half.move (h : Half S B r va X n xs b0 b1 b2 b3 b8 v0 v1 v2 v3 w) : Half S B r va X n xs b0 true b2 b3 b8 v0 (X1 X) v2 v3 w :=
  ⟨h.low, h.c0, fun _ => rfl, h.c2, h.ov, h.sv, h.o3, h.cell, h.dep, h.rB⟩
theorem Half.build (h : Half S B r va X n xs b0 b1 b2 b3 b8 v0 v1 v2 v3 w) : Half (fun k => S k ∨ k = w.heap.size) B r va X n xs b0 b1 true b3 b8 v0 v1 (.slice (some ⟨w.heap.size, 0, none⟩) 1 1) v3 (w.alloc (.cells #[X1 X] 3)) := by
  have h' := h.keep (World.grownBy_alloc w (.cells #[X1 X] 3) none) (fun k e => by cases e)
  refine ⟨fun k hk => ?_, h.c0, h.c1, fun _ => ⟨_, rfl, .inr rfl, fun e => ?_, Kit.new_blk w _⟩, h'.ov, fun k e => .inl (h.sv k e), fun b => ⟨(h'.o3 b).1, fun k e => .inl ((h'.o3 b).2 k e)⟩, h'.cell, h.dep, h'.rB⟩
  · rcases hk with hk | rfl
    · exact h'.low k hk
    · exact ⟨h.rB.2, by simp⟩
  · have := (h.low _ (h.sv _ e)).2
    omega
theorem Half.store (h : Half S B r va X n xs b0 b1 b2 b3 b8 v0 v1 v2 v3 w) (b : b3 = true) : Half S B r va X n xs b0 b1 b2 b3 true v0 v1 v2 v3 (w.setCell ⟨r, 0, none⟩ v3) := by
  have hne : ∀ k, S k → k ≠ r := fun k hk e => by have := (h.low k hk).1; have := h.rB.1; omega
  have hsz : (w.setCell ⟨r, 0, none⟩ v3).heap.size = w.heap.size := by simp [World.setCell]
  have hg : w.grownBy (w.setCell ⟨r, 0, none⟩ v3) (some r) := ⟨rfl, rfl, rfl, by omega, fun k hk e => Below.heap_setCell w _ _ k (fun e' => e (by rw [e']))⟩
  have own : ∀ {v : Value}, (∀ k, v.ownBlock = some k → S k) → v.ownBlock = none ∨ v.ownBlock ≠ some r := fun {v} hv => by
    rcases hb : v.ownBlock with _ | k
    · exact .inl rfl
    · exact .inr (fun e => hne k (hv k hb) (by cases e; rfl))
  refine ⟨fun k hk => ⟨(h.low k hk).1, by rw [hsz]; exact (h.low k hk).2⟩, h.c0, h.c1, fun b => ?_, fun b' => absurd (b.symm.trans b') (by simp), h.sv, fun b => ⟨(h.o3 b).1.kept hg (own (h.o3 b).2), (h.o3 b).2⟩, ?_, ⟨fun _ => b, h.dep.2⟩, h.rB.1, by rw [hsz]; exact h.rB.2⟩
  · obtain ⟨k, e, hk, hn, hc⟩ := h.c2 b
    exact ⟨k, e, hk, hn, Kit.set_far hc (p := ⟨r, 0, none⟩) (hne k hk) v3⟩
  · have := Kit.set_blk h.cell 0 v3
    simpa using this
theorem Half.app (h : Half S B r va X n xs b0 b1 b2 b3 b8 v0 v1 v2 v3 w) (e0 : b0 = true) (e2 : b2 = true) (e3 : b3 = false) (hn : n + 1 ≤ 1000000) {ρ : Operand → Value} {o : Oper} {s x : Operand} (ho : o.op = .call { callee := .builtin .append, args := #[s, x], argTypes := #[43, 43] })
    (hs : ρ s = v0) (hx : ρ x = v2) : ∃ u w' S', (execOp ρ o).run Try.prog w = .ok (.value u) w' ∧ Half S' B r va X n xs b0 b1 b2 true b8 v0 v1 v2 u w' ∧ w.grownBy w' va.ownBlock ∧ (∀ k, S' k → S k ∨ k = w.heap.size) := by
  obtain ⟨k, ev, hk, hne, hc⟩ := h.c2 e2
  obtain ⟨inf, hi1, hi2⟩ := Option.map_eq_some_iff.1 infoI
  simp only [Prod.mk.injEq] at hi2
  obtain ⟨hi2, hi3, hi4⟩ := hi2
  obtain ⟨u, w', hrun, r1, r2, r3, r4⟩ := run_append_own_at (P := Try.prog) w B 43 o.type 3 inf (.int .i64 0) 1 8 (by kernel_rfl) hi1 hi2 hi3 hi4 rfl (by omega) va n xs (h.ov e3) ⟨k, 0, none⟩ 1 1 [X1 X] rfl
    (fun j u hj => by
      rcases j with _ | j
      · cases hj; exact Kit.cells1 hc
      · simp at hj) (by simp [X1, Value.oneCell']) (by simp only [maxLen]; omega) (by omega) h.rB.2
  have sz := r2.size
  have b8f : b8 = false := by
    rcases hb : b8 with _ | _
    · rfl
    · have := h.dep.1 hb; rw [e3] at this; cases this
  have lt : ∀ k, u.ownBlock = some k → B ≤ k ∧ k < w'.heap.size := r1.lt
  refine ⟨u, w', fun j => S j ∨ (u.ownBlock = some j), ?_, ⟨fun j hj => ?_, h.c0, h.c1, fun _ => ⟨k, ev, .inl hk, hne, ?_⟩, fun b => absurd b (by simp), fun j e => .inl (h.sv j e), fun _ => ⟨r1, fun j e => .inr e⟩, ?_, ⟨fun _ => rfl, fun _ => e0⟩, h.rB.1, Nat.le_trans h.rB.2 sz⟩, r2, fun j hj => ?_⟩
  · have hs' : ρ s = va := hs.trans (h.c0 e0)
    have hx' := hx.trans ev
    simp [execOp, ho, resolve, invoke, builtin, hs', hx', hrun, Result.andThen]
  · rcases hj with hj | hj
    · exact ⟨(h.low j hj).1, Nat.lt_of_lt_of_le (h.low j hj).2 sz⟩
    · exact lt j hj
  · rw [r2.block k (h.low k hk).2 (fun e => hne e.symm)]; exact hc
  · rw [r2.block r (Nat.lt_of_lt_of_le h.rB.1 h.rB.2) (fun e => by have := (h.low r (h.sv r e.symm)).1; have := h.rB.1; omega)]
    have hcl := h.cell
    rw [b8f] at hcl ⊢
    exact hcl
  · rcases hj with hj | hj
    · exact .inl hj
    · rcases r4 with r4 | r4
      · exact .inl (h.sv j (r4 ▸ hj))
      · rw [r4] at hj; cases hj; exact .inr rfl
end half

def upd (v : Nat → Value) (j : Nat) (u : Value) : Nat → Value := fun i => if i = j then u else v i
/-- The region's ten operations: two chains of four, two stores. -/
structure Shape (ops : Array Oper) (A : (Nat → Value) → Act) (r1 r2 : Nat) (X Y : Int) : Prop where
  sz : ops.size = 10
  ord : ∀ (j : Nat) (o : Oper), ops[j]? = some o → ∀ e ∈ o.after, e.on < j
  o0 : ∃ o p, ops[0]? = some o ∧ o.guard = none ∧ o.op = .load 43 p ∧ (∀ v, (A v).eval p = .pointer (some ⟨r1, 0, none⟩)) ∧ ∀ v u, (A v).put o.dst u = A (upd v 0 u)
  o1 : ∃ o p, ops[1]? = some o ∧ o.guard = none ∧ o.op = .move p ∧ (∀ v, (A v).eval p = X1 X) ∧ ∀ v u, (A v).put o.dst u = A (upd v 1 u)
  o2 : ∃ o p, ops[2]? = some o ∧ o.guard = none ∧ o.op = .buildSlice 43 1 #[(0, p)] ∧ (∀ v, (A v).eval p = v 1) ∧ ∀ v u, (A v).put o.dst u = A (upd v 2 u)
  o3 : ∃ o s x, ops[3]? = some o ∧ o.guard = none ∧ o.op = .call { callee := .builtin .append, args := #[s, x], argTypes := #[43, 43] } ∧ (∀ v, (A v).eval s = v 0 ∧ (A v).eval x = v 2) ∧ ∀ v u, (A v).put o.dst u = A (upd v 3 u)
  o4 : ∃ o p, ops[4]? = some o ∧ o.guard = none ∧ o.op = .load 43 p ∧ (∀ v, (A v).eval p = .pointer (some ⟨r2, 0, none⟩)) ∧ ∀ v u, (A v).put o.dst u = A (upd v 4 u)
  o5 : ∃ o p, ops[5]? = some o ∧ o.guard = none ∧ o.op = .move p ∧ (∀ v, (A v).eval p = X1 Y) ∧ ∀ v u, (A v).put o.dst u = A (upd v 5 u)
  o6 : ∃ o p, ops[6]? = some o ∧ o.guard = none ∧ o.op = .buildSlice 43 1 #[(0, p)] ∧ (∀ v, (A v).eval p = v 5) ∧ ∀ v u, (A v).put o.dst u = A (upd v 6 u)
  o7 : ∃ o s x, ops[7]? = some o ∧ o.guard = none ∧ o.op = .call { callee := .builtin .append, args := #[s, x], argTypes := #[43, 43] } ∧ (∀ v, (A v).eval s = v 4 ∧ (A v).eval x = v 6) ∧ ∀ v u, (A v).put o.dst u = A (upd v 7 u)
  o8 : ∃ o p x, ops[8]? = some o ∧ o.guard = none ∧ o.op = .store 43 p x ∧ (∀ v, (A v).eval p = .pointer (some ⟨r1, 0, none⟩) ∧ (A v).eval x = v 3) ∧ ∀ v u, (A v).put o.dst u = A v
  o9 : ∃ o p x, ops[9]? = some o ∧ o.guard = none ∧ o.op = .store 43 p x ∧ (∀ v, (A v).eval p = .pointer (some ⟨r2, 0, none⟩) ∧ (A v).eval x = v 7) ∧ ∀ v u, (A v).put o.dst u = A v
  d2 : ∀ L, 2 ∈ Region.ready .any ops L → L.getD 1 false = true
  d3 : ∀ L, 3 ∈ Region.ready .any ops L → L.getD 0 false = true ∧ L.getD 2 false = true
  d6 : ∀ L, 6 ∈ Region.ready .any ops L → L.getD 5 false = true
  d7 : ∀ L, 7 ∈ Region.ready .any ops L → L.getD 4 false = true ∧ L.getD 6 false = true
  d8 : ∀ L, 8 ∈ Region.ready .any ops L → L.getD 3 false = true
  d9 : ∀ L, 9 ∈ Region.ready .any ops L → L.getD 7 false = true
theorem ready_flag {md : Region.Mode} {ops : Array Oper} {L : Array Bool} {i : Nat} (hL : i < L.size) (h : i ∈ Region.ready md ops L) : L.getD i false = false := by
  have := (mem_ready.1 h).1
  simpa [hL] using this
theorem set_flag {L : Array Bool} {i : Nat} (hL : i < L.size) : (L.setIfInBounds i true).getD i false = true := by simp [hL]
theorem ne_flag {L : Array Bool} {i j : Nat} (h : i ≠ j) : (L.setIfInBounds i true).getD j false = L.getD j false := getD_set_ne false h
/-- What of memory stays: all below B but the two boxes. -/
structure Fr (B r1 r2 : Nat) (w w' : World) : Prop where
  os : w'.os = w.os
  tape : w'.tape = w.tape
  output : w'.output = w.output
  size : w.heap.size ≤ w'.heap.size
  block : ∀ k, k < B → k ≠ r1 → k ≠ r2 → w'.heap[k]? = w.heap[k]?
  others : KeepsOthers w w'
theorem Fr.grown {B r1 r2 : Nat} {w w1 w2 : World} (h : Fr B r1 r2 w w1) (hB : B ≤ w1.heap.size) {row : Option Nat} (hg : w1.grownBy w2 row) (hr : ∀ k, row = some k → B ≤ k ∨ k = r1 ∨ k = r2) (hc : ∀ k, row = some k → ∃ cs t fz, w1.heap[k]? = some (.cells cs t fz)) : Fr B r1 r2 w w2 :=
  ⟨hg.os.trans h.os, hg.tape.trans h.tape, hg.output.trans h.output, Nat.le_trans h.size hg.size, fun k hk n1 n2 => (hg.block k (Nat.lt_of_lt_of_le hk hB) (fun e => by rcases hr k e.symm with h | h | h <;> first | omega | contradiction)).trans (h.block k hk n1 n2), h.others.trans (KeepsOthers.of_grownBy hg (fun j o hj ho => by obtain ⟨cs, t, fz, hcs⟩ := hc j hj; rw [hcs] at ho; cases ho; rfl))⟩
theorem own_cells {w : World} {B : Nat} {T : TypeId} {n : Nat} {v : Value} {xs : List Value} (h : w.ownsRow B T 1 v n xs) : ∀ k, v.ownBlock = some k → ∃ cs t fz, w.heap[k]? = some (.cells cs t fz) := by
  intro k hk
  rcases h.2 with ⟨rfl, _⟩ | ⟨g, cap, cur, rfl, _, hg, _⟩
  · simp [Value.ownBlock] at hk
  · simp [Value.ownBlock] at hk
    subst hk
    exact ⟨_, _, _, hg⟩
/-- A block that holds no cells may be turned. -/
theorem own_other {w w' : World} {B : Nat} {T : TypeId} {n : Nat} {v : Value} {xs : List Value} (h : w.ownsRow B T 1 v n xs) {row : Option Nat} (hg : w.grownBy w' row) (hr : ∀ k, row = some k → ∃ o : Obj, w.heap[k]? = some o ∧ o.isCells = false) : w'.ownsRow B T 1 v n xs := by
  refine h.kept hg ?_
  rcases hb : v.ownBlock with _ | k
  · exact .inl rfl
  · refine .inr (fun e => ?_)
    obtain ⟨o, ho, hc⟩ := hr k e.symm
    obtain ⟨cs, t, fz, hcs⟩ := own_cells h k hb
    rw [hcs] at ho; cases ho; cases hc
theorem blk_other {w w' : World} {k : Nat} {cs : Array Value} {t : TypeId} {fz : Nat × Nat} (h : w.heap[k]? = some (.cells cs t fz)) {row : Option Nat} (hg : w.grownBy w' row) (hr : ∀ k, row = some k → ∃ o : Obj, w.heap[k]? = some o ∧ o.isCells = false) : w'.heap[k]? = some (.cells cs t fz) := by
  rw [hg.block k (Array.getElem?_eq_some_iff.1 h).1 (fun e => by
    obtain ⟨o, ho, hc⟩ := hr k e.symm
    rw [h] at ho; cases ho; cases hc)]
  exact h
section region
variable {F : Fence} {n : Nat} {ops : Array Oper} {Q : Exit → Act → World → Prop} {A : (Nat → Value) → Act} {r1 r2 : Nat} {X Y : Int} {B : Nat} {va vb : Value} {k1 k2 : Nat} {xs ys : List Value} {W0 : World}
def Inv (A : (Nat → Value) → Act) (r1 r2 : Nat) (X Y : Int) (B : Nat) (va vb : Value) (k1 k2 : Nat) (xs ys : List Value) (W0 : World) (L : Array Bool) (a : Act) (w : World) : Prop :=
  L.size = 10 ∧ Fr B r1 r2 W0 w ∧ ∃ v S1 S2, a = A v ∧ (∀ k, S1 k → ¬ S2 k) ∧
    Half S1 B r1 va X k1 xs (L.getD 0 false) (L.getD 1 false) (L.getD 2 false) (L.getD 3 false) (L.getD 8 false) (v 0) (v 1) (v 2) (v 3) w ∧
    Half S2 B r2 vb Y k2 ys (L.getD 4 false) (L.getD 5 false) (L.getD 6 false) (L.getD 7 false) (L.getD 9 false) (v 4) (v 5) (v 6) (v 7) w
theorem inv_step (H : Shape ops A r1 r2 X Y) (hne : r1 ≠ r2) (b1 : k1 + 1 ≤ 1000000) (b2 : k2 + 1 ≤ 1000000) (L : Array Bool) (a : Act) (w : World) (i : Nat)
    (hI : Inv A r1 r2 X Y B va vb k1 k2 xs ys W0 L a w) (hi : i ∈ Region.ready .any ops L) :
    wpOpIn F n Try.prog ops Q i (fun a' w' => Inv A r1 r2 X Y B va vb k1 k2 xs ys W0 (L.setIfInBounds i true) a' w') a w := by
  obtain ⟨hL, hF, v, S1, S2, rfl, hd, h1, h2⟩ := hI
  have hi10 : i < 10 := by
    obtain ⟨_, o, ho, _⟩ := mem_ready.1 hi
    rw [← H.sz]; exact (Array.getElem?_eq_some_iff.1 ho).1
  have fl := ready_flag (by omega) hi
  have hB := h1.rB.2
  have sL : (L.setIfInBounds i true).size = 10 := by simpa using hL
  have st : (L.setIfInBounds i true).getD i false = true := set_flag (by omega)
  have nf : ∀ j, i ≠ j → (L.setIfInBounds i true).getD j false = L.getD j false := fun j hj => ne_flag hj
  match i, hi10 with
  | 0, _ =>
    obtain ⟨o, p, ho, hg, hop, hp, hput⟩ := H.o0
    have c8 : L.getD 8 false = false := by
      rcases hb : L.getD 8 false with _ | _
      · rfl
      · have := h1.dep.2 (h1.dep.1 hb); rw [fl] at this; cases this
    have cell := h1.cell
    rw [c8] at cell
    refine opIn_plain ho hg (by rw [hop]; simp) (by simp [Oper.about, hop]) (run_load hop (hp v) cell) ?_
    rw [hput]
    refine ⟨sL, hF, _, S1, S2, rfl, hd, ?_, ?_⟩
    · rw [st, nf 1 (by omega), nf 2 (by omega), nf 3 (by omega), nf 8 (by omega)]; exact h1.load
    · rw [nf 4 (by omega), nf 5 (by omega), nf 6 (by omega), nf 7 (by omega), nf 9 (by omega)]; exact h2
  | 1, _ =>
    obtain ⟨o, p, ho, hg, hop, hp, hput⟩ := H.o1
    refine opIn_plain (v := X1 X) (w' := w) ho hg (by rw [hop]; simp) (by simp [Oper.about, hop]) (by simp [execOp, hop, hp]) ?_
    rw [hput]
    refine ⟨sL, hF, _, S1, S2, rfl, hd, ?_, ?_⟩
    · rw [st, nf 0 (by omega), nf 2 (by omega), nf 3 (by omega), nf 8 (by omega)]; exact h1.move
    · rw [nf 4 (by omega), nf 5 (by omega), nf 6 (by omega), nf 7 (by omega), nf 9 (by omega)]; exact h2
  | 2, _ =>
    obtain ⟨o, p, ho, hg, hop, hp, hput⟩ := H.o2
    have hv1 : (A v).eval p = .int .i64 X := (hp v).trans (h1.c1 (H.d2 L hi))
    refine opIn_plain ho hg (by rw [hop]; simp) (by simp [Oper.about, hop]) (run_build hop hv1) ?_
    rw [hput]
    refine ⟨sL, hF.grown hB (World.grownBy_alloc w (.cells #[X1 X] 3) none) (fun k e => by cases e) (fun k e => by cases e), _, (fun k => S1 k ∨ k = w.heap.size), S2, rfl, ?_, ?_, ?_⟩
    · rintro k (hk | rfl) hk2
      · exact hd k hk hk2
      · have := (h2.low _ hk2).2; omega
    · rw [st, nf 0 (by omega), nf 1 (by omega), nf 3 (by omega), nf 8 (by omega)]; exact h1.build
    · rw [nf 4 (by omega), nf 5 (by omega), nf 6 (by omega), nf 7 (by omega), nf 9 (by omega)]
      exact h2.keep (World.grownBy_alloc w _ none) (fun k e => by cases e)
  | 3, _ =>
    obtain ⟨o, s, x, ho, hg, hop, hp, hput⟩ := H.o3
    obtain ⟨u, w', S', hrun, hH, hgr, hS⟩ := h1.app (H.d3 L hi).1 (H.d3 L hi).2 fl b1 hop (hp v).1 (hp v).2
    refine opIn_plain ho hg (by rw [hop]; simp) (by simp [Oper.about, hop, resolve, Target.leads, Sem.run_pure]) hrun ?_
    rw [hput]
    refine ⟨sL, hF.grown hB hgr (fun k e => .inl (h1.low k (h1.sv k e)).1) (own_cells (h1.ov fl)), _, S', S2, rfl, ?_, ?_, ?_⟩
    · intro k hk hk2
      rcases hS k hk with hk | rfl
      · exact hd k hk hk2
      · have := (h2.low _ hk2).2; omega
    · rw [st, nf 0 (by omega), nf 1 (by omega), nf 2 (by omega), nf 8 (by omega)]; exact hH
    · rw [nf 4 (by omega), nf 5 (by omega), nf 6 (by omega), nf 7 (by omega), nf 9 (by omega)]
      exact h2.keep hgr (fun k e => ⟨hd k (h1.sv k e), by have := (h1.low k (h1.sv k e)).1; have := h2.rB.1; omega⟩)
  | 4, _ =>
    obtain ⟨o, p, ho, hg, hop, hp, hput⟩ := H.o4
    have c8 : L.getD 9 false = false := by
      rcases hb : L.getD 9 false with _ | _
      · rfl
      · have := h2.dep.2 (h2.dep.1 hb); rw [fl] at this; cases this
    have cell := h2.cell
    rw [c8] at cell
    refine opIn_plain ho hg (by rw [hop]; simp) (by simp [Oper.about, hop]) (run_load hop (hp v) cell) ?_
    rw [hput]
    refine ⟨sL, hF, _, S1, S2, rfl, hd, ?_, ?_⟩
    · rw [nf 0 (by omega), nf 1 (by omega), nf 2 (by omega), nf 3 (by omega), nf 8 (by omega)]; exact h1
    · rw [st, nf 5 (by omega), nf 6 (by omega), nf 7 (by omega), nf 9 (by omega)]; exact h2.load
  | 5, _ =>
    obtain ⟨o, p, ho, hg, hop, hp, hput⟩ := H.o5
    refine opIn_plain (v := X1 Y) (w' := w) ho hg (by rw [hop]; simp) (by simp [Oper.about, hop]) (by simp [execOp, hop, hp]) ?_
    rw [hput]
    refine ⟨sL, hF, _, S1, S2, rfl, hd, ?_, ?_⟩
    · rw [nf 0 (by omega), nf 1 (by omega), nf 2 (by omega), nf 3 (by omega), nf 8 (by omega)]; exact h1
    · rw [st, nf 4 (by omega), nf 6 (by omega), nf 7 (by omega), nf 9 (by omega)]; exact h2.move
  | 6, _ =>
    obtain ⟨o, p, ho, hg, hop, hp, hput⟩ := H.o6
    have hv1 : (A v).eval p = .int .i64 Y := (hp v).trans (h2.c1 (H.d6 L hi))
    refine opIn_plain ho hg (by rw [hop]; simp) (by simp [Oper.about, hop]) (run_build hop hv1) ?_
    rw [hput]
    refine ⟨sL, hF.grown hB (World.grownBy_alloc w (.cells #[X1 Y] 3) none) (fun k e => by cases e) (fun k e => by cases e), _, S1, (fun k => S2 k ∨ k = w.heap.size), rfl, ?_, ?_, ?_⟩
    · rintro k hk (hk2 | rfl)
      · exact hd k hk hk2
      · have := (h1.low _ hk).2; omega
    · rw [nf 0 (by omega), nf 1 (by omega), nf 2 (by omega), nf 3 (by omega), nf 8 (by omega)]
      exact h1.keep (World.grownBy_alloc w _ none) (fun k e => by cases e)
    · rw [st, nf 4 (by omega), nf 5 (by omega), nf 7 (by omega), nf 9 (by omega)]; exact h2.build
  | 7, _ =>
    obtain ⟨o, s, x, ho, hg, hop, hp, hput⟩ := H.o7
    obtain ⟨u, w', S', hrun, hH, hgr, hS⟩ := h2.app (H.d7 L hi).1 (H.d7 L hi).2 fl b2 hop (hp v).1 (hp v).2
    refine opIn_plain ho hg (by rw [hop]; simp) (by simp [Oper.about, hop, resolve, Target.leads, Sem.run_pure]) hrun ?_
    rw [hput]
    refine ⟨sL, hF.grown hB hgr (fun k e => .inl (h2.low k (h2.sv k e)).1) (own_cells (h2.ov fl)), _, S1, S', rfl, ?_, ?_, ?_⟩
    · intro k hk hk2
      rcases hS k hk2 with hk2 | rfl
      · exact hd k hk hk2
      · have := (h1.low _ hk).2; omega
    · rw [nf 0 (by omega), nf 1 (by omega), nf 2 (by omega), nf 3 (by omega), nf 8 (by omega)]
      exact h1.keep hgr (fun k e => ⟨fun hk => hd k hk (h2.sv k e), by have := (h2.low k (h2.sv k e)).1; have := h1.rB.1; omega⟩)
    · rw [st, nf 4 (by omega), nf 5 (by omega), nf 6 (by omega), nf 9 (by omega)]; exact hH
  | 8, _ =>
    obtain ⟨o, p, x, ho, hg, hop, hp, hput⟩ := H.o8
    have b3 := H.d8 L hi
    refine opIn_skip ho hg (by rw [hop]; simp) (by simp [Oper.about, hop]) (run_store hop (hp v).1 (hp v).2 ?_ h1.cell) ?_
    · rcases (h1.o3 b3).1.2 with ⟨e, _⟩ | ⟨g, cap, cur, e, _⟩ <;> exact ⟨_, _, _, e⟩
    rw [hput]
    have hg' : w.grownBy (w.setCell ⟨r1, 0, none⟩ (v 3)) (some r1) := ⟨rfl, rfl, rfl, by simp [World.setCell], fun k hk e => Below.heap_setCell w _ _ k (fun e' => e (by rw [e']))⟩
    refine ⟨sL, hF.grown hB hg' (fun k e => .inr (.inl (by cases e; rfl))) (fun k e => by cases e; exact ⟨_, _, _, h1.cell⟩), _, S1, S2, rfl, hd, ?_, ?_⟩
    · rw [st, nf 0 (by omega), nf 1 (by omega), nf 2 (by omega), nf 3 (by omega)]; exact h1.store b3
    · rw [nf 4 (by omega), nf 5 (by omega), nf 6 (by omega), nf 7 (by omega), nf 9 (by omega)]
      exact h2.keep hg' (fun k e => by cases e; exact ⟨fun hk => by have := (h2.low _ hk).1; have := h1.rB.1; omega, hne⟩)
  | 9, _ =>
    obtain ⟨o, p, x, ho, hg, hop, hp, hput⟩ := H.o9
    have b3 := H.d9 L hi
    refine opIn_skip ho hg (by rw [hop]; simp) (by simp [Oper.about, hop]) (run_store hop (hp v).1 (hp v).2 ?_ h2.cell) ?_
    · rcases (h2.o3 b3).1.2 with ⟨e, _⟩ | ⟨g, cap, cur, e, _⟩ <;> exact ⟨_, _, _, e⟩
    rw [hput]
    have hg' : w.grownBy (w.setCell ⟨r2, 0, none⟩ (v 7)) (some r2) := ⟨rfl, rfl, rfl, by simp [World.setCell], fun k hk e => Below.heap_setCell w _ _ k (fun e' => e (by rw [e']))⟩
    refine ⟨sL, hF.grown hB hg' (fun k e => .inr (.inr (by cases e; rfl))) (fun k e => by cases e; exact ⟨_, _, _, h2.cell⟩), _, S1, S2, rfl, hd, ?_, ?_⟩
    · rw [nf 0 (by omega), nf 1 (by omega), nf 2 (by omega), nf 3 (by omega), nf 8 (by omega)]
      exact h1.keep hg' (fun k e => by cases e; exact ⟨fun hk => by have := (h1.low _ hk).1; have := h2.rB.1; omega, fun e => hne e.symm⟩)
    · rw [st, nf 4 (by omega), nf 5 (by omega), nf 6 (by omega), nf 7 (by omega)]; exact h2.store b3
/-- The region, whatever its order: both boxes hold one number more. -/
theorem wpIn_two (H : Shape ops A r1 r2 X Y) (hne : r1 ≠ r2) (b1 : k1 + 1 ≤ 1000000) (b2 : k2 + 1 ≤ 1000000) (hm : Try.prog.follows .mixedOrders = true) {id : Nat} (v : Nat → Value) (w : World)
    (hr1 : r1 < B) (hr2 : r2 < B) (hB : B ≤ w.heap.size)
    (c1 : w.heap[r1]? = some (.cells #[va] 43 (0, 0))) (c2 : w.heap[r2]? = some (.cells #[vb] 43 (0, 0)))
    (o1 : w.ownsRow B 3 1 va k1 xs) (o2 : w.ownsRow B 3 1 vb k2 ys) (hd : va.ownBlock = none ∨ va.ownBlock ≠ vb.ownBlock)
    (hK : ∀ v w' va' vb', Fr B r1 r2 w w' → w'.heap[r1]? = some (.cells #[va'] 43 (0, 0)) → w'.heap[r2]? = some (.cells #[vb'] 43 (0, 0)) →
      w'.ownsRow B 3 1 va' (k1 + 1) (xs ++ [X1 X]) → w'.ownsRow B 3 1 vb' (k2 + 1) (ys ++ [X1 Y]) → (va'.ownBlock = none ∨ va'.ownBlock ≠ vb'.ownBlock) → Q .normal (A v) w') :
    (Code.region id ops true).wpIn F n Try.prog Q (A v) w := by
  refine wpIn_region_any hm (wpAnyIn_inv (Inv A r1 r2 X Y B va vb k1 k2 xs ys w) (fun L a w' hI hr => ?_) (fun L a w' i hI hi => inv_step H hne b1 b2 L a w' i hI hi) _ _ _ _ ?_ ?_)
  · obtain ⟨hL, hF, v', S1, S2, rfl, hd', h1, h2⟩ := hI
    have al := all_listed H.ord L hr
    have f : ∀ j, j < 10 → L.getD j false = true := fun j hj => by
      have := al j (by rw [H.sz]; exact hj)
      have hj' : j < L.size := by omega
      simpa [hj'] using this
    have q1 := h1.o3 (f 3 (by omega))
    have q2 := h2.o3 (f 7 (by omega))
    have e1 := h1.cell
    have e2 := h2.cell
    rw [f 8 (by omega)] at e1
    rw [f 9 (by omega)] at e2
    refine hK v' w' (v' 3) (v' 7) hF e1 e2 q1.1 q2.1 ?_
    rcases hb : (v' 3).ownBlock with _ | k
    · exact .inl rfl
    · exact .inr (fun e => hd' k (q1.2 k hb) (q2.2 k (e.symm)))
  · rw [H.sz]; simp
  · rw [H.sz]
    refine ⟨by simp, ⟨rfl, rfl, rfl, Nat.le_refl _, fun _ _ _ _ => rfl, ⟨Nat.le_refl _, fun _ _ h _ => h⟩⟩, v, fun k => va.ownBlock = some k, fun k => vb.ownBlock = some k, rfl, fun k e1 e2 => ?_, ?_, ?_⟩
    · rcases hd with hd | hd
      · rw [hd] at e1; cases e1
      · exact hd (e1.trans e2.symm)
    · exact ⟨fun k e => o1.lt k e, fun b => absurd b (by simp), fun b => absurd b (by simp), fun b => absurd b (by simp), fun _ => o1, fun _ e => e, fun b => absurd b (by simp), by simpa using c1, ⟨fun b => absurd b (by simp), fun b => absurd b (by simp)⟩, hr1, hB⟩
    · exact ⟨fun k e => o2.lt k e, fun b => absurd b (by simp), fun b => absurd b (by simp), fun b => absurd b (by simp), fun _ => o2, fun _ e => e, fun b => absurd b (by simp), by simpa using c2, ⟨fun b => absurd b (by simp), fun b => absurd b (by simp)⟩, hr2, hB⟩
end region
end Go.Proofs.Ytladhenjoipfpaa.Tw
