/- A region that draws its order and appends to two fields of one struct: all orders, by an invariant. No condition. -/
import Derived.Test.YtladhenjoipfpaaTw
import Derived.Orders
set_option linter.unusedVariables false
set_option linter.unusedSimpArgs false
namespace Go.Proofs.Ytladhenjoipfpaa.Tf
open Go.RowKit
open Tw
section any
variable {P : Program} {ops : Array Oper} {Q : Exit → Act → World → Prop} {md : Region.Mode}
theorem wpAny_inv (I : Array Bool → Act → World → Prop) (hdone : ∀ L a w, I L a w → Region.ready md ops L = [] → Q .normal a w)
    (hstep : ∀ L a w i, I L a w → i ∈ Region.ready md ops L → wpOp P ops Q i (fun a' w' => I (L.setIfInBounds i true) a' w') a w) :
    ∀ (fuel : Nat) (L : Array Bool) (a : Act) (w : World), L.toList.countP (· = false) ≤ fuel → I L a w → wpAny P md ops Q fuel L a w
  | 0, L, a, w, hc, h => by
    have e : Region.ready md ops L = [] := by
      rcases hr : Region.ready md ops L with _ | ⟨i, t⟩
      · rfl
      · have hi : i ∈ Region.ready md ops L := by rw [hr]; simp
        have := left_set L i (mem_ready.1 hi).1
        omega
    exact ⟨e, hdone _ _ _ h e⟩
  | f + 1, L, a, w, hc, h => ⟨fun e => hdone _ _ _ h e, fun i hi => wpOp_mono (fun a' w' h' => wpAny_inv I hdone hstep f _ a' w' (by have := left_set L i (mem_ready.1 hi).1; omega) h') (hstep _ _ _ i h hi)⟩
theorem all_bound (hord : ∀ (j : Nat) (o : Oper), ops[j]? = some o → ∀ e ∈ o.after, Region.binds md e = true → e.on < j) (L : Array Bool) (hr : Region.ready md ops L = []) : ∀ j, j < ops.size → L.getD j true = true := by
  intro j
  induction j using Nat.strongRecOn with
  | _ j ih =>
    intro hj
    cases hb : L.getD j true with
    | true => rfl
    | false =>
      exfalso
      have : j ∈ Region.ready md ops L := mem_ready.2 ⟨hb, ops[j], by simp [hj], fun e he hbe => by
        have lt := hord j ops[j] (by simp [hj]) e he hbe
        have t := ih e.on lt (by omega)
        have hjL : j < L.size := by
          rcases Nat.lt_or_ge j L.size with h' | h'
          · exact h'
          · simp [Array.getElem?_eq_none h'] at hb
        have hL : e.on < L.size := by omega
        simpa [hL] using t⟩
      rw [hr] at this
      cases this
theorem op_plain {i : Nat} {o : Oper} {K : Act → World → Prop} {a : Act} {w w' : World} {v : Value} (ho : ops[i]? = some o) (hg : o.guard = none)
    (hrun : (execOp a.eval o).run P w = .ok (.value v) w') (hK : K (a.put o.dst v) w') : wpOp P ops Q i K a w := by
  unfold wpOp
  rw [ho]
  have hw : Region.wanted o (yielded ops a.tmps) = true := by simp [Region.wanted, hg]
  simp only [hw, if_true]
  refine .inl ?_
  unfold Oper.wp
  rw [hrun]
  exact hK
theorem op_skip {i : Nat} {o : Oper} {K : Act → World → Prop} {a : Act} {w w' : World} (ho : ops[i]? = some o) (hg : o.guard = none)
    (hrun : (execOp a.eval o).run P w = .ok .skip w') (hK : K (a.put o.dst undef) w') : wpOp P ops Q i K a w := by
  unfold wpOp
  rw [ho]
  have hw : Region.wanted o (yielded ops a.tmps) = true := by simp [Region.wanted, hg]
  simp only [hw, if_true]
  refine .inl ?_
  unfold Oper.wp
  rw [hrun]
  exact hK
end any
section steps
variable {w : World}
theorem run_loadF {ρ : Operand → Value} {o : Oper} {p : Operand} {s f : Nat} {v : Value} (ho : o.op = .load 43 p) (hp : ρ p = .pointer (some ⟨s, f, none⟩)) (hc : w.cell? ⟨s, f, none⟩ = some v) :
    (execOp ρ o).run Try.prog w = .ok (.value v) w := by
  simp only [execOp, ho, hp]
  go_simp
theorem run_storeF {ρ : Operand → Value} {o : Oper} {p x : Operand} {s f : Nat} {v u : Value} (ho : o.op = .store 43 p x) (hp : ρ p = .pointer (some ⟨s, f, none⟩)) (hx : ρ x = u) (hu : ∃ k m c, u = .slice k m c) (hc : w.cell? ⟨s, f, none⟩ = some v) (hf : w.frozen? ⟨s, f, none⟩ = false) :
    (execOp ρ o).run Try.prog w = .ok .skip (w.setCell ⟨s, f, none⟩ u) := by
  obtain ⟨k, m, c, rfl⟩ := hu
  simp only [execOp, ho, hp, hx]
  go_simp
end steps
/-- One chain: which of its operations are done (load, build, append), what its slots and its memory hold. -/
structure Hf (S : Nat → Prop) (B : Nat) (va : Value) (X : Int) (n : Nat) (xs : List Value) (b0 b2 b3 : Bool) (v0 v2 v3 : Value) (w : World) : Prop where
  low : ∀ k, S k → B ≤ k ∧ k < w.heap.size
  c0 : b0 = true → v0 = va
  c2 : b2 = true → ∃ k, v2 = .slice (some ⟨k, 0, none⟩) 1 1 ∧ S k ∧ va.ownBlock ≠ some k ∧ w.heap[k]? = some (.cells #[X1 X] 3 (0, 0))
  ov : b3 = false → w.ownsRow B 3 1 va n xs
  sv : ∀ k, va.ownBlock = some k → S k
  o3 : b3 = true → w.ownsRow B 3 1 v3 (n + 1) (xs ++ [X1 X]) ∧ ∀ k, v3.ownBlock = some k → S k
  dep : b3 = true → b0 = true
  hB : B ≤ w.heap.size
section half
variable {S : Nat → Prop} {B : Nat} {va : Value} {X : Int} {n : Nat} {xs : List Value} {b0 b2 b3 : Bool} {v0 v2 v3 : Value} {w w' : World}
theorem Hf.keep (h : Hf S B va X n xs b0 b2 b3 v0 v2 v3 w) {row : Option Nat} (hg : w.grownBy w' row) (hr : ∀ k, row = some k → ¬ S k) : Hf S B va X n xs b0 b2 b3 v0 v2 v3 w' := by
  have blk : ∀ k, S k → w'.heap[k]? = w.heap[k]? := fun k hk => hg.block k (h.low k hk).2 (fun e => hr k e.symm hk)
  have own : ∀ {v : Value}, (∀ k, v.ownBlock = some k → S k) → v.ownBlock = none ∨ v.ownBlock ≠ row := fun {v} hv => by
    rcases hb : v.ownBlock with _ | k
    · exact .inl rfl
    · exact .inr (fun e => hr k (e.symm) (hv k hb))
  refine ⟨fun k hk => ⟨(h.low k hk).1, Nat.lt_of_lt_of_le (h.low k hk).2 hg.size⟩, h.c0, fun b => ?_, fun b => (h.ov b).kept hg (own h.sv), h.sv, fun b => ⟨(h.o3 b).1.kept hg (own (h.o3 b).2), (h.o3 b).2⟩, h.dep, Nat.le_trans h.hB hg.size⟩
  obtain ⟨k, e, hk, hn, hc⟩ := h.c2 b
  exact ⟨k, e, hk, hn, (blk k hk).trans hc⟩
theorem Hf.load (h : Hf S B va X n xs b0 b2 b3 v0 v2 v3 w) : Hf S B va X n xs true b2 b3 va v2 v3 w :=
  ⟨h.low, fun _ => rfl, h.c2, h.ov, h.sv, h.o3, fun _ => rfl, h.hB⟩
theorem Hf.build (h : Hf S B va X n xs b0 b2 b3 v0 v2 v3 w) : Hf (fun k => S k ∨ k = w.heap.size) B va X n xs b0 true b3 v0 (.slice (some ⟨w.heap.size, 0, none⟩) 1 1) v3 (w.alloc (.cells #[X1 X] 3)) := by
  have h' := h.keep (World.grownBy_alloc w (.cells #[X1 X] 3) none) (fun k e => by cases e)
  refine ⟨fun k hk => ?_, h.c0, fun _ => ⟨_, rfl, .inr rfl, fun e => ?_, Kit.new_blk w _⟩, h'.ov, fun k e => .inl (h.sv k e), fun b => ⟨(h'.o3 b).1, fun k e => .inl ((h'.o3 b).2 k e)⟩, h.dep, h'.hB⟩
  · rcases hk with hk | rfl
    · exact h'.low k hk
    · exact ⟨h.hB, by simp⟩
  · have := (h.low _ (h.sv _ e)).2
    omega
theorem Hf.app (h : Hf S B va X n xs b0 b2 b3 v0 v2 v3 w) (e0 : b0 = true) (e2 : b2 = true) (e3 : b3 = false) (hn : n + 1 ≤ 1000000) {ρ : Operand → Value} {o : Oper} {s x : Operand} (ho : o.op = .call { callee := .builtin .append, args := #[s, x], argTypes := #[43, 43] })
    (hs : ρ s = v0) (hx : ρ x = v2) : ∃ u w' S', (execOp ρ o).run Try.prog w = .ok (.value u) w' ∧ Hf S' B va X n xs b0 b2 true v0 v2 u w' ∧ w.grownBy w' va.ownBlock ∧ (∀ k, S' k → S k ∨ k = w.heap.size) := by
  obtain ⟨k, ev, hk, hne, hc⟩ := h.c2 e2
  obtain ⟨inf, hi1, hi2⟩ := Option.map_eq_some_iff.1 Tw.infoI
  simp only [Prod.mk.injEq] at hi2
  obtain ⟨hi2, hi3, hi4⟩ := hi2
  obtain ⟨u, w', hrun, r1, r2, r3, r4⟩ := run_append_own_at (P := Try.prog) w B 43 o.type 3 inf (.int .i64 0) 1 8 (by kernel_rfl) hi1 hi2 hi3 hi4 rfl (by omega) va n xs (h.ov e3) ⟨k, 0, none⟩ 1 1 [X1 X] rfl
    (fun j u hj => by
      rcases j with _ | j
      · cases hj; exact Kit.cells1 hc
      · simp at hj) (by simp [X1, Value.oneCell']) (by simp only [maxLen]; omega) (by omega) h.hB
  have sz := r2.size
  have lt : ∀ k, u.ownBlock = some k → B ≤ k ∧ k < w'.heap.size := r1.lt
  refine ⟨u, w', fun j => S j ∨ (u.ownBlock = some j), ?_, ⟨fun j hj => ?_, h.c0, fun _ => ⟨k, ev, .inl hk, hne, ?_⟩, fun b => absurd b (by simp), fun j e => .inl (h.sv j e), fun _ => ⟨r1, fun j e => .inr e⟩, fun _ => e0, Nat.le_trans h.hB sz⟩, r2, fun j hj => ?_⟩
  · have hs' : ρ s = va := hs.trans (h.c0 e0)
    have hx' := hx.trans ev
    simp [execOp, ho, resolve, invoke, builtin, hs', hx', hrun, Result.andThen]
  · rcases hj with hj | hj
    · exact ⟨(h.low j hj).1, Nat.lt_of_lt_of_le (h.low j hj).2 sz⟩
    · exact lt j hj
  · rw [r2.block k (h.low k hk).2 (fun e => hne e.symm)]; exact hc
  · rcases hj with hj | hj
    · exact .inl hj
    · rcases r4 with r4 | r4
      · exact .inl (h.sv j (r4 ▸ hj))
      · rw [r4] at hj; cases hj; exact .inr rfl
end half
/-- What of memory stays: all but the struct and what the two fields hold. -/
structure Fs (s : Nat) (va vb : Value) (w w' : World) : Prop where
  os : w'.os = w.os
  tape : w'.tape = w.tape
  output : w'.output = w.output
  size : w.heap.size ≤ w'.heap.size
  block : ∀ k, k < w.heap.size → k ≠ s → va.ownBlock ≠ some k → vb.ownBlock ≠ some k → w'.heap[k]? = w.heap[k]?
theorem Fs.grown {s : Nat} {va vb : Value} {w w1 w2 : World} (h : Fs s va vb w w1) {row : Option Nat} (hg : w1.grownBy w2 row) (hr : ∀ k, row = some k → k = s ∨ va.ownBlock = some k ∨ vb.ownBlock = some k) : Fs s va vb w w2 :=
  ⟨hg.os.trans h.os, hg.tape.trans h.tape, hg.output.trans h.output, Nat.le_trans h.size hg.size, fun k hk n1 n2 n3 => (hg.block k (Nat.lt_of_lt_of_le hk h.size) (fun e => by rcases hr k e.symm with h | h | h <;> contradiction)).trans (h.block k hk n1 n2 n3)⟩
/-- The kinds of what is left of the region: two chains (load, build, append: 0 2 3, 4 6 7), two stores (8, 9), the addresses that they ask for late (10 11, 12 13). -/
def cls : List Nat := [0, 2, 3, 4, 6, 7, 8, 9, 10, 11, 12, 13]
structure Sh (ops : Array Oper) (A : (Nat → Value) → Act) (s f1 f2 : Nat) (X Y : Int) (ix : Nat → Nat) : Prop where
  ord : ∀ (j : Nat) (o : Oper), ops[j]? = some o → ∀ e ∈ o.after, Region.binds .any e = true → e.on < j
  inj : ∀ c ∈ cls, ∀ d ∈ cls, ix c = ix d → c = d
  lt : ∀ c ∈ cls, ix c < ops.size
  o0 : ∃ o p, ops[ix 0]? = some o ∧ o.guard = none ∧ o.op = .load 43 p ∧ (∀ v, (A v).eval p = .pointer (some ⟨s, f1, none⟩)) ∧ ∀ v u, (A v).put o.dst u = A (upd v 0 u)
  o2 : ∃ o p, ops[ix 2]? = some o ∧ o.guard = none ∧ o.op = .buildSlice 43 1 #[(0, p)] ∧ (∀ v, (A v).eval p = X1 X) ∧ ∀ v u, (A v).put o.dst u = A (upd v 2 u)
  o3 : ∃ o s x, ops[ix 3]? = some o ∧ o.guard = none ∧ o.op = .call { callee := .builtin .append, args := #[s, x], argTypes := #[43, 43] } ∧ (∀ v, (A v).eval s = v 0 ∧ (A v).eval x = v 2) ∧ ∀ v u, (A v).put o.dst u = A (upd v 3 u)
  o4 : ∃ o p, ops[ix 4]? = some o ∧ o.guard = none ∧ o.op = .load 43 p ∧ (∀ v, (A v).eval p = .pointer (some ⟨s, f2, none⟩)) ∧ ∀ v u, (A v).put o.dst u = A (upd v 4 u)
  o6 : ∃ o p, ops[ix 6]? = some o ∧ o.guard = none ∧ o.op = .buildSlice 43 1 #[(0, p)] ∧ (∀ v, (A v).eval p = X1 Y) ∧ ∀ v u, (A v).put o.dst u = A (upd v 6 u)
  o7 : ∃ o s x, ops[ix 7]? = some o ∧ o.guard = none ∧ o.op = .call { callee := .builtin .append, args := #[s, x], argTypes := #[43, 43] } ∧ (∀ v, (A v).eval s = v 4 ∧ (A v).eval x = v 6) ∧ ∀ v u, (A v).put o.dst u = A (upd v 7 u)
  o8 : ∃ o p x, ops[ix 8]? = some o ∧ o.guard = none ∧ o.op = .store 43 p x ∧ (∀ v, (A v).eval p = v 11 ∧ (A v).eval x = v 3) ∧ ∀ v u, (A v).put o.dst u = A v
  o9 : ∃ o p x, ops[ix 9]? = some o ∧ o.guard = none ∧ o.op = .store 43 p x ∧ (∀ v, (A v).eval p = v 13 ∧ (A v).eval x = v 7) ∧ ∀ v u, (A v).put o.dst u = A v
  o10 : ∃ o, ops[ix 10]? = some o ∧ o.guard = none ∧ (∀ v w, (execOp (A v).eval o).run Try.prog w = .ok (.value (.pointer (some ⟨s, 0, none⟩))) w) ∧ ∀ v u, (A v).put o.dst u = A (upd v 10 u)
  o11 : ∃ o, ops[ix 11]? = some o ∧ o.guard = none ∧ (∀ v w, v 10 = .pointer (some ⟨s, 0, none⟩) → (execOp (A v).eval o).run Try.prog w = .ok (.value (.pointer (some ⟨s, f1, none⟩))) w) ∧ ∀ v u, (A v).put o.dst u = A (upd v 11 u)
  o12 : ∃ o, ops[ix 12]? = some o ∧ o.guard = none ∧ (∀ v w, (execOp (A v).eval o).run Try.prog w = .ok (.value (.pointer (some ⟨s, 0, none⟩))) w) ∧ ∀ v u, (A v).put o.dst u = A (upd v 12 u)
  o13 : ∃ o, ops[ix 13]? = some o ∧ o.guard = none ∧ (∀ v w, v 12 = .pointer (some ⟨s, 0, none⟩) → (execOp (A v).eval o).run Try.prog w = .ok (.value (.pointer (some ⟨s, f2, none⟩))) w) ∧ ∀ v u, (A v).put o.dst u = A (upd v 13 u)
  dep : ∀ L, (ix 3 ∈ Region.ready .any ops L → L.getD (ix 0) false = true ∧ L.getD (ix 2) false = true) ∧ (ix 7 ∈ Region.ready .any ops L → L.getD (ix 4) false = true ∧ L.getD (ix 6) false = true) ∧
    (ix 8 ∈ Region.ready .any ops L → L.getD (ix 3) false = true ∧ L.getD (ix 11) false = true) ∧ (ix 9 ∈ Region.ready .any ops L → L.getD (ix 7) false = true ∧ L.getD (ix 13) false = true) ∧ (ix 11 ∈ Region.ready .any ops L → L.getD (ix 10) false = true) ∧ (ix 13 ∈ Region.ready .any ops L → L.getD (ix 12) false = true)
section region
variable {ops : Array Oper} {Q : Exit → Act → World → Prop} {A : (Nat → Value) → Act} {s f1 f2 : Nat} {X Y : Int} {ix : Nat → Nat} {B : Nat} {va vb : Value} {k1 k2 : Nat} {xs ys : List Value} {cs : Array Value} {T : TypeId} {W0 : World}
/-- The struct's cells. -/
def two (cs : Array Value) (f1 f2 : Nat) (x y : Value) : Array Value := (cs.setIfInBounds f1 x).setIfInBounds f2 y
theorem two_fst (hf : f1 ≠ f2) (x y u : Value) : (two cs f1 f2 x y).setIfInBounds f1 u = two cs f1 f2 u y := by
  unfold two
  rw [Array.setIfInBounds_comm _ _ (fun e => hf e.symm), Array.setIfInBounds_setIfInBounds]
theorem two_snd (x y u : Value) : (two cs f1 f2 x y).setIfInBounds f2 u = two cs f1 f2 x u := by
  unfold two
  rw [Array.setIfInBounds_setIfInBounds]
theorem two_get1 (hf : f1 ≠ f2) (h1 : f1 < cs.size) (x y : Value) : (two cs f1 f2 x y)[f1]? = some x := by
  unfold two
  rw [Array.getElem?_setIfInBounds_ne (fun e => hf e.symm)]
  simp [h1]
theorem two_get2 (h2 : f2 < cs.size) (x y : Value) : (two cs f1 f2 x y)[f2]? = some y := by
  unfold two
  simp [h2]
structure Inv (ops : Array Oper) (A : (Nat → Value) → Act) (s f1 f2 : Nat) (X Y : Int) (ix : Nat → Nat) (B : Nat) (va vb : Value) (k1 k2 : Nat) (xs ys : List Value) (cs : Array Value) (T : TypeId) (W0 : World) (L : Array Bool) (a : Act) (w : World) : Prop where
  sz : L.size = ops.size
  pure : ∀ j, j < ops.size → (∀ c ∈ cls, j ≠ ix c) → L.getD j false = true
  fr : Fs s va vb W0 w
  st : ∃ v S1 S2, a = A v ∧ ((∀ k, S1 k → ¬ S2 k) ∧ (∀ k, S1 k → va.ownBlock = some k ∨ W0.heap.size ≤ k) ∧ ∀ k, S2 k → vb.ownBlock = some k ∨ W0.heap.size ≤ k) ∧
    Hf S1 B va X k1 xs (L.getD (ix 0) false) (L.getD (ix 2) false) (L.getD (ix 3) false) (v 0) (v 2) (v 3) w ∧
    Hf S2 B vb Y k2 ys (L.getD (ix 4) false) (L.getD (ix 6) false) (L.getD (ix 7) false) (v 4) (v 6) (v 7) w ∧
    w.heap[s]? = some (.cells (two cs f1 f2 (if L.getD (ix 8) false = true then v 3 else va) (if L.getD (ix 9) false = true then v 7 else vb)) T (0, 0)) ∧
    (L.getD (ix 10) false = true → v 10 = .pointer (some ⟨s, 0, none⟩)) ∧ (L.getD (ix 11) false = true → v 11 = .pointer (some ⟨s, f1, none⟩)) ∧ (L.getD (ix 12) false = true → v 12 = .pointer (some ⟨s, 0, none⟩)) ∧ (L.getD (ix 13) false = true → v 13 = .pointer (some ⟨s, f2, none⟩))
  e8 : L.getD (ix 8) false = true → L.getD (ix 3) false = true
  e9 : L.getD (ix 9) false = true → L.getD (ix 7) false = true
  sB : s < B
set_option maxHeartbeats 2000000 in
theorem inv_step (H : Sh ops A s f1 f2 X Y ix) (hf : f1 ≠ f2) (hc1 : f1 < cs.size) (hc2 : f2 < cs.size) (b1 : k1 + 1 ≤ 1000000) (b2 : k2 + 1 ≤ 1000000) (L : Array Bool) (a : Act) (w : World) (i : Nat)
    (hI : Inv ops A s f1 f2 X Y ix B va vb k1 k2 xs ys cs T W0 L a w) (hi : i ∈ Region.ready .any ops L) :
    wpOp Try.prog ops Q i (fun a' w' => Inv ops A s f1 f2 X Y ix B va vb k1 k2 xs ys cs T W0 (L.setIfInBounds i true) a' w') a w := by
  obtain ⟨hL, hpure, hF, ⟨v, S1, S2, rfl, ⟨hd, m1, m2⟩, h1, h2, hcell, l10, l11, l12, l13⟩, e8, e9, hsB⟩ := hI
  have him : i < ops.size := by
    obtain ⟨_, o, ho, _⟩ := mem_ready.1 hi
    exact (Array.getElem?_eq_some_iff.1 ho).1
  have fl := ready_flag (by omega) hi
  have hB := h1.hB
  have sL : (L.setIfInBounds i true).size = ops.size := by simpa using hL
  have st : (L.setIfInBounds i true).getD i false = true := set_flag (by omega)
  have pu : ∀ j, j < ops.size → (∀ c ∈ cls, j ≠ ix c) → (L.setIfInBounds i true).getD j false = true := fun j hj hn => getD_set_true (hpure j hj hn)
  have cases : ∃ c ∈ cls, i = ix c := by
    rcases Classical.em (∃ c ∈ cls, i = ix c) with h | h
    · exact h
    · have := hpure i him (fun c hc e => h ⟨c, hc, e⟩); rw [fl] at this; cases this
  obtain ⟨c, hc, rfl⟩ := cases
  have nf : ∀ d, d ∈ cls ∧ c ≠ d → (L.setIfInBounds (ix c) true).getD (ix d) false = L.getD (ix d) false := fun d hd => ne_flag (fun e => hd.2 (H.inj c hc d hd.1 e))
  have g1 : ∀ x y, (two cs f1 f2 x y)[f1]? = some x := fun x y => two_get1 hf hc1 x y
  have g2 : ∀ x y, (two cs f1 f2 x y)[f2]? = some y := fun x y => two_get2 hc2 x y
  obtain ⟨d3, d7, d8, d9, d11, d13⟩ := H.dep L
  simp only [cls, List.mem_cons, List.not_mem_nil, or_false] at hc
  rcases hc with rfl | rfl | rfl | rfl | rfl | rfl | rfl | rfl | rfl | rfl | rfl | rfl
  · obtain ⟨o, p, ho, hg, hop, hp, hput⟩ := H.o0
    have c8 : L.getD (ix 8) false = false := by
      rcases hb : L.getD (ix 8) false with _ | _
      · rfl
      · have := h1.dep (e8 hb); rw [fl] at this; cases this
    have cl := Kit.cell_of hcell f1
    rw [c8, g1] at cl
    refine op_plain ho hg (run_loadF hop (hp v) cl) ?_
    rw [hput]
    refine ⟨sL, pu, hF, ⟨_, S1, S2, rfl, ⟨hd, m1, m2⟩, ?_, ?_, ?_, ?_, ?_, ?_, ?_⟩, ?_, ?_, hsB⟩
    · rw [st, nf 2 (by decide), nf 3 (by decide)]; exact h1.load
    · rw [nf 4 (by decide), nf 6 (by decide), nf 7 (by decide)]; exact h2
    · rw [nf 8 (by decide), nf 9 (by decide)]; exact hcell
    · rw [nf 10 (by decide)]; exact l10
    · rw [nf 11 (by decide)]; exact l11
    · rw [nf 12 (by decide)]; exact l12
    · rw [nf 13 (by decide)]; exact l13
    · rw [nf 8 (by decide), nf 3 (by decide)]; exact e8
    · rw [nf 9 (by decide), nf 7 (by decide)]; exact e9
  · obtain ⟨o, p, ho, hg, hop, hp, hput⟩ := H.o2
    refine op_plain ho hg (Tw.run_build hop (hp v)) ?_
    rw [hput]
    have gr := World.grownBy_alloc w (.cells #[X1 X] 3) none
    refine ⟨sL, pu, hF.grown gr (fun k e => by cases e), ⟨_, (fun k => S1 k ∨ k = w.heap.size), S2, rfl, ⟨?_, ?_, m2⟩, ?_, ?_, ?_, ?_, ?_, ?_, ?_⟩, ?_, ?_, hsB⟩
    · rintro k (hk | rfl) hk2
      · exact hd k hk hk2
      · have := (h2.low _ hk2).2; omega
    · rintro k (hk | rfl)
      · exact m1 k hk
      · exact .inr hF.size
    · rw [st, nf 0 (by decide), nf 3 (by decide)]; exact h1.build
    · rw [nf 4 (by decide), nf 6 (by decide), nf 7 (by decide)]; exact h2.keep gr (fun k e => by cases e)
    · rw [nf 8 (by decide), nf 9 (by decide)]; exact Kit.keep_alloc hcell _
    · rw [nf 10 (by decide)]; exact l10
    · rw [nf 11 (by decide)]; exact l11
    · rw [nf 12 (by decide)]; exact l12
    · rw [nf 13 (by decide)]; exact l13
    · rw [nf 8 (by decide), nf 3 (by decide)]; exact e8
    · rw [nf 9 (by decide), nf 7 (by decide)]; exact e9
  · obtain ⟨o, s', x, ho, hg, hop, hp, hput⟩ := H.o3
    obtain ⟨u, w', S', hrun, hH, hgr, hS⟩ := h1.app (d3 hi).1 (d3 hi).2 fl b1 hop (hp v).1 (hp v).2
    refine op_plain ho hg hrun ?_
    rw [hput]
    have c8 : L.getD (ix 8) false = false := by
      rcases hb : L.getD (ix 8) false with _ | _
      · rfl
      · have := e8 hb; rw [fl] at this; cases this
    refine ⟨sL, pu, hF.grown hgr (fun k e => .inr (.inl e)), ⟨_, S', S2, rfl, ⟨?_, ?_, m2⟩, ?_, ?_, ?_, ?_, ?_, ?_, ?_⟩, ?_, ?_, hsB⟩
    · intro k hk hk2
      rcases hS k hk with hk | rfl
      · exact hd k hk hk2
      · have := (h2.low _ hk2).2; omega
    · intro k hk
      rcases hS k hk with hk | rfl
      · exact m1 k hk
      · exact .inr hF.size
    · rw [st, nf 0 (by decide), nf 2 (by decide)]; exact hH
    · rw [nf 4 (by decide), nf 6 (by decide), nf 7 (by decide)]; exact h2.keep hgr (fun k e => hd k (h1.sv k e))
    · rw [nf 8 (by decide), nf 9 (by decide)]
      refine (hgr.block s (Kit.lt_of hcell) (fun e => by have := (h1.low s (h1.sv s e.symm)).1; omega)).trans ?_
      rw [hcell, c8]; rfl
    · rw [nf 10 (by decide)]; exact l10
    · rw [nf 11 (by decide)]; exact l11
    · rw [nf 12 (by decide)]; exact l12
    · rw [nf 13 (by decide)]; exact l13
    · rw [nf 8 (by decide), st]; exact fun _ => rfl
    · rw [nf 9 (by decide), nf 7 (by decide)]; exact e9
  · obtain ⟨o, p, ho, hg, hop, hp, hput⟩ := H.o4
    have c8 : L.getD (ix 9) false = false := by
      rcases hb : L.getD (ix 9) false with _ | _
      · rfl
      · have := h2.dep (e9 hb); rw [fl] at this; cases this
    have cl := Kit.cell_of hcell f2
    rw [c8, g2] at cl
    refine op_plain ho hg (run_loadF hop (hp v) cl) ?_
    rw [hput]
    refine ⟨sL, pu, hF, ⟨_, S1, S2, rfl, ⟨hd, m1, m2⟩, ?_, ?_, ?_, ?_, ?_, ?_, ?_⟩, ?_, ?_, hsB⟩
    · rw [nf 0 (by decide), nf 2 (by decide), nf 3 (by decide)]; exact h1
    · rw [st, nf 6 (by decide), nf 7 (by decide)]; exact h2.load
    · rw [nf 8 (by decide), nf 9 (by decide)]; exact hcell
    · rw [nf 10 (by decide)]; exact l10
    · rw [nf 11 (by decide)]; exact l11
    · rw [nf 12 (by decide)]; exact l12
    · rw [nf 13 (by decide)]; exact l13
    · rw [nf 8 (by decide), nf 3 (by decide)]; exact e8
    · rw [nf 9 (by decide), nf 7 (by decide)]; exact e9
  · obtain ⟨o, p, ho, hg, hop, hp, hput⟩ := H.o6
    refine op_plain ho hg (Tw.run_build hop (hp v)) ?_
    rw [hput]
    have gr := World.grownBy_alloc w (.cells #[X1 Y] 3) none
    refine ⟨sL, pu, hF.grown gr (fun k e => by cases e), ⟨_, S1, (fun k => S2 k ∨ k = w.heap.size), rfl, ⟨?_, m1, ?_⟩, ?_, ?_, ?_, ?_, ?_, ?_, ?_⟩, ?_, ?_, hsB⟩
    · rintro k hk (hk2 | rfl)
      · exact hd k hk hk2
      · have := (h1.low _ hk).2; omega
    · rintro k (hk | rfl)
      · exact m2 k hk
      · exact .inr hF.size
    · rw [nf 0 (by decide), nf 2 (by decide), nf 3 (by decide)]; exact h1.keep gr (fun k e => by cases e)
    · rw [st, nf 4 (by decide), nf 7 (by decide)]; exact h2.build
    · rw [nf 8 (by decide), nf 9 (by decide)]; exact Kit.keep_alloc hcell _
    · rw [nf 10 (by decide)]; exact l10
    · rw [nf 11 (by decide)]; exact l11
    · rw [nf 12 (by decide)]; exact l12
    · rw [nf 13 (by decide)]; exact l13
    · rw [nf 8 (by decide), nf 3 (by decide)]; exact e8
    · rw [nf 9 (by decide), nf 7 (by decide)]; exact e9
  · obtain ⟨o, s', x, ho, hg, hop, hp, hput⟩ := H.o7
    obtain ⟨u, w', S', hrun, hH, hgr, hS⟩ := h2.app (d7 hi).1 (d7 hi).2 fl b2 hop (hp v).1 (hp v).2
    refine op_plain ho hg hrun ?_
    rw [hput]
    have c8 : L.getD (ix 9) false = false := by
      rcases hb : L.getD (ix 9) false with _ | _
      · rfl
      · have := e9 hb; rw [fl] at this; cases this
    refine ⟨sL, pu, hF.grown hgr (fun k e => .inr (.inr e)), ⟨_, S1, S', rfl, ⟨?_, m1, ?_⟩, ?_, ?_, ?_, ?_, ?_, ?_, ?_⟩, ?_, ?_, hsB⟩
    · intro k hk hk2
      rcases hS k hk2 with hk2 | rfl
      · exact hd k hk hk2
      · have := (h1.low _ hk).2; omega
    · intro k hk
      rcases hS k hk with hk | rfl
      · exact m2 k hk
      · exact .inr hF.size
    · rw [nf 0 (by decide), nf 2 (by decide), nf 3 (by decide)]; exact h1.keep hgr (fun k e hk => hd k hk (h2.sv k e))
    · rw [st, nf 4 (by decide), nf 6 (by decide)]; exact hH
    · rw [nf 8 (by decide), nf 9 (by decide)]
      refine (hgr.block s (Kit.lt_of hcell) (fun e => by have := (h2.low s (h2.sv s e.symm)).1; omega)).trans ?_
      rw [hcell, c8]; rfl
    · rw [nf 10 (by decide)]; exact l10
    · rw [nf 11 (by decide)]; exact l11
    · rw [nf 12 (by decide)]; exact l12
    · rw [nf 13 (by decide)]; exact l13
    · rw [nf 8 (by decide), nf 3 (by decide)]; exact e8
    · rw [nf 9 (by decide), st]; exact fun _ => rfl
  · obtain ⟨o, p, x, ho, hg, hop, hp, hput⟩ := H.o8
    have b3 := (d8 hi).1
    have cl := Kit.cell_of hcell f1
    rw [g1] at cl
    refine op_skip ho hg (run_storeF hop ((hp v).1.trans (l11 (d8 hi).2)) (hp v).2 ?_ cl (Kit.frozen_of hcell f1)) ?_
    · rcases (h1.o3 b3).1.2 with ⟨e, _⟩ | ⟨g, cap, cur, e, _⟩ <;> exact ⟨_, _, _, e⟩
    rw [hput]
    have hg' : w.grownBy (w.setCell ⟨s, f1, none⟩ (v 3)) (some s) := ⟨rfl, rfl, rfl, by simp [World.setCell], fun k hk e => Below.heap_setCell w _ _ k (fun e' => e (by rw [e']))⟩
    refine ⟨sL, pu, hF.grown hg' (fun k e => .inl (by cases e; rfl)), ⟨_, S1, S2, rfl, ⟨hd, m1, m2⟩, ?_, ?_, ?_, ?_, ?_, ?_, ?_⟩, ?_, ?_, hsB⟩
    · rw [nf 0 (by decide), nf 2 (by decide), nf 3 (by decide)]; exact h1.keep hg' (fun k e hk => by cases e; have := (h1.low _ hk).1; omega)
    · rw [nf 4 (by decide), nf 6 (by decide), nf 7 (by decide)]; exact h2.keep hg' (fun k e hk => by cases e; have := (h2.low _ hk).1; omega)
    · rw [st, nf 9 (by decide)]
      have := Kit.set_blk hcell f1 (v 3)
      rw [two_fst hf] at this
      exact this
    · rw [nf 10 (by decide)]; exact l10
    · rw [nf 11 (by decide)]; exact l11
    · rw [nf 12 (by decide)]; exact l12
    · rw [nf 13 (by decide)]; exact l13
    · rw [nf 3 (by decide)]; exact fun _ => b3
    · rw [nf 9 (by decide), nf 7 (by decide)]; exact e9
  · obtain ⟨o, p, x, ho, hg, hop, hp, hput⟩ := H.o9
    have b3 := (d9 hi).1
    have cl := Kit.cell_of hcell f2
    rw [g2] at cl
    refine op_skip ho hg (run_storeF hop ((hp v).1.trans (l13 (d9 hi).2)) (hp v).2 ?_ cl (Kit.frozen_of hcell f2)) ?_
    · rcases (h2.o3 b3).1.2 with ⟨e, _⟩ | ⟨g, cap, cur, e, _⟩ <;> exact ⟨_, _, _, e⟩
    rw [hput]
    have hg' : w.grownBy (w.setCell ⟨s, f2, none⟩ (v 7)) (some s) := ⟨rfl, rfl, rfl, by simp [World.setCell], fun k hk e => Below.heap_setCell w _ _ k (fun e' => e (by rw [e']))⟩
    refine ⟨sL, pu, hF.grown hg' (fun k e => .inl (by cases e; rfl)), ⟨_, S1, S2, rfl, ⟨hd, m1, m2⟩, ?_, ?_, ?_, ?_, ?_, ?_, ?_⟩, ?_, ?_, hsB⟩
    · rw [nf 0 (by decide), nf 2 (by decide), nf 3 (by decide)]; exact h1.keep hg' (fun k e hk => by cases e; have := (h1.low _ hk).1; omega)
    · rw [nf 4 (by decide), nf 6 (by decide), nf 7 (by decide)]; exact h2.keep hg' (fun k e hk => by cases e; have := (h2.low _ hk).1; omega)
    · rw [st, nf 8 (by decide)]
      have := Kit.set_blk hcell f2 (v 7)
      rw [two_snd] at this
      exact this
    · rw [nf 10 (by decide)]; exact l10
    · rw [nf 11 (by decide)]; exact l11
    · rw [nf 12 (by decide)]; exact l12
    · rw [nf 13 (by decide)]; exact l13
    · rw [nf 8 (by decide), nf 3 (by decide)]; exact e8
    · rw [nf 7 (by decide)]; exact fun _ => b3
  · obtain ⟨o, ho, hg, hrun, hput⟩ := H.o10
    refine op_plain ho hg (hrun v w) ?_
    rw [hput]
    refine ⟨sL, pu, hF, ⟨_, S1, S2, rfl, ⟨hd, m1, m2⟩, ?_, ?_, ?_, ?_, ?_, ?_, ?_⟩, ?_, ?_, hsB⟩
    · rw [nf 0 (by decide), nf 2 (by decide), nf 3 (by decide)]; exact h1
    · rw [nf 4 (by decide), nf 6 (by decide), nf 7 (by decide)]; exact h2
    · rw [nf 8 (by decide), nf 9 (by decide)]; exact hcell
    · exact fun _ => rfl
    · rw [nf 11 (by decide)]; exact l11
    · rw [nf 12 (by decide)]; exact l12
    · rw [nf 13 (by decide)]; exact l13
    · rw [nf 8 (by decide), nf 3 (by decide)]; exact e8
    · rw [nf 9 (by decide), nf 7 (by decide)]; exact e9
  · obtain ⟨o, ho, hg, hrun, hput⟩ := H.o11
    refine op_plain ho hg (hrun v w (l10 (d11 hi))) ?_
    rw [hput]
    refine ⟨sL, pu, hF, ⟨_, S1, S2, rfl, ⟨hd, m1, m2⟩, ?_, ?_, ?_, ?_, ?_, ?_, ?_⟩, ?_, ?_, hsB⟩
    · rw [nf 0 (by decide), nf 2 (by decide), nf 3 (by decide)]; exact h1
    · rw [nf 4 (by decide), nf 6 (by decide), nf 7 (by decide)]; exact h2
    · rw [nf 8 (by decide), nf 9 (by decide)]; exact hcell
    · rw [nf 10 (by decide)]; exact l10
    · exact fun _ => rfl
    · rw [nf 12 (by decide)]; exact l12
    · rw [nf 13 (by decide)]; exact l13
    · rw [nf 8 (by decide), nf 3 (by decide)]; exact e8
    · rw [nf 9 (by decide), nf 7 (by decide)]; exact e9
  · obtain ⟨o, ho, hg, hrun, hput⟩ := H.o12
    refine op_plain ho hg (hrun v w) ?_
    rw [hput]
    refine ⟨sL, pu, hF, ⟨_, S1, S2, rfl, ⟨hd, m1, m2⟩, ?_, ?_, ?_, ?_, ?_, ?_, ?_⟩, ?_, ?_, hsB⟩
    · rw [nf 0 (by decide), nf 2 (by decide), nf 3 (by decide)]; exact h1
    · rw [nf 4 (by decide), nf 6 (by decide), nf 7 (by decide)]; exact h2
    · rw [nf 8 (by decide), nf 9 (by decide)]; exact hcell
    · rw [nf 10 (by decide)]; exact l10
    · rw [nf 11 (by decide)]; exact l11
    · exact fun _ => rfl
    · rw [nf 13 (by decide)]; exact l13
    · rw [nf 8 (by decide), nf 3 (by decide)]; exact e8
    · rw [nf 9 (by decide), nf 7 (by decide)]; exact e9
  · obtain ⟨o, ho, hg, hrun, hput⟩ := H.o13
    refine op_plain ho hg (hrun v w (l12 (d13 hi))) ?_
    rw [hput]
    refine ⟨sL, pu, hF, ⟨_, S1, S2, rfl, ⟨hd, m1, m2⟩, ?_, ?_, ?_, ?_, ?_, ?_, ?_⟩, ?_, ?_, hsB⟩
    · rw [nf 0 (by decide), nf 2 (by decide), nf 3 (by decide)]; exact h1
    · rw [nf 4 (by decide), nf 6 (by decide), nf 7 (by decide)]; exact h2
    · rw [nf 8 (by decide), nf 9 (by decide)]; exact hcell
    · rw [nf 10 (by decide)]; exact l10
    · rw [nf 11 (by decide)]; exact l11
    · rw [nf 12 (by decide)]; exact l12
    · exact fun _ => rfl
    · rw [nf 8 (by decide), nf 3 (by decide)]; exact e8
    · rw [nf 9 (by decide), nf 7 (by decide)]; exact e9
/-- What is left of the region, whatever its order: both fields hold one number more. -/
theorem wp_two (H : Sh ops A s f1 f2 X Y ix) (hf : f1 ≠ f2) (hc1 : f1 < cs.size) (hc2 : f2 < cs.size) (b1 : k1 + 1 ≤ 1000000) (b2 : k2 + 1 ≤ 1000000) {fuel : Nat} {L0 : Array Bool} (hL0 : L0.size = ops.size)
    (hpure : ∀ j, j < ops.size → (∀ c ∈ cls, j ≠ ix c) → L0.getD j false = true) (hopen : ∀ c ∈ cls, L0.getD (ix c) false = false) (hfu : L0.toList.countP (· = false) ≤ fuel)
    (v : Nat → Value) (w : World) (hsB : s < B) (hB : B ≤ w.heap.size) (hs : w.heap[s]? = some (.cells (two cs f1 f2 va vb) T (0, 0)))
    (o1 : w.ownsRow B 3 1 va k1 xs) (o2 : w.ownsRow B 3 1 vb k2 ys) (hd : va.ownBlock = none ∨ va.ownBlock ≠ vb.ownBlock)
    (hK : ∀ v w' va' vb', Fs s va vb w w' → w'.heap[s]? = some (.cells (two cs f1 f2 va' vb') T (0, 0)) →
      w'.ownsRow B 3 1 va' (k1 + 1) (xs ++ [X1 X]) → w'.ownsRow B 3 1 vb' (k2 + 1) (ys ++ [X1 Y]) → (va'.ownBlock = none ∨ va'.ownBlock ≠ vb'.ownBlock) → (∀ k, va'.ownBlock = some k → va.ownBlock = some k ∨ w.heap.size ≤ k) → (∀ k, vb'.ownBlock = some k → vb.ownBlock = some k ∨ w.heap.size ≤ k) → Q .normal (A v) w') :
    wpAny Try.prog .any ops Q fuel L0 (A v) w := by
  have op : ∀ c ∈ cls, L0.getD (ix c) false = false := hopen
  simp only [cls, List.mem_cons, List.not_mem_nil, or_false, forall_eq_or_imp, forall_eq] at op
  obtain ⟨p0, p2, p3, p4, p6, p7, p8, p9, p10, p11, p12, p13⟩ := op
  refine wpAny_inv (Inv ops A s f1 f2 X Y ix B va vb k1 k2 xs ys cs T w) (fun L a w' hI hr => ?_) (fun L a w' i hI hi => inv_step H hf hc1 hc2 b1 b2 L a w' i hI hi) fuel L0 _ _ hfu ?_
  · obtain ⟨hL, _, hF, ⟨v', S1, S2, rfl, ⟨hd', m1, m2⟩, h1, h2, hcell, _⟩, _, _, _⟩ := hI
    have al := all_bound H.ord L hr
    have f : ∀ j, j < ops.size → L.getD j false = true := fun j hj => by
      have := al j hj
      have hj' : j < L.size := by omega
      simpa [hj'] using this
    have fc : ∀ c ∈ cls, L.getD (ix c) false = true := fun c hc => f _ (H.lt c hc)
    have q1 := h1.o3 (fc 3 (by decide))
    have q2 := h2.o3 (fc 7 (by decide))
    rw [fc 8 (by decide), fc 9 (by decide)] at hcell
    refine hK v' w' (v' 3) (v' 7) hF hcell q1.1 q2.1 ?_ ?_ ?_
    · rcases hb : (v' 3).ownBlock with _ | k
      · exact .inl rfl
      · exact .inr (fun e => hd' k (q1.2 k hb) (q2.2 k (e.symm)))
    · exact fun k hk => m1 k (q1.2 k hk)
    · exact fun k hk => m2 k (q2.2 k hk)
  · refine ⟨hL0, hpure, ⟨rfl, rfl, rfl, Nat.le_refl _, fun _ _ _ _ _ => rfl⟩, ⟨v, fun k => va.ownBlock = some k, fun k => vb.ownBlock = some k, rfl, ⟨fun k e1 e2 => ?_, fun k e => .inl e, fun k e => .inl e⟩, ?_, ?_, ?_, ?_, ?_, ?_, ?_⟩, ?_, ?_, hsB⟩
    · rcases hd with hd | hd
      · rw [hd] at e1; cases e1
      · exact hd (e1.trans e2.symm)
    · rw [p0, p2, p3]
      exact ⟨fun k e => o1.lt k e, fun b => absurd b (by simp), fun b => absurd b (by simp), fun _ => o1, fun _ e => e, fun b => absurd b (by simp), fun b => absurd b (by simp), hB⟩
    · rw [p4, p6, p7]
      exact ⟨fun k e => o2.lt k e, fun b => absurd b (by simp), fun b => absurd b (by simp), fun _ => o2, fun _ e => e, fun b => absurd b (by simp), fun b => absurd b (by simp), hB⟩
    · rw [p8, p9]; exact hs
    · rw [p10]; exact fun b => absurd b (by simp)
    · rw [p11]; exact fun b => absurd b (by simp)
    · rw [p12]; exact fun b => absurd b (by simp)
    · rw [p13]; exact fun b => absurd b (by simp)
    · rw [p8]; exact fun b => absurd b (by simp)
    · rw [p9]; exact fun b => absurd b (by simp)
end region
section at_slots
variable {ops : Array Oper} {Q : Exit → Act → World → Prop} {a0 : Act} {s f1 f2 : Nat} {X Y : Int}
/-- Some slots, turned. -/
def chain (ps : List (Nat × Nat)) (v : Nat → Value) (arr : Array Value) : Array Value := ps.foldl (fun arr p => arr.setIfInBounds p.1 (v p.2)) arr
theorem chain_size (ps : List (Nat × Nat)) (v : Nat → Value) : ∀ arr, (chain ps v arr).size = arr.size := by
  unfold chain
  induction ps with
  | nil => intro arr; rfl
  | cons p t ih => intro arr; rw [List.foldl_cons, ih]; simp
theorem chain_far (ps : List (Nat × Nat)) (v : Nat → Value) (k : Nat) : ∀ arr, (∀ p ∈ ps, p.1 ≠ k) → (chain ps v arr)[k]? = arr[k]? := by
  unfold chain
  induction ps with
  | nil => intro arr _; rfl
  | cons p t ih =>
    intro arr h
    rw [List.foldl_cons, ih _ (fun q hq => h q (List.mem_cons_of_mem _ hq)), Array.getElem?_setIfInBounds_ne (h p List.mem_cons_self)]
theorem chain_near (ps : List (Nat × Nat)) (v : Nat → Value) (k j : Nat) : ∀ arr, (ps.map (·.1)).Nodup → (∀ p ∈ ps, p.1 < arr.size) → (k, j) ∈ ps → (chain ps v arr)[k]? = some (v j) := by
  unfold chain
  induction ps with
  | nil => intro arr _ _ h; cases h
  | cons p t ih =>
    intro arr hn hl h
    rw [List.map_cons, List.nodup_cons] at hn
    rw [List.foldl_cons]
    rcases List.mem_cons.1 h with e | h'
    · subst e
      have := chain_far t v k (arr.setIfInBounds k (v j)) (fun q hq e => hn.1 (List.mem_map.2 ⟨q, hq, e⟩))
      unfold chain at this
      rw [this]
      simp [hl (k, j) List.mem_cons_self]
    · exact ih _ hn.2 (fun q hq => by rw [Array.size_setIfInBounds]; exact hl q (List.mem_cons_of_mem _ hq)) h'
theorem act_ext {a b : Act} (h : a.tmps = b.tmps) (h2 : a.defers = b.defers) : a = b := by
  cases a; cases b; cases h; cases h2; rfl
def At (a0 : Act) (ps : List (Nat × Nat)) (v : Nat → Value) : Act := { tmps := chain ps v a0.tmps, defers := a0.defers }
theorem put_tmps (a : Act) (t : Nat) (u : Value) : (a.put (some t) u).tmps = a.tmps.setIfInBounds t u := rfl
theorem put_defers (a : Act) (t : Nat) (u : Value) : (a.put (some t) u).defers = a.defers := rfl
theorem at_tmps (ps : List (Nat × Nat)) (v : Nat → Value) : (At a0 ps v).tmps = chain ps v a0.tmps := rfl
theorem at_defers (ps : List (Nat × Nat)) (v : Nat → Value) : (At a0 ps v).defers = a0.defers := rfl
/-- The slots are apart, each with its own value. -/
structure Slots (ps : List (Nat × Nat)) (n : Nat) : Prop where
  fst : (ps.map (·.1)).Nodup
  snd : (ps.map (·.2)).Nodup
  lt : ∀ p ∈ ps, p.1 < n
section
variable {ps : List (Nat × Nat)} {n : Nat}
theorem at_far (v : Nat → Value) (q : Nat) (h : ∀ p ∈ ps, p.1 ≠ q) : (At a0 ps v).eval (.tmp q) = a0.eval (.tmp q) := by
  simp only [Act.eval, Array.getD_eq_getD_getElem?]
  rw [at_tmps, chain_far ps v q _ h]
theorem at_near (hn : a0.tmps.size = n) (S : Slots ps n) (v : Nat → Value) (k j : Nat) (h : (k, j) ∈ ps) : (At a0 ps v).eval (.tmp k) = v j := by
  simp only [Act.eval, Array.getD_eq_getD_getElem?]
  rw [at_tmps, chain_near ps v k j _ S.fst (fun p hp => by rw [hn]; exact S.lt p hp) h]
  rfl
theorem nodup_inj {α β : Type} {f : α → β} {l : List α} (h : (l.map f).Nodup) {x y : α} (hx : x ∈ l) (hy : y ∈ l) (e : f x = f y) : x = y := by
  induction l with
  | nil => cases hx
  | cons a t ih =>
    rw [List.map_cons, List.nodup_cons] at h
    rcases List.mem_cons.1 hx with ea | hx2 <;> rcases List.mem_cons.1 hy with eb | hy2
    · rw [ea, eb]
    · exact absurd (List.mem_map.2 ⟨y, hy2, by rw [← ea]; exact e.symm⟩) h.1
    · exact absurd (List.mem_map.2 ⟨x, hx2, by rw [← eb]; exact e⟩) h.1
    · exact ih h.2 hx2 hy2
theorem at_put (hn : a0.tmps.size = n) (S : Slots ps n) (v : Nat → Value) (u : Value) (k j : Nat) (h : (k, j) ∈ ps) : (At a0 ps v).put (some k) u = At a0 ps (upd v j u) := by
  have lt : ∀ p ∈ ps, p.1 < a0.tmps.size := fun p hp => by rw [hn]; exact S.lt p hp
  refine act_ext ?_ (by rw [put_defers, at_defers, at_defers])
  rw [put_tmps, at_tmps, at_tmps]
  apply Array.ext_getElem?
  intro i
  by_cases hi : ∃ c, (i, c) ∈ ps
  · obtain ⟨c, hc⟩ := hi
    rw [chain_near ps _ i c _ S.fst lt hc]
    by_cases e : k = i
    · subst e
      have := nodup_inj S.fst h hc rfl
      simp only [Prod.mk.injEq, true_and] at this
      subst this
      simp [upd, chain_size, lt _ h]
    · rw [Array.getElem?_setIfInBounds_ne e, chain_near ps _ i c _ S.fst lt hc]
      have : c ≠ j := fun e2 => e (by have := nodup_inj S.snd h hc e2.symm; simp only [Prod.mk.injEq] at this; exact this.1)
      simp [upd, this]
  · have hf : ∀ p ∈ ps, p.1 ≠ i := fun p hp e => hi ⟨p.2, by rw [← e]; exact hp⟩
    rw [chain_far ps _ i _ hf, Array.getElem?_setIfInBounds_ne (hf (k, j) h), chain_far ps _ i _ hf]
theorem at_self (v : Nat → Value) (hn : a0.tmps.size = n) (S : Slots ps n) (h : ∀ p ∈ ps, a0.tmps[p.1]? = some (v p.2)) : At a0 ps v = a0 := by
  have lt : ∀ p ∈ ps, p.1 < a0.tmps.size := fun p hp => by rw [hn]; exact S.lt p hp
  refine act_ext ?_ (at_defers _ _)
  rw [at_tmps]
  apply Array.ext_getElem?
  intro i
  by_cases hi : ∃ c, (i, c) ∈ ps
  · obtain ⟨c, hc⟩ := hi
    rw [chain_near ps _ i c _ S.fst lt hc, h _ hc]
  · exact chain_far ps _ i _ (fun p hp e => hi ⟨p.2, by rw [← e]; exact hp⟩)
end
/-- What a region's operations wait for, by a test. -/
def ordB (ops : Array Oper) : Bool := (List.range ops.size).all fun j => match ops[j]? with | some o => o.after.all (fun e => !Region.binds .any e || decide (e.on < j)) | none => true
def depB (ops : Array Oper) (i j : Nat) : Bool := match ops[i]? with | some o => o.after.any (fun e => e.on == j && Region.binds .any e) | none => false
theorem ord_of (h : ordB ops = true) (j : Nat) (o : Oper) (ho : ops[j]? = some o) : ∀ e ∈ o.after, Region.binds .any e = true → e.on < j := fun e he hb => by
  have hj := (Array.getElem?_eq_some_iff.1 ho).1
  have := List.all_eq_true.1 h j (List.mem_range.2 hj)
  rw [ho] at this
  have := Array.all_eq_true_iff_forall_mem.1 this e he
  rw [hb] at this
  simpa using this
theorem dep_of {i j : Nat} (h : depB ops i j = true) (L : Array Bool) (hi : i ∈ Region.ready .any ops L) : L.getD j false = true := by
  obtain ⟨_, o, ho, hall⟩ := mem_ready.1 hi
  unfold depB at h
  rw [ho] at h
  obtain ⟨e, he, hb⟩ := Array.any_eq_true'.1 h
  rw [Bool.and_eq_true, beq_iff_eq] at hb
  rw [← hb.1]
  exact hall e he hb.2
def ixl (l : List Nat) (c : Nat) : Nat := l.getD c 0
def flagsB (ops : Array Oper) (L0 : Array Bool) (l : List Nat) : Bool := (L0.size == ops.size) && ((List.range ops.size).all fun j => cls.any (fun c => j == ixl l c) || L0.getD j false) && (cls.all fun c => !L0.getD (ixl l c) false) && (cls.all fun c => decide (ixl l c < ops.size)) && (cls.all fun c => cls.all fun d => decide (ixl l c = ixl l d → c = d)) && (decide (L0.toList.countP (· = false) ≤ 12))
def depsB (ops : Array Oper) (l : List Nat) : Bool := depB ops (ixl l 3) (ixl l 0) && depB ops (ixl l 3) (ixl l 2) && depB ops (ixl l 7) (ixl l 4) && depB ops (ixl l 7) (ixl l 6) && depB ops (ixl l 8) (ixl l 3) && depB ops (ixl l 8) (ixl l 11) && depB ops (ixl l 9) (ixl l 7) && depB ops (ixl l 9) (ixl l 13) && depB ops (ixl l 11) (ixl l 10) && depB ops (ixl l 13) (ixl l 12)
/-- The slots of a region that appends to two fields: t0 .. by kind. -/
def pairs10 (t0 t2 t3 t4 t6 t7 t10 t11 t12 t13 : Nat) : List (Nat × Nat) := [(t0, 0), (t2, 2), (t3, 3), (t4, 4), (t6, 6), (t7, 7), (t10, 10), (t11, 11), (t12, 12), (t13, 13)]
def farB (ps : List (Nat × Nat)) (q : Nat) : Bool := ps.all fun p => decide (p.1 ≠ q)
def slotsB (ps : List (Nat × Nat)) (n : Nat) : Bool := decide (ps.map (·.1)).Nodup && decide (ps.map (·.2)).Nodup && ps.all fun p => decide (p.1 < n)
theorem wp_two_at {n q0 q2 q4 q6 q10 q12 t0 t2 t3 t4 t6 t7 t10 t11 t12 t13 : Nat} (l : List Nat) {B : Nat} {va vb : Value} {k1 k2 : Nat} {xs ys : List Value} {cs : Array Value} {T : TypeId} {w : World} {fuel : Nat} {L0 : Array Bool}
    (hn : a0.tmps.size = n) (hB1 : ordB ops = true) (hB2 : flagsB ops L0 l = true) (hB3 : depsB ops l = true) (hfu : 12 ≤ fuel)
    (hS : slotsB (pairs10 t0 t2 t3 t4 t6 t7 t10 t11 t12 t13) n = true) (hF : (farB (pairs10 t0 t2 t3 t4 t6 t7 t10 t11 t12 t13) q0 && farB (pairs10 t0 t2 t3 t4 t6 t7 t10 t11 t12 t13) q2 && farB (pairs10 t0 t2 t3 t4 t6 t7 t10 t11 t12 t13) q4 && farB (pairs10 t0 t2 t3 t4 t6 t7 t10 t11 t12 t13) q6 && farB (pairs10 t0 t2 t3 t4 t6 t7 t10 t11 t12 t13) q10 && farB (pairs10 t0 t2 t3 t4 t6 t7 t10 t11 t12 t13) q12) = true)
    (o0 : ∃ o, ops[ixl l 0]? = some o ∧ o.guard = none ∧ o.dst = some t0 ∧ o.op = .load 43 (.tmp q0))
    (o2 : ∃ o, ops[ixl l 2]? = some o ∧ o.guard = none ∧ o.dst = some t2 ∧ o.op = .buildSlice 43 1 #[(0, .tmp q2)])
    (o3 : ∃ o, ops[ixl l 3]? = some o ∧ o.guard = none ∧ o.dst = some t3 ∧ o.op = .call { callee := .builtin .append, args := #[.tmp t0, .tmp t2], argTypes := #[43, 43] })
    (o4 : ∃ o, ops[ixl l 4]? = some o ∧ o.guard = none ∧ o.dst = some t4 ∧ o.op = .load 43 (.tmp q4))
    (o6 : ∃ o, ops[ixl l 6]? = some o ∧ o.guard = none ∧ o.dst = some t6 ∧ o.op = .buildSlice 43 1 #[(0, .tmp q6)])
    (o7 : ∃ o, ops[ixl l 7]? = some o ∧ o.guard = none ∧ o.dst = some t7 ∧ o.op = .call { callee := .builtin .append, args := #[.tmp t4, .tmp t6], argTypes := #[43, 43] })
    (o8 : ∃ o, ops[ixl l 8]? = some o ∧ o.guard = none ∧ o.dst = none ∧ o.op = .store 43 (.tmp t11) (.tmp t3))
    (o9 : ∃ o, ops[ixl l 9]? = some o ∧ o.guard = none ∧ o.dst = none ∧ o.op = .store 43 (.tmp t13) (.tmp t7))
    (o10 : ∃ o, ops[ixl l 10]? = some o ∧ o.guard = none ∧ o.dst = some t10 ∧ o.op = .nilCheck (.tmp q10))
    (o11 : ∃ o, ops[ixl l 11]? = some o ∧ o.guard = none ∧ o.dst = some t11 ∧ o.op = .fieldAddr T (.tmp t10) f1)
    (o12 : ∃ o, ops[ixl l 12]? = some o ∧ o.guard = none ∧ o.dst = some t12 ∧ o.op = .nilCheck (.tmp q12))
    (o13 : ∃ o, ops[ixl l 13]? = some o ∧ o.guard = none ∧ o.dst = some t13 ∧ o.op = .fieldAddr T (.tmp t12) f2)
    (hfa : ∀ (ρ : Operand → Value) (o : Oper) (p : Operand) (w : World), (o.op = .nilCheck p → ρ p = .pointer (some ⟨s, 0, none⟩) → (execOp ρ o).run Try.prog w = .ok (.value (.pointer (some ⟨s, 0, none⟩))) w) ∧ (o.op = .fieldAddr T p f1 → ρ p = .pointer (some ⟨s, 0, none⟩) → (execOp ρ o).run Try.prog w = .ok (.value (.pointer (some ⟨s, f1, none⟩))) w) ∧ (o.op = .fieldAddr T p f2 → ρ p = .pointer (some ⟨s, 0, none⟩) → (execOp ρ o).run Try.prog w = .ok (.value (.pointer (some ⟨s, f2, none⟩))) w))
    (e0 : a0.eval (.tmp q0) = .pointer (some ⟨s, f1, none⟩)) (e2 : a0.eval (.tmp q2) = X1 X) (e4 : a0.eval (.tmp q4) = .pointer (some ⟨s, f2, none⟩)) (e6 : a0.eval (.tmp q6) = X1 Y) (e10 : a0.eval (.tmp q10) = .pointer (some ⟨s, 0, none⟩)) (e12 : a0.eval (.tmp q12) = .pointer (some ⟨s, 0, none⟩))
    (hf : f1 ≠ f2) (hc1 : f1 < cs.size) (hc2 : f2 < cs.size) (b1 : k1 + 1 ≤ 1000000) (b2 : k2 + 1 ≤ 1000000) (hsB : s < B) (hB : B ≤ w.heap.size) (hs : w.heap[s]? = some (.cells (two cs f1 f2 va vb) T (0, 0)))
    (ow1 : w.ownsRow B 3 1 va k1 xs) (ow2 : w.ownsRow B 3 1 vb k2 ys) (hd : va.ownBlock = none ∨ va.ownBlock ≠ vb.ownBlock)
    (hK : ∀ v w' va' vb', Fs s va vb w w' → w'.heap[s]? = some (.cells (two cs f1 f2 va' vb') T (0, 0)) →
      w'.ownsRow B 3 1 va' (k1 + 1) (xs ++ [X1 X]) → w'.ownsRow B 3 1 vb' (k2 + 1) (ys ++ [X1 Y]) → (va'.ownBlock = none ∨ va'.ownBlock ≠ vb'.ownBlock) → (∀ k, va'.ownBlock = some k → va.ownBlock = some k ∨ w.heap.size ≤ k) → (∀ k, vb'.ownBlock = some k → vb.ownBlock = some k ∨ w.heap.size ≤ k) → Q .normal (At a0 (pairs10 t0 t2 t3 t4 t6 t7 t10 t11 t12 t13) v) w') :
    wpAny Try.prog .any ops Q fuel L0 a0 w := by
  simp only [flagsB, Bool.and_eq_true, beq_iff_eq, List.all_eq_true, List.mem_range, Bool.or_eq_true, decide_eq_true_eq, Bool.not_eq_true', List.any_eq_true] at hB2
  obtain ⟨⟨⟨⟨⟨f1', f2'⟩, f3'⟩, f4'⟩, f5'⟩, f6'⟩ := hB2
  simp only [depsB, Bool.and_eq_true] at hB3
  obtain ⟨⟨⟨⟨⟨⟨⟨⟨⟨g1, g2⟩, g3⟩, g4⟩, g5⟩, g6⟩, g7⟩, g8⟩, g9⟩, g10⟩ := hB3
  simp only [slotsB, Bool.and_eq_true, decide_eq_true_eq, List.all_eq_true] at hS
  have S : Slots (pairs10 t0 t2 t3 t4 t6 t7 t10 t11 t12 t13) n := ⟨hS.1.1, hS.1.2, hS.2⟩
  simp only [farB, Bool.and_eq_true, decide_eq_true_eq, List.all_eq_true] at hF
  obtain ⟨⟨⟨⟨⟨F0, F2⟩, F4⟩, F6⟩, F10⟩, F12⟩ := hF
  have nr := fun v k j h => at_near (a0 := a0) hn S v k j h
  have pt := fun v u k j h => at_put (a0 := a0) hn S v u k j h
  obtain ⟨p0, a01, a02, a03, a04⟩ := o0
  obtain ⟨p2, a21, a22, a23, a24⟩ := o2
  obtain ⟨p3, a31, a32, a33, a34⟩ := o3
  obtain ⟨p4, a41, a42, a43, a44⟩ := o4
  obtain ⟨p6, a61, a62, a63, a64⟩ := o6
  obtain ⟨p7, a71, a72, a73, a74⟩ := o7
  obtain ⟨p8, a81, a82, a83, a84⟩ := o8
  obtain ⟨p9, a91, a92, a93, a94⟩ := o9
  obtain ⟨p10, b01, b02, b03, b04⟩ := o10
  obtain ⟨p11, b11, b12, b13, b14⟩ := o11
  obtain ⟨p12, b21, b22, b23, b24⟩ := o12
  obtain ⟨p13, b31, b32, b33, b34⟩ := o13
  have H : Sh ops (At a0 (pairs10 t0 t2 t3 t4 t6 t7 t10 t11 t12 t13)) s f1 f2 X Y (ixl l) :=
    ⟨ord_of hB1, fun c hc d hd e => f5' c hc d hd e, f4',
      ⟨p0, _, a01, a02, a04, fun v => (at_far v q0 F0).trans e0, fun v u => by rw [a03]; exact pt v u _ _ (by simp [pairs10])⟩,
      ⟨p2, _, a21, a22, a24, fun v => (at_far v q2 F2).trans e2, fun v u => by rw [a23]; exact pt v u _ _ (by simp [pairs10])⟩,
      ⟨p3, _, _, a31, a32, a34, fun v => ⟨nr v _ _ (by simp [pairs10]), nr v _ _ (by simp [pairs10])⟩, fun v u => by rw [a33]; exact pt v u _ _ (by simp [pairs10])⟩,
      ⟨p4, _, a41, a42, a44, fun v => (at_far v q4 F4).trans e4, fun v u => by rw [a43]; exact pt v u _ _ (by simp [pairs10])⟩,
      ⟨p6, _, a61, a62, a64, fun v => (at_far v q6 F6).trans e6, fun v u => by rw [a63]; exact pt v u _ _ (by simp [pairs10])⟩,
      ⟨p7, _, _, a71, a72, a74, fun v => ⟨nr v _ _ (by simp [pairs10]), nr v _ _ (by simp [pairs10])⟩, fun v u => by rw [a73]; exact pt v u _ _ (by simp [pairs10])⟩,
      ⟨p8, _, _, a81, a82, a84, fun v => ⟨nr v _ _ (by simp [pairs10]), nr v _ _ (by simp [pairs10])⟩, fun v u => by rw [a83]; rfl⟩,
      ⟨p9, _, _, a91, a92, a94, fun v => ⟨nr v _ _ (by simp [pairs10]), nr v _ _ (by simp [pairs10])⟩, fun v u => by rw [a93]; rfl⟩,
      ⟨p10, b01, b02, fun v w => (hfa _ p10 _ w).1 b04 ((at_far v q10 F10).trans e10), fun v u => by rw [b03]; exact pt v u _ _ (by simp [pairs10])⟩,
      ⟨p11, b11, b12, fun v w h => (hfa _ p11 _ w).2.1 b14 ((nr v _ 10 (by simp [pairs10])).trans h), fun v u => by rw [b13]; exact pt v u _ _ (by simp [pairs10])⟩,
      ⟨p12, b21, b22, fun v w => (hfa _ p12 _ w).1 b24 ((at_far v q12 F12).trans e12), fun v u => by rw [b23]; exact pt v u _ _ (by simp [pairs10])⟩,
      ⟨p13, b31, b32, fun v w h => (hfa _ p13 _ w).2.2 b34 ((nr v _ 12 (by simp [pairs10])).trans h), fun v u => by rw [b33]; exact pt v u _ _ (by simp [pairs10])⟩,
      fun L => ⟨fun h => ⟨dep_of g1 L h, dep_of g2 L h⟩, fun h => ⟨dep_of g3 L h, dep_of g4 L h⟩, fun h => ⟨dep_of g5 L h, dep_of g6 L h⟩, fun h => ⟨dep_of g7 L h, dep_of g8 L h⟩, fun h => dep_of g9 L h, fun h => dep_of g10 L h⟩⟩
  have self := at_self (a0 := a0) (ps := pairs10 t0 t2 t3 t4 t6 t7 t10 t11 t12 t13) (fun j => a0.tmps.getD ([t0, 0, t2, t3, t4, 0, t6, t7, 0, 0, t10, t11, t12, t13].getD j 0) undef) hn S (fun p hp => by
    have hlt : p.1 < a0.tmps.size := by rw [hn]; exact S.lt p hp
    have e : [t0, 0, t2, t3, t4, 0, t6, t7, 0, 0, t10, t11, t12, t13].getD p.2 0 = p.1 := by
      simp only [pairs10, List.mem_cons, List.not_mem_nil, or_false] at hp
      rcases hp with rfl | rfl | rfl | rfl | rfl | rfl | rfl | rfl | rfl | rfl <;> rfl
    rw [e]
    simp [hlt])
  rw [← self]
  exact wp_two H hf hc1 hc2 b1 b2 f1' (fun j hj hn' => by
    rcases f2' j hj with ⟨c, hc, e⟩ | h
    · exact absurd e (hn' c hc)
    · exact h) f3' (Nat.le_trans f6' hfu) _ w hsB hB hs ow1 ow2 hd hK
end at_slots
end Go.Proofs.Ytladhenjoipfpaa.Tf
