/- A space of groups: what it holds, in memory and plainly; New. No condition. -/
import Derived.Test.YtladhenjoipfpaaMt
import Derived.Test.YtladhenjoipfpaaRr
set_option linter.unusedVariables false
set_option linter.unusedSimpArgs false
namespace Go.Proofs.Ytladhenjoipfpaa.Sc
open Go.RowKit
open Pl Rn Ov Lf Wl Gp Ct Sn Gq Tf Mt Rr Kp
/-- A space, plainly. -/
structure Sq where
  groups : List Nat
  blocks : Nat
  lays : List (Nat × Nat)
  used : Nat
  next : Nat
  left : Nat
def Sq.new : Sq := ⟨[], 0, [], 0, 0, 0⟩
def gI (l : List Nat) : List Int := l.map fun (k : Nat) => (k : Int)
abbrev cells10 (g ga m : Nat) (vg va vm : Value) (σ : Sq) : Array Value := #[.pointer (some ⟨g, 0, none⟩), .pointer (some ⟨ga, 0, none⟩), vg, .int .i64 (σ.blocks : Int), va, vm, .map (some m), .int .i64 (σ.used : Int), .int .i64 (σ.next : Int), .int .i64 (σ.left : Int)]
/-- A space in memory: its struct at block s, its map at block m, its rows at or beyond B, all its blocks within K. -/
structure Sv (w : World) (s g ga m B : Nat) (K : Nat → Prop) (vg va vm : Value) (σ : Sq) : Prop where
  obj : w.heap[s]? = some (.cells (cells10 g ga m vg va vm σ) 70 (0, 0))
  og : w.ownsRow B 3 1 vg σ.groups.length (ints (gI σ.groups))
  oa : w.ownsRow B 3 1 va σ.lays.length (ints (fI σ.lays))
  om : w.ownsRow B 3 1 vm σ.lays.length (ints (sI σ.lays))
  kg : ∀ k, vg.ownBlock = some k → K k
  ka : ∀ k, va.ownBlock = some k → K k
  km : ∀ k, vm.ownBlock = some k → K k
  dam : va.ownBlock = none ∨ va.ownBlock ≠ vm.ownBlock
  dga : vg.ownBlock = none ∨ vg.ownBlock ≠ va.ownBlock
  dgm : vg.ownBlock = none ∨ vg.ownBlock ≠ vm.ownBlock
  marks : Marks w m σ.lays.length (fI σ.lays)
  ks : K s ∧ K m
  sB : s < B ∧ B ≤ w.heap.size
  low : ∀ k, K k → k < w.heap.size
section
variable {w w' : World} {s g ga m B : Nat} {K K' : Nat → Prop} {vg va vm : Value} {σ : Sq}
theorem own_kept {v : Value} {n : Nat} {xs : List Value} (h : w.ownsRow B 3 1 v n xs) (m : ∀ k, v.ownBlock = some k → w'.heap[k]? = w.heap[k]?) : w'.ownsRow B 3 1 v n xs := by
  refine ⟨h.1, ?_⟩
  rcases h.2 with h | ⟨g, cap, cur, rfl, hb, hg, rest⟩
  · exact .inl h
  · exact .inr ⟨g, cap, cur, rfl, hb, (m g rfl).trans hg, rest⟩
theorem Sv.same (h : Sv w s g ga m B K vg va vm σ) (e : ∀ k, K k → w'.heap[k]? = w.heap[k]?) (hs : w.heap.size ≤ w'.heap.size) : Sv w' s g ga m B K vg va vm σ :=
  ⟨(e s h.ks.1).trans h.obj, own_kept h.og (fun k hk => e k (h.kg k hk)), own_kept h.oa (fun k hk => e k (h.ka k hk)), own_kept h.om (fun k hk => e k (h.km k hk)), h.kg, h.ka, h.km, h.dam, h.dga, h.dgm, h.marks.move (e m h.ks.2), h.ks, ⟨h.sB.1, Nat.le_trans h.sB.2 hs⟩, fun k hk => Nat.lt_of_lt_of_le (h.low k hk) hs⟩
theorem Sv.keepP (h : Sv w s g ga m B K vg va vm σ) (p : ModP K' w w') (hd : ∀ k, K k → ¬ K' k) : Sv w' s g ga m B K vg va vm σ := h.same (fun k hk => p.block k (h.low k hk) (hd k hk)) p.size
theorem Sv.keepB (h : Sv w s g ga m B K vg va vm σ) (p : Below w.heap.size w w') : Sv w' s g ga m B K vg va vm σ := h.same (fun k hk => p.block k (h.low k hk)) p.size
theorem Sv.drew (h : Sv w s g ga m B K vg va vm σ) (q : Nat) : Sv (w.drewN q) s g ga m B K vg va vm σ := h.same (fun _ _ => rfl) (Nat.le_refl _)
theorem Sv.ms (h : Sv w s g ga m B K vg va vm σ) : m ≠ s := by
  rintro rfl
  obtain ⟨o, ho, hc⟩ := h.marks.obj
  rw [h.obj] at ho; cases ho; cases hc
theorem Sv.row_ne (h : Sv w s g ga m B K vg va vm σ) {v : Value} {n : Nat} {xs : List Value} (o : w.ownsRow B 3 1 v n xs) : ∀ k, v.ownBlock = some k → k ≠ s ∧ k ≠ m := fun k hk => by
  refine ⟨by have := (o.lt k hk).1; have := h.sB.1; omega, ?_⟩
  rintro rfl
  obtain ⟨o', ho, hc⟩ := h.marks.obj
  obtain ⟨cs, t, fz, hcs⟩ := Tw.own_cells o k hk
  rw [hcs] at ho; cases ho; cases hc
/-- A number of the struct is written. -/
theorem Sv.put (h : Sv w s g ga m B K vg va vm σ) (i : Nat) (u : Value) (σ' : Sq) (hc : (cells10 g ga m vg va vm σ).setIfInBounds i u = cells10 g ga m vg va vm σ') (hg : σ'.groups = σ.groups) (hl : σ'.lays = σ.lays) : Sv (w.setCell ⟨s, i, none⟩ u) s g ga m B K vg va vm σ' := by
  have e : ∀ k, k ≠ s → (w.setCell ⟨s, i, none⟩ u).heap[k]? = w.heap[k]? := fun k hk => Below.heap_setCell w ⟨s, i, none⟩ u k hk
  have hs : (w.setCell ⟨s, i, none⟩ u).heap.size = w.heap.size := by simp [World.setCell]
  refine ⟨?_, ?_, ?_, ?_, h.kg, h.ka, h.km, h.dam, h.dga, h.dgm, ?_, h.ks, by rw [hs]; exact h.sB, by rw [hs]; exact h.low⟩
  · have := Kit.set_blk h.obj i u
    rw [hc] at this
    exact this
  · rw [hg]; exact own_kept h.og (fun k hk => e k (h.row_ne h.og k hk).1)
  · rw [hl]; exact own_kept h.oa (fun k hk => e k (h.row_ne h.oa k hk).1)
  · rw [hl]; exact own_kept h.om (fun k hk => e k (h.row_ne h.om k hk).1)
  · rw [hl]; exact h.marks.move (e m h.ms)
theorem Sv.cells (h : Sv w s g ga m B K vg va vm σ) : (w.cell? ⟨s, 0, none⟩ = some (.pointer (some ⟨g, 0, none⟩)) ∧ w.cell? ⟨s, 1, none⟩ = some (.pointer (some ⟨ga, 0, none⟩)) ∧ w.cell? ⟨s, 2, none⟩ = some vg ∧ w.cell? ⟨s, 3, none⟩ = some (.int .i64 (σ.blocks : Int)) ∧ w.cell? ⟨s, 4, none⟩ = some va) ∧
    (w.cell? ⟨s, 5, none⟩ = some vm ∧ w.cell? ⟨s, 6, none⟩ = some (.map (some m)) ∧ w.cell? ⟨s, 7, none⟩ = some (.int .i64 (σ.used : Int)) ∧ w.cell? ⟨s, 8, none⟩ = some (.int .i64 (σ.next : Int)) ∧ w.cell? ⟨s, 9, none⟩ = some (.int .i64 (σ.left : Int))) :=
  ⟨⟨(Kit.cell_of h.obj 0).trans rfl, (Kit.cell_of h.obj 1).trans rfl, (Kit.cell_of h.obj 2).trans rfl, (Kit.cell_of h.obj 3).trans rfl, (Kit.cell_of h.obj 4).trans rfl⟩,
   ⟨(Kit.cell_of h.obj 5).trans rfl, (Kit.cell_of h.obj 6).trans rfl, (Kit.cell_of h.obj 7).trans rfl, (Kit.cell_of h.obj 8).trans rfl, (Kit.cell_of h.obj 9).trans rfl⟩⟩
theorem Sv.frozen (h : Sv w s g ga m B K vg va vm σ) (i : Nat) : w.frozen? ⟨s, i, none⟩ = false := Kit.frozen_of h.obj i
/-- A group more, as the append and the store leave it. -/
theorem Sv.push (h : Sv w s g ga m B K vg va vm σ) (p : Nat) (hl : σ.groups.length + 1 ≤ 1000000) : ∃ v' w1, (Builtin.append_ #[43, 43] 43 #[vg, .slice (some ⟨w.heap.size, 0, none⟩) 1 1]).run Try.prog (w.alloc (.cells #[.int .i64 (p : Int)] 3)) = .ok v' w1 ∧ (∃ a c, v' = .slice a (σ.groups.length + 1) c) ∧
    w1.cell? ⟨s, 2, none⟩ = some vg ∧ w1.frozen? ⟨s, 2, none⟩ = false ∧ ∃ K1, Sv (w1.setCell ⟨s, 2, none⟩ v') s g ga m B K1 v' va vm { σ with groups := σ.groups ++ [p] } ∧ (∀ k, K k → K1 k) ∧ (∀ k, K1 k → K k ∨ w.heap.size ≤ k) ∧ ModP K w (w1.setCell ⟨s, 2, none⟩ v') := by
  obtain ⟨v', w1, hr, o1, g1, k1⟩ := run_rows (w := w.alloc (.cells #[.int .i64 (p : Int)] 3)) B w.heap.size 43 vg _ σ.groups.length 1 (gI σ.groups) [(p : Int)] (h.og.alloc _) (one_own w p) hl (by have := h.sB.2; simp; omega)
  rw [show (w.alloc (.cells #[.int .i64 (p : Int)] 3)).heap.size = w.heap.size + 1 by simp] at k1
  have sz1 := g1.size
  rw [show (w.alloc (.cells #[.int .i64 (p : Int)] 3)).heap.size = w.heap.size + 1 by simp] at sz1
  have kp : ∀ k, k < w.heap.size → vg.ownBlock ≠ some k → w1.heap[k]? = w.heap[k]? := fun k hk hn => (g1.block k (by simp; omega) (fun e => hn e.symm)).trans (heap_alloc_old w _ hk)
  have hob : w1.heap[s]? = some (.cells (cells10 g ga m vg va vm σ) 70 (0, 0)) := (kp s (h.low s h.ks.1) (fun e => (h.row_ne h.og s e).1 rfl)).trans h.obj
  have shape : ∃ a c, v' = .slice a (σ.groups.length + 1) c := by
    rcases o1.2 with ⟨_, e⟩ | ⟨q, cap, cur, rfl, _⟩
    · omega
    · exact ⟨_, _, rfl⟩
  have es : ∀ k, k ≠ s → (w1.setCell ⟨s, 2, none⟩ v').heap[k]? = w1.heap[k]? := fun k hk => Below.heap_setCell w1 ⟨s, 2, none⟩ v' k hk
  have hs : (w1.setCell ⟨s, 2, none⟩ v').heap.size = w1.heap.size := by simp [World.setCell]
  have vlt : ∀ k, v'.ownBlock = some k → B ≤ k ∧ k < w1.heap.size := o1.lt
  have vne : ∀ k, v'.ownBlock = some k → k ≠ s := fun k hk => by have := (vlt k hk).1; have := h.sB.1; omega
  have st : ∀ {v : Value} {n : Nat} {xs : List Value}, w.ownsRow B 3 1 v n xs → (vg.ownBlock = none ∨ vg.ownBlock ≠ v.ownBlock) → (w1.setCell ⟨s, 2, none⟩ v').ownsRow B 3 1 v n xs := fun {v n xs} o d =>
    own_kept o (fun k hk => (es k (h.row_ne o k hk).1).trans (kp k (o.lt k hk).2 (fun e => by
      rcases d with d | d
      · rw [d] at e; cases e
      · exact d (e.trans hk.symm))))
  have dd : ∀ {v : Value} {n : Nat} {xs : List Value}, w.ownsRow B 3 1 v n xs → (vg.ownBlock = none ∨ vg.ownBlock ≠ v.ownBlock) → (v'.ownBlock = none ∨ v'.ownBlock ≠ v.ownBlock) := fun {v n xs} o d => by
    rcases k1 with k1 | k1
    · rw [k1]; exact d
    · right; rw [k1]; intro e; have := (o.lt _ e.symm).2; omega
  refine ⟨v', w1, hr, shape, (Kit.cell_of hob 2).trans rfl, Kit.frozen_of hob 2, (fun k => K k ∨ v'.ownBlock = some k), ⟨?_, ?_, st h.oa h.dga, st h.om h.dgm, fun k hk => .inr hk, fun k hk => .inl (h.ka k hk), fun k hk => .inl (h.km k hk), h.dam, dd h.oa h.dga, dd h.om h.dgm, ?_, ⟨.inl h.ks.1, .inl h.ks.2⟩, ⟨h.sB.1, by rw [hs]; have := h.sB.2; omega⟩, fun k hk => ?_⟩, fun k hk => .inl hk, fun k hk => ?_, ?_⟩
  · have := Kit.set_blk hob 2 v'
    simpa [cells10] using this
  · refine own_kept (w := w1) ?_ (fun k hk => es k (vne k hk))
    have e : gI σ.groups ++ [(p : Int)] = gI (σ.groups ++ [p]) := by simp [gI]
    rw [e] at o1
    simpa using o1
  · exact h.marks.move ((es m h.ms).trans (kp m h.marks.lt (fun e => (h.row_ne h.og m e).2 rfl)))
  · rw [hs]
    rcases hk with hk | hk
    · have := h.low k hk; omega
    · exact (vlt k hk).2
  · rcases hk with hk | hk
    · exact .inl hk
    · rcases k1 with k1 | k1
      · exact .inl (h.kg k (k1 ▸ hk))
      · rw [k1] at hk; cases hk; exact .inr (by omega)
  · refine ⟨g1.os, g1.tape, g1.output, by rw [hs]; omega, fun k hk hn => ?_⟩
    exact (es k (fun e => hn (e ▸ h.ks.1))).trans (kp k hk (fun e => hn (h.kg k e)))
end
theorem new_space (w : World) (g ga : Nat) : Calls Try.prog 17 #[.pointer (some ⟨g, 0, none⟩), .pointer (some ⟨ga, 0, none⟩)] w fun e w' =>
    e = .returned (.tuple #[.pointer (some ⟨w.heap.size + 1, 0, none⟩), .int .i64 0]) ∧ Below w.heap.size w w' ∧ w'.heap.size = w.heap.size + 2 ∧ Sv w' (w.heap.size + 1) g ga w.heap.size (w.heap.size + 2) (fun k => k = w.heap.size ∨ k = w.heap.size + 1) (.slice none 0 0) (.slice none 0 0) (.slice none 0 0) Sq.new := by
  have hmm := @run_makeMap Try.prog
  go_enter Try.func17, Try.ntmps17
  go_wp2_with fail
  go_ret2
  refine ⟨rfl, Kit.allocB (Kit.allocB (Below.refl _ _) _) _, by simp, ?_⟩
  have k2 := Kit.new_blk2 w (.map #[] 0) (.cells (cells10 g ga w.heap.size (.slice none 0 0) (.slice none 0 0) (.slice none 0 0) Sq.new) 70)
  refine ⟨k2, World.ownsRow_nil _ _ _ _, World.ownsRow_nil _ _ _ _, World.ownsRow_nil _ _ _ _, fun k e => (by cases e), fun k e => (by cases e), fun k e => (by cases e), .inl rfl, .inl rfl, .inl rfl, ?_, ⟨.inr rfl, .inl rfl⟩, ⟨by omega, by simp⟩, fun k hk => by simp; omega⟩
  exact (Marks.made w).move (heap_alloc_old _ _ (by simp))
theorem new_no (w : World) (p q : Value) (h : p = .pointer none ∨ ((∃ g, p = .pointer (some ⟨g, 0, none⟩)) ∧ q = .pointer none)) : Calls Try.prog 17 #[p, q] w fun e w' => e = .returned (.tuple #[.pointer none, .int .i64 1]) ∧ w' = w := by
  rcases h with rfl | ⟨⟨g, rfl⟩, rfl⟩
  · go_enter Try.func17, Try.ntmps17
    go_wp2_with fail
    go_ret2
    exact ⟨rfl, rfl⟩
  · go_enter Try.func17, Try.ntmps17
    go_wp2_with fail
    go_ret2
    exact ⟨rfl, rfl⟩
end Go.Proofs.Ytladhenjoipfpaa.Sc
