/- The document's space in memory: three rows and three numbers. No condition. -/
import Derived.Test.YtladhenjoipfpaaOn
set_option linter.unusedVariables false
set_option linter.unusedSimpArgs false
namespace Go.Proofs.Ytladhenjoipfpaa.Xr
open Go.RowKit
open Pl Rn Ov Lf Wl Gp Ct Sn Gq Tf Mt Rr Kp Sc Nn Tk La Rp Rq Mb S2 Fr
def upd {α : Type} (f : Nat → α) (i : Nat) (x : α) : Nat → α := fun j => if j = i then x else f j
theorem upd_same {α : Type} (f : Nat → α) (i : Nat) (x : α) : upd f i x i = x := by simp [upd]
theorem upd_other {α : Type} (f : Nat → α) {i j : Nat} (x : α) (h : j ≠ i) : upd f i x j = f j := by simp [upd, h]
def fld (i : Nat) : Nat := if i = 0 then 2 else if i = 1 then 4 else 5
/-- The struct at block x of words `words`, its pool's block y; its rows v (of numbers l) within K, at or beyond B. -/
structure R3 (w : World) (x y words B : Nat) (K : Nat → Prop) (v : Nat → Value) (l : Nat → List Int) (bl nx en : Nat) : Prop where
  obj : w.heap[x]? = some (.cells (refCells y words (v 0) (v 1) (v 2) bl nx en) 67 (0, 0))
  own : ∀ i, i < 3 → w.ownsRow B 3 1 (v i) (l i).length (ints (l i))
  kv : ∀ i, i < 3 → ∀ k, (v i).ownBlock = some k → K k
  dv : ∀ i j, i < 3 → j < 3 → i ≠ j → (v i).ownBlock = none ∨ (v i).ownBlock ≠ (v j).ownBlock
  kx : K x
  xB : x < B ∧ B ≤ w.heap.size
  low : ∀ k, K k → k < w.heap.size
section
variable {w w' : World} {x y words B : Nat} {K K' : Nat → Prop} {v : Nat → Value} {l : Nat → List Int} {bl nx en : Nat}
theorem R3.same (h : R3 w x y words B K v l bl nx en) (e : ∀ k, K k → w'.heap[k]? = w.heap[k]?) (hs : w.heap.size ≤ w'.heap.size) : R3 w' x y words B K v l bl nx en :=
  ⟨(e x h.kx).trans h.obj, fun i hi => own_kept (h.own i hi) (fun k hk => e k (h.kv i hi k hk)), h.kv, h.dv, h.kx, ⟨h.xB.1, Nat.le_trans h.xB.2 hs⟩, fun k hk => Nat.lt_of_lt_of_le (h.low k hk) hs⟩
theorem R3.keepP (h : R3 w x y words B K v l bl nx en) (p : ModP K' w w') (hd : ∀ k, K k → ¬ K' k) : R3 w' x y words B K v l bl nx en := h.same (fun k hk => p.block k (h.low k hk) (hd k hk)) p.size
theorem R3.keepB (h : R3 w x y words B K v l bl nx en) (p : Below w.heap.size w w') : R3 w' x y words B K v l bl nx en := h.same (fun k hk => p.block k (h.low k hk)) p.size
theorem R3.row_ne (h : R3 w x y words B K v l bl nx en) {u : Value} {n : Nat} {xs : List Value} (o : w.ownsRow B 3 1 u n xs) : ∀ k, u.ownBlock = some k → k ≠ x := fun k hk => by
  have := (o.lt k hk).1
  have := h.xB.1
  omega
theorem R3.cells (h : R3 w x y words B K v l bl nx en) : (w.cell? ⟨x, 0, none⟩ = some (.pointer (some ⟨y, 0, none⟩)) ∧ w.cell? ⟨x, 1, none⟩ = some (.int .i64 (words : Int)) ∧ w.cell? ⟨x, 2, none⟩ = some (v 0) ∧ w.cell? ⟨x, 3, none⟩ = some (.int .i64 (bl : Int))) ∧
    (w.cell? ⟨x, 4, none⟩ = some (v 1) ∧ w.cell? ⟨x, 5, none⟩ = some (v 2) ∧ w.cell? ⟨x, 6, none⟩ = some (.int .i64 (nx : Int)) ∧ w.cell? ⟨x, 7, none⟩ = some (.int .i64 (en : Int))) :=
  ⟨⟨(Kit.cell_of h.obj 0).trans rfl, (Kit.cell_of h.obj 1).trans rfl, (Kit.cell_of h.obj 2).trans rfl, (Kit.cell_of h.obj 3).trans rfl⟩,
   ⟨(Kit.cell_of h.obj 4).trans rfl, (Kit.cell_of h.obj 5).trans rfl, (Kit.cell_of h.obj 6).trans rfl, (Kit.cell_of h.obj 7).trans rfl⟩⟩
theorem R3.frozen (h : R3 w x y words B K v l bl nx en) (i : Nat) : w.frozen? ⟨x, i, none⟩ = false := Kit.frozen_of h.obj i
/-- One cell of the struct is written. -/
theorem R3.put (h : R3 w x y words B K v l bl nx en) (i : Nat) (u : Value) (bl' nx' en' : Nat) (hc : (refCells y words (v 0) (v 1) (v 2) bl nx en).setIfInBounds i u = refCells y words (v 0) (v 1) (v 2) bl' nx' en') :
    R3 (w.setCell ⟨x, i, none⟩ u) x y words B K v l bl' nx' en' ∧ ModP K w (w.setCell ⟨x, i, none⟩ u) := by
  have e : ∀ k, k ≠ x → (w.setCell ⟨x, i, none⟩ u).heap[k]? = w.heap[k]? := fun k hk => Below.heap_setCell w ⟨x, i, none⟩ u k hk
  have hs : (w.setCell ⟨x, i, none⟩ u).heap.size = w.heap.size := by simp [World.setCell]
  refine ⟨⟨?_, fun j hj => own_kept (h.own j hj) (fun k hk => e k (h.row_ne (h.own j hj) k hk)), h.kv, h.dv, h.kx, by rw [hs]; exact h.xB, by rw [hs]; exact h.low⟩, (ModP.refl K w).setCell (p := ⟨x, i, none⟩) (.inl h.kx) u⟩
  have := Kit.set_blk h.obj i u
  rw [hc] at this
  exact this
theorem R3.putB (h : R3 w x y words B K v l bl nx en) (n : Nat) : R3 (w.setCell ⟨x, 3, none⟩ (.int .i64 (n : Int))) x y words B K v l n nx en ∧ ModP K w (w.setCell ⟨x, 3, none⟩ (.int .i64 (n : Int))) := h.put 3 _ n nx en (by simp [refCells])
theorem R3.putN (h : R3 w x y words B K v l bl nx en) (n : Nat) : R3 (w.setCell ⟨x, 6, none⟩ (.int .i64 (n : Int))) x y words B K v l bl n en ∧ ModP K w (w.setCell ⟨x, 6, none⟩ (.int .i64 (n : Int))) := h.put 6 _ bl n en (by simp [refCells])
theorem R3.putE (h : R3 w x y words B K v l bl nx en) (n : Nat) : R3 (w.setCell ⟨x, 7, none⟩ (.int .i64 (n : Int))) x y words B K v l bl nx n ∧ ModP K w (w.setCell ⟨x, 7, none⟩ (.int .i64 (n : Int))) := h.put 7 _ bl nx n (by simp [refCells])
/-- A row is struck. -/
theorem R3.nil (h : R3 w x y words B K v l bl nx en) (i : Nat) (hi : i < 3) : R3 (w.setCell ⟨x, fld i, none⟩ (.slice none 0 0)) x y words B K (upd v i (.slice none 0 0)) (upd l i []) bl nx en ∧ ModP K w (w.setCell ⟨x, fld i, none⟩ (.slice none 0 0)) := by
  have e : ∀ k, k ≠ x → (w.setCell ⟨x, fld i, none⟩ (.slice none 0 0)).heap[k]? = w.heap[k]? := fun k hk => Below.heap_setCell w ⟨x, fld i, none⟩ _ k hk
  have hs : (w.setCell ⟨x, fld i, none⟩ (.slice none 0 0)).heap.size = w.heap.size := by simp [World.setCell]
  refine ⟨⟨?_, fun j hj => ?_, fun j hj k hk => ?_, fun j k hj hk hne => ?_, h.kx, by rw [hs]; exact h.xB, by rw [hs]; exact h.low⟩, (ModP.refl K w).setCell (p := ⟨x, fld i, none⟩) (.inl h.kx) _⟩
  · refine (Kit.set_blk h.obj (fld i) _).trans ?_
    rcases (show i = 0 ∨ i = 1 ∨ i = 2 by omega) with rfl | rfl | rfl <;> simp [fld, upd, refCells]
  · by_cases c : j = i
    · subst c
      rw [upd_same, upd_same]
      exact World.ownsRow_nil _ _ _ _
    · rw [upd_other _ _ c, upd_other _ _ c]
      exact own_kept (h.own j hj) (fun k hk => e k (h.row_ne (h.own j hj) k hk))
  · by_cases c : j = i
    · subst c; rw [upd_same] at hk; cases hk
    · rw [upd_other _ _ c] at hk; exact h.kv j hj k hk
  · by_cases c : j = i
    · subst c; rw [upd_same]; exact .inl rfl
    · rw [upd_other _ _ c]
      by_cases c2 : k = i
      · subst c2; rw [upd_same]
        rcases hv : (v j).ownBlock with _ | q
        · exact .inl rfl
        · exact .inr (fun e => by cases e)
      · rw [upd_other _ _ c2]; exact h.dv j k hj hk hne
/-- A number more in a row, as the append and the store leave it. -/
theorem R3.push (h : R3 w x y words B K v l bl nx en) (i : Nat) (hi : i < 3) (p : Int) (hl : (l i).length + 1 ≤ 1000000) : ∃ v' w1, (Builtin.append_ #[43, 43] 43 #[v i, .slice (some ⟨w.heap.size, 0, none⟩) 1 1]).run Try.prog (w.alloc (.cells #[.int .i64 p] 3)) = .ok v' w1 ∧ (∃ a c, v' = .slice a ((l i).length + 1) c) ∧
    w1.cell? ⟨x, fld i, none⟩ = some (v i) ∧ w1.frozen? ⟨x, fld i, none⟩ = false ∧ ∃ K1, R3 (w1.setCell ⟨x, fld i, none⟩ v') x y words B K1 (upd v i v') (upd l i (l i ++ [p])) bl nx en ∧ (∀ k, K k → K1 k) ∧ (∀ k, K1 k → K k ∨ w.heap.size ≤ k) ∧ ModP K w (w1.setCell ⟨x, fld i, none⟩ v') := by
  obtain ⟨v', w1, hr, o1, g1, k1⟩ := run_rows (w := w.alloc (.cells #[.int .i64 p] 3)) B w.heap.size 43 (v i) _ (l i).length 1 (l i) [p] ((h.own i hi).alloc _) (one_own w p) hl (by have := h.xB.2; simp; omega)
  rw [show (w.alloc (.cells #[.int .i64 p] 3)).heap.size = w.heap.size + 1 by simp] at k1
  have sz1 := g1.size
  rw [show (w.alloc (.cells #[.int .i64 p] 3)).heap.size = w.heap.size + 1 by simp] at sz1
  have kp : ∀ k, k < w.heap.size → (v i).ownBlock ≠ some k → w1.heap[k]? = w.heap[k]? := fun k hk hn => (g1.block k (by simp; omega) (fun e => hn e.symm)).trans (heap_alloc_old w _ hk)
  have hob : w1.heap[x]? = some (.cells (refCells y words (v 0) (v 1) (v 2) bl nx en) 67 (0, 0)) := (kp x (h.low x h.kx) (fun e => h.row_ne (h.own i hi) x e rfl)).trans h.obj
  have shape : ∃ a c, v' = .slice a ((l i).length + 1) c := by
    rcases o1.2 with ⟨_, e⟩ | ⟨q, cap, cur, rfl, _⟩
    · omega
    · exact ⟨_, _, rfl⟩
  have es : ∀ k, k ≠ x → (w1.setCell ⟨x, fld i, none⟩ v').heap[k]? = w1.heap[k]? := fun k hk => Below.heap_setCell w1 ⟨x, fld i, none⟩ v' k hk
  have hs : (w1.setCell ⟨x, fld i, none⟩ v').heap.size = w1.heap.size := by simp [World.setCell]
  have vlt : ∀ k, v'.ownBlock = some k → B ≤ k ∧ k < w1.heap.size := o1.lt
  have vne : ∀ k, v'.ownBlock = some k → k ≠ x := fun k hk => by have := (vlt k hk).1; have := h.xB.1; omega
  have dd : ∀ j, j < 3 → j ≠ i → (v'.ownBlock = none ∨ v'.ownBlock ≠ (v j).ownBlock) := fun j hj hne => by
    rcases k1 with k1 | k1
    · rw [k1]; exact h.dv i j hi hj (fun e => hne e.symm)
    · right; rw [k1]; intro e; have := ((h.own j hj).lt _ e.symm).2; omega
  refine ⟨v', w1, hr, shape, ?_, Kit.frozen_of hob _, (fun k => K k ∨ v'.ownBlock = some k), ⟨?_, fun j hj => ?_, fun j hj k hk => ?_, fun j k hj hk hne => ?_, .inl h.kx, ⟨h.xB.1, by rw [hs]; have := h.xB.2; omega⟩, fun k hk => ?_⟩, fun k hk => .inl hk, fun k hk => ?_, ?_⟩
  · refine (Kit.cell_of hob (fld i)).trans ?_
    rcases (show i = 0 ∨ i = 1 ∨ i = 2 by omega) with rfl | rfl | rfl <;> rfl
  · refine (Kit.set_blk hob (fld i) v').trans ?_
    rcases (show i = 0 ∨ i = 1 ∨ i = 2 by omega) with rfl | rfl | rfl <;> simp [fld, upd, refCells]
  · by_cases c : j = i
    · subst c
      rw [upd_same, upd_same]
      refine own_kept (w := w1) ?_ (fun k hk => es k (vne k hk))
      simpa using o1
    · rw [upd_other _ _ c, upd_other _ _ c]
      refine own_kept (h.own j hj) (fun k hk => (es k (h.row_ne (h.own j hj) k hk)).trans (kp k ((h.own j hj).lt k hk).2 (fun e => ?_)))
      rcases h.dv i j hi hj (fun e => c e.symm) with d | d
      · rw [d] at e; cases e
      · exact d (e.trans hk.symm)
  · by_cases c : j = i
    · subst c; rw [upd_same] at hk; exact .inr hk
    · rw [upd_other _ _ c] at hk; exact .inl (h.kv j hj k hk)
  · by_cases c : j = i
    · subst c; rw [upd_same, upd_other _ _ (fun e => hne e.symm)]; exact dd k hk (fun e => hne e.symm)
    · rw [upd_other _ _ c]
      by_cases c2 : k = i
      · subst c2; rw [upd_same]
        rcases hv : (v j).ownBlock with _ | q
        · exact .inl rfl
        · rcases dd j hj c with e | e
          · right; rw [e]; intro e'; cases e'
          · right; rw [← hv]; exact fun e' => e e'.symm
      · rw [upd_other _ _ c2]; exact h.dv j k hj hk hne
  · rw [hs]
    rcases hk with hk | hk
    · have := h.low k hk; omega
    · exact (vlt k hk).2
  · rcases hk with hk | hk
    · exact .inl hk
    · rcases k1 with k1 | k1
      · exact .inl (h.kv i hi k (k1 ▸ hk))
      · rw [k1] at hk; cases hk; exact .inr (by omega)
  · refine ⟨g1.os, g1.tape, g1.output, by rw [hs]; omega, fun k hk hn => ?_⟩
    exact (es k (fun e => hn (e ▸ h.kx))).trans (kp k hk (fun e => hn (h.kv i hi k e)))
theorem R3.push' (h : R3 w x y words B K v l bl nx en) (i : Nat) (hi : i < 3) (p : Int) (hl : (l i).length + 1 ≤ 1000000) : ∃ v' w1, (Builtin.append_ #[43, 43] 43 #[v i, .slice (some ⟨w.heap.size, 0, none⟩) 1 1]).run Try.prog (w.alloc (.cells #[.int .i64 p] 3)) = .ok v' w1 ∧ (∃ a c n, v' = .slice a n c) ∧
    w1.cell? ⟨x, fld i, none⟩ = some (v i) ∧ w1.frozen? ⟨x, fld i, none⟩ = false ∧ ∃ K1 v2 l2, R3 (w1.setCell ⟨x, fld i, none⟩ v') x y words B K1 v2 l2 bl nx en ∧ (l2 i = l i ++ [p] ∧ ∀ j, j ≠ i → l2 j = l j ∧ v2 j = v j) ∧ (∀ k, K k → K1 k) ∧ (∀ k, K1 k → K k ∨ w.heap.size ≤ k) ∧ ModP K w (w1.setCell ⟨x, fld i, none⟩ v') := by
  obtain ⟨v', w1, hr, ⟨a, c, e⟩, c1, f1, K1, R, h1, h2, M⟩ := h.push i hi p hl
  exact ⟨v', w1, hr, ⟨a, c, _, e⟩, c1, f1, K1, _, _, R, ⟨upd_same _ _ _, fun j hj => ⟨upd_other _ _ hj, upd_other _ _ hj⟩⟩, h1, h2, M⟩
end
/-- The document's space in memory, of a plain one. -/
structure Xs (w : World) (x y words : Nat) (K : Nat → Prop) (σ : Sq) : Prop where
  ex : ∃ B v l, R3 w x y words B K v l σ.blocks σ.next (σ.next + σ.left) ∧ l 0 = gI σ.groups ∧ l 1 = fI σ.lays ∧ l 2 = sI σ.lays
theorem Xs.keepP {w w' : World} {x y words : Nat} {K K' : Nat → Prop} {σ : Sq} (h : Xs w x y words K σ) (p : ModP K' w w') (hd : ∀ k, K k → ¬ K' k) : Xs w' x y words K σ := by
  obtain ⟨B, v, l, R, r⟩ := h.ex
  exact ⟨B, v, l, R.keepP p hd, r⟩
theorem Xs.low {w : World} {x y words : Nat} {K : Nat → Prop} {σ : Sq} (h : Xs w x y words K σ) : ∀ k, K k → k < w.heap.size := by
  obtain ⟨B, v, l, R, r⟩ := h.ex
  exact R.low
theorem Xs.new {w : World} {x y words : Nat} (h : w.heap[x]? = some (.cells (refCells y words (.slice none 0 0) (.slice none 0 0) (.slice none 0 0) 0 0 0) 67 (0, 0))) : Xs w x y words (fun k => k = x) Sq.new := by
  have := Kit.lt_of h
  exact ⟨x + 1, fun _ => .slice none 0 0, fun _ => [], ⟨h, fun i hi => World.ownsRow_nil _ _ _ _, fun i hi k e => (by cases e), fun i j _ _ _ => .inl rfl, rfl, ⟨by omega, by omega⟩, fun k hk => by subst hk; exact this⟩, rfl, rfl, rfl⟩
end Go.Proofs.Ytladhenjoipfpaa.Xr
