/- The reference's Rows, as a list gathered block by block. No condition. -/
import Derived.Test.YtladhenjoipfpaaRq
import Derived.Maps.AppendAt
set_option linter.unusedVariables false
set_option linter.unusedSimpArgs false
namespace Go.Proofs.Ytladhenjoipfpaa.Rr
open Go.RowKit
open Pl Rn Ov Lf Wl Gp Ct Sn Gq Rp Rq
def rstep (fs : List Int) (free : Bool) (L : List (Nat × Nat)) (i : Nat) : List (Nat × Nat) :=
  if decide (fs.getD i 0 < 0) ≠ free then L
  else match L.getLast? with
    | none => [(i, 1)]
    | some r => if r.1 + r.2 ≠ i ∨ (free = false ∧ fs.getD i 0 = i) then L ++ [(i, 1)] else L.dropLast ++ [(r.1, r.2 + 1)]
def rows (fs : List Int) (free : Bool) : Nat → List (Nat × Nat)
  | 0 => []
  | i + 1 => rstep fs free (rows fs free i) i
section
variable {fs : List Int} {free : Bool}
theorem rows_skip (i : Nat) (h : decide (fs.getD i 0 < 0) ≠ free) : rows fs free (i + 1) = rows fs free i := by simp only [rows, rstep]; rw [if_pos h]
theorem rows_first (i : Nat) (h : decide (fs.getD i 0 < 0) = free) (e : rows fs free i = []) : rows fs free (i + 1) = [(i, 1)] := by
  simp only [rows, rstep]; rw [if_neg (by simpa using h), e]; rfl
theorem rows_more (i : Nat) (h : decide (fs.getD i 0 < 0) = free) (L : List (Nat × Nat)) (r : Nat × Nat) (e : rows fs free i = L ++ [r]) (c : r.1 + r.2 ≠ i ∨ (free = false ∧ fs.getD i 0 = i)) : rows fs free (i + 1) = L ++ [r] ++ [(i, 1)] := by
  simp only [rows, rstep]; rw [if_neg (by simpa using h), e, List.getLast?_concat]; simp only; rw [if_pos c]
theorem rows_grow (i : Nat) (h : decide (fs.getD i 0 < 0) = free) (L : List (Nat × Nat)) (r : Nat × Nat) (e : rows fs free i = L ++ [r]) (c : ¬ (r.1 + r.2 ≠ i ∨ (free = false ∧ fs.getD i 0 = i))) : rows fs free (i + 1) = L ++ [(r.1, r.2 + 1)] := by
  simp only [rows, rstep]; rw [if_neg (by simpa using h), e, List.getLast?_concat]; simp only; rw [if_neg c, List.dropLast_concat]
theorem snoc_of {α : Type} (l : List α) : l = [] ∨ ∃ m x, l = m ++ [x] := by
  rcases List.eq_nil_or_concat l with h | ⟨m, x, h⟩
  · exact .inl h
  · exact .inr ⟨m, x, by simpa using h⟩
theorem rows_ok (i : Nat) : (rows fs free i).length ≤ i ∧ ∀ r ∈ rows fs free i, r.1 + r.2 ≤ i := by
  induction i with
  | zero => simp [rows]
  | succ i ih =>
    by_cases h : decide (fs.getD i 0 < 0) = free
    · rcases snoc_of (rows fs free i) with e | ⟨L, r, e⟩
      · rw [rows_first i h e]; simp
      · have i2 := ih.2
        have i1 := ih.1
        rw [e] at i1 i2
        by_cases c : r.1 + r.2 ≠ i ∨ (free = false ∧ fs.getD i 0 = i)
        · rw [rows_more i h L r e c]
          refine ⟨by simp at i1 ⊢; omega, fun s hs => ?_⟩
          rcases List.mem_append.1 hs with hs | hs
          · have := i2 s hs; omega
          · have := List.mem_singleton.1 hs; subst this; simp
        · rw [rows_grow i h L r e c]
          refine ⟨by simp at i1 ⊢; omega, fun s hs => ?_⟩
          rcases List.mem_append.1 hs with hs | hs
          · have := i2 s (List.mem_append_left _ hs); omega
          · have := List.mem_singleton.1 hs; subst this
            have := i2 r (by simp); simp; omega
    · rw [rows_skip i h]
      exact ⟨by omega, fun s hs => by have := ih.2 s hs; omega⟩
end
/-- Two rows that grow: of starts, and of lengths. -/
structure Gw (w wr : World) (L : List (Nat × Nat)) (va vb : Value) : Prop where
  fst : wr.ownsRow w.heap.size 3 1 va L.length (ints (fI L))
  snd : wr.ownsRow w.heap.size 3 1 vb L.length (ints (sI L))
  far : va.ownBlock = none ∨ va.ownBlock ≠ vb.ownBlock
  bel : Below w.heap.size w wr
theorem one_own (w : World) (x : Int) : (w.alloc (.cells #[.int .i64 x] 3)).ownsRow w.heap.size 3 1 (.slice (some ⟨w.heap.size, 0, none⟩) 1 1) 1 (ints [x]) :=
  ⟨by simp [ints], .inr ⟨w.heap.size, 1, _, rfl, Nat.le_refl _, Kit.new_blk w _, Nat.le_refl _, by unfold maxLen; omega, rfl, rfl⟩⟩
theorem fI_snoc (L : List (Nat × Nat)) (x y : Nat) : fI L ++ [(x : Int)] = fI (L ++ [(x, y)]) := by simp [fI]
theorem sI_snoc (L : List (Nat × Nat)) (x y : Nat) : sI L ++ [(y : Int)] = sI (L ++ [(x, y)]) := by simp [sI]
theorem Gw.push {w wr : World} {L : List (Nat × Nat)} {va vb : Value} (G : Gw w wr L va vb) (x y : Nat) (hl : L.length + 1 ≤ 1000000) :
    ∃ va' w1 vb' w2, (Builtin.append_ #[43, 43] 43 #[va, .slice (some ⟨wr.heap.size, 0, none⟩) 1 1]).run Try.prog (wr.alloc (.cells #[.int .i64 x] 3)) = .ok va' w1 ∧
      (Builtin.append_ #[43, 43] 43 #[vb, .slice (some ⟨w1.heap.size, 0, none⟩) 1 1]).run Try.prog (w1.alloc (.cells #[.int .i64 y] 3)) = .ok vb' w2 ∧ Gw w w2 (L ++ [(x, y)]) va' vb' := by
  have bs := G.bel.size
  obtain ⟨va', w1, r1, o1, g1, k1⟩ := run_rows (w := wr.alloc (.cells #[.int .i64 x] 3)) w.heap.size wr.heap.size 43 va _ L.length 1 (fI L) [(x : Int)] (G.fst.alloc _) (one_own wr x) hl (by simp; omega)
  have s1 := g1.size
  rw [show (wr.alloc (.cells #[.int .i64 x] 3)).heap.size = wr.heap.size + 1 by simp] at s1 k1
  have lb : ∀ k, vb.ownBlock = some k → k < wr.heap.size := fun k hk => (G.snd.lt k hk).2
  have u1 := (G.snd.alloc (.cells #[.int .i64 x] 3)).kept g1 (by
    rcases hb : vb.ownBlock with _ | k
    · exact .inl rfl
    · right
      intro e
      rcases G.far with f | f
      · rw [f] at e; cases e
      · exact f (by rw [hb]; exact e.symm))
  obtain ⟨vb', w2, r2, o2, g2, k2⟩ := run_rows (w := w1.alloc (.cells #[.int .i64 y] 3)) w.heap.size w1.heap.size 43 vb _ L.length 1 (sI L) [(y : Int)] (u1.alloc _) (one_own w1 y) hl (by simp; omega)
  have s2 := g2.size
  rw [show (w1.alloc (.cells #[.int .i64 y] 3)).heap.size = w1.heap.size + 1 by simp] at s2 k2
  have la1 : ∀ k, va'.ownBlock = some k → k < w1.heap.size := fun k hk => (o1.lt k hk).2
  have far1 : va'.ownBlock = none ∨ va'.ownBlock ≠ vb.ownBlock := by
    rcases k1 with k1 | k1
    · rw [k1]; exact G.far
    · rw [k1]; exact .inr (fun e => by have := lb _ e.symm; omega)
  have o1' := (o1.alloc (.cells #[.int .i64 y] 3)).kept g2 far1
  refine ⟨va', w1, vb', w2, r1, r2, ⟨?_, ?_, ?_, ?_⟩⟩
  · rw [fI_snoc L x y] at o1'; simpa using o1'
  · rw [sI_snoc L x y] at o2; simpa using o2
  · rcases k2 with k2 | k2
    · rw [k2]; exact far1
    · rcases hb : va'.ownBlock with _ | k
      · exact .inl rfl
      · right; rw [k2]; intro e; have := la1 k hb; cases e; omega
  · have B1 := ((Kit.Mod.of_below (S := []) (Kit.allocB G.bel (.cells #[.int .i64 x] 3))).grown g1 (fun k hk => .inr (by have := (G.fst.lt k hk).1; omega))).below
    exact ((Kit.Mod.of_below (S := []) (Kit.allocB B1 (.cells #[.int .i64 y] 3))).grown g2 (fun k hk => .inr (by have := (G.snd.lt k hk).1; omega))).below
theorem Gw.shape {w wr : World} {L : List (Nat × Nat)} {va vb : Value} (G : Gw w wr L va vb) : (∃ p c, va = .slice p L.length c) ∧ ∃ p c, vb = .slice p L.length c := by
  refine ⟨?_, ?_⟩
  · rcases G.fst.2 with ⟨rfl, e⟩ | ⟨g, cap, cur, rfl, _⟩
    · exact ⟨none, 0, by rw [e]⟩
    · exact ⟨_, _, rfl⟩
  · rcases G.snd.2 with ⟨rfl, e⟩ | ⟨g, cap, cur, rfl, _⟩
    · exact ⟨none, 0, by rw [e]⟩
    · exact ⟨_, _, rfl⟩
/-- The last stretch, read and lengthened. -/
theorem Gw.last {w wr : World} {L : List (Nat × Nat)} {r : Nat × Nat} {va vb : Value} (G : Gw w wr (L ++ [r]) va vb) : ∃ g ca h cb, va = .slice (some ⟨g, 0, none⟩) (L.length + 1) ca ∧ vb = .slice (some ⟨h, 0, none⟩) (L.length + 1) cb ∧
    wr.cell? ⟨g, L.length, none⟩ = some (.int .i64 (r.1 : Int)) ∧ wr.cell? ⟨h, L.length, none⟩ = some (.int .i64 (r.2 : Int)) ∧ wr.frozen? ⟨h, L.length, none⟩ = false ∧ h < wr.heap.size ∧ w.heap.size ≤ h ∧
    ∀ q, Gw w ((wr.drewN q).setCell ⟨h, L.length, none⟩ (.int .i64 ((r.2 : Int) + 1))) (L ++ [(r.1, r.2 + 1)]) va vb := by
  have hl : (L ++ [r]).length = L.length + 1 := by simp
  rcases G.fst.2 with ⟨_, h0⟩ | ⟨g, ca, cur, rfl, hb, hg, hc, hm, hs, ht⟩
  · simp at h0
  rcases G.snd.2 with ⟨_, h0⟩ | ⟨h, cb, cur', rfl, hb', hg', hc', hm', hs', ht'⟩
  · simp at h0
  have gh : g ≠ h := by
    rcases G.far with f | f
    · cases f
    · intro e; subst e; exact f rfl
  have e1 : (ints (fI (L ++ [r])))[L.length]? = some (.int .i64 (r.1 : Int)) := by simp [ints, fI]
  have e2 : (ints (sI (L ++ [r])))[L.length]? = some (.int .i64 (r.2 : Int)) := by simp [ints, sI]
  have c1 := G.fst.cells (g := g) rfl _ _ e1
  have c2 := G.snd.cells (g := h) rfl _ _ e2
  rw [Addr.add_lit, Nat.zero_add] at c1 c2
  refine ⟨g, ca, h, cb, by rw [hl], by rw [hl], c1, c2, Kit.frozen_of hg' _, Kit.lt_of hg', hb', fun q => ⟨?_, ?_, ?_, ?_⟩⟩
  · have := ownsRow_setCell_other (w := wr.drewN q) (h := (G.fst : (wr.drewN q).ownsRow _ _ _ _ _ _)) (a := ⟨h, L.length, none⟩) (by simp [Value.ownBlock, gh]) (.int .i64 ((r.2 : Int) + 1))
    simpa [fI] using this
  · refine ⟨by simp [ints, sI], .inr ⟨h, cb, _, by simp, hb', Kit.set_blk (w := wr.drewN q) hg' L.length (.int .i64 ((r.2 : Int) + 1)), by simpa using hc', hm', by simpa using hs', ?_⟩⟩
    rw [hl] at ht'
    have hl2 : (L ++ [(r.1, r.2 + 1)]).length = L.length + 1 := by simp
    rw [hl2, Array.toList_setIfInBounds, List.take_set, ht']
    simp [ints, sI]
  · exact G.far
  · exact (Kit.drawB G.bel q).setCell (p := ⟨h, L.length, none⟩) hb' _
theorem Gw.draw {w wr : World} {L : List (Nat × Nat)} {va vb : Value} (G : Gw w wr L va vb) (q : Nat) : Gw w (wr.drewN q) L va vb := ⟨G.fst, G.snd, G.far, Kit.drawB G.bel q⟩
end Go.Proofs.Ytladhenjoipfpaa.Rr
