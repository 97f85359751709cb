/- Where StackBack stands: a stack, and the frames that were pushed. No condition. -/
import Derived.Test.YtedkackmccnkfaaAw
import Derived.Test.YtedkackmccnkfaaOf
set_option linter.unusedVariables false
set_option linter.unusedSimpArgs false
namespace Go.Proofs.Ytedkackmccnkfaa.Bk
open Go.RowKit
open Fr Ar Sk Pu Fa
abbrev In := Fm × Option Addr × Nat
def cellsI (x : In) : List Value := [.int .i64 x.1.k, .int .i64 x.1.a, .int .i64 x.1.b, .slice x.2.1 x.1.ps.length x.2.2]
def flat (l : List In) : List Value := l.flatMap cellsI
theorem flat_length (l : List In) : (flat l).length = l.length * 4 := by
  unfold flat
  induction l with
  | nil => rfl
  | cons x l ih => simp [cellsI] at ih ⊢; omega
theorem flat_get (l : List In) (d : In) : ∀ i, i < l.length → (flat l)[i * 4]? = some (.int .i64 (l.getD i d).1.k) ∧ (flat l)[i * 4 + 1]? = some (.int .i64 (l.getD i d).1.a) ∧ (flat l)[i * 4 + 2]? = some (.int .i64 (l.getD i d).1.b) ∧ (flat l)[i * 4 + 3]? = some (.slice (l.getD i d).2.1 (l.getD i d).1.ps.length (l.getD i d).2.2) := by
  induction l with
  | nil => intro i h; simp at h
  | cons x l ih =>
    intro i h
    cases i with
    | zero => exact ⟨rfl, rfl, rfl, rfl⟩
    | succ i =>
      have := ih i (by simpa using h)
      rw [show (i + 1) * 4 = i * 4 + 4 by omega]
      exact this
theorem flat_snoc (l : List In) (x : In) : flat (l ++ [x]) = flat l ++ cellsI x := by simp [flat]
/-- Frames that came in. -/
structure FIn (w : World) (A : Option Addr) (fs : List Fm) : Prop where
  max : fs.length ≤ 9223372036854775807
  cells : 0 < fs.length → ∃ b off, A = some ⟨b, off, none⟩ ∧ b < w.heap.size ∧ ∀ i, i < fs.length → ∃ x : In, x.1 = fs.getD i ⟨0, 0, 0, []⟩ ∧ Sl w x.2.1 x.1.ps ∧ x.1.ps.length ≤ 17592186044416 ∧
    w.cell? ⟨b, off + i * 4, none⟩ = some (.int .i64 x.1.k) ∧ w.cell? ⟨b, off + i * 4 + 1, none⟩ = some (.int .i64 x.1.a) ∧ w.cell? ⟨b, off + i * 4 + 2, none⟩ = some (.int .i64 x.1.b) ∧ w.cell? ⟨b, off + i * 4 + 3, none⟩ = some (.slice x.2.1 x.1.ps.length x.2.2)
theorem own_mod {w w' : World} {e : TypeId} {k b : Nat} {v : Value} {n : Nat} {ys : List Value} {S : List Nat} (h : w.ownsRow b e k v n ys) (m : Kit.Mod S w w') (hs : ∀ x, x ∈ S → x < b) : w'.ownsRow b e k v n ys := by
  refine ⟨h.1, ?_⟩
  rcases h.2 with h2 | ⟨g, cap, cur, rfl, hb, hg, h4⟩
  · exact .inl h2
  · exact .inr ⟨g, cap, cur, rfl, hb, Kit.keep hg m (fun hm => by have := hs g hm; omega), h4⟩
theorem own_addr4 {w : World} {e : TypeId} {k b : Nat} {v : Value} {n : Nat} {ys : List Value} (h : w.ownsRow b e k v n ys) (hn : 0 < n) : ∃ q cp, v = .slice (some ⟨q, 0, none⟩) n cp ∧ b ≤ q := by
  rcases h.2 with ⟨rfl, rfl⟩ | ⟨g, cap, cur, rfl, hb, hg, _⟩
  · omega
  · exact ⟨g, cap, rfl, hb⟩
theorem shape4 {w : World} {e : TypeId} {k b : Nat} {v : Value} {c : Nat} {ys : List Value} (h : w.ownsRow b e k v c ys) : ∃ a cp, v = .slice a c cp := by
  rcases h.2 with ⟨rfl, rfl⟩ | ⟨g, cap, cur, rfl, hb, _⟩
  · exact ⟨_, _, rfl⟩
  · exact ⟨_, _, rfl⟩
/-- Where the law stands. -/
structure St (W w : World) (base g ga r : Nat) (xs : List Int) (L : List Fm) (v : Value) (inn : List In) : Prop where
  stk : Stk w g ga r 5 2000 xs L
  own : w.ownsRow base 24 4 v inn.length (flat inn)
  bel : Below W.heap.size W w
  siz : base ≤ w.heap.size
  old : W.heap.size ≤ base ∧ W.heap.size ≤ g ∧ W.heap.size ≤ ga ∧ W.heap.size ≤ r
  gb : g < base ∧ ga < base ∧ r < base
  len : xs.length = 2010
  edge : ∀ i, i < 5 → xs.getD i 0 = 77 ∧ xs.getD (2005 + i) 0 = 77
  sls : ∀ x, x ∈ inn → Sl W x.2.1 x.1.ps ∧ x.1.ps.length ≤ 1000
section
variable {W w w' : World} {base g ga r : Nat} {xs xs' : List Int} {L L' : List Fm} {v : Value} {inn : List In}
theorem St.stepB (S : St W w base g ga r xs L v inn) (h : Below w.heap.size w w') : St W w' base g ga r xs L v inn :=
  ⟨Stk.keepB S.stk h, own_mod (S := []) S.own (Kit.Mod.of_below h) (by simp), Kit.stepB S.bel h, Nat.le_trans S.siz h.size, S.old, S.gb, S.len, S.edge, S.sls⟩
theorem St.mod (S : St W w base g ga r xs L v inn) (m : Kit.Mod [g, r] w w') (K : Stk w' g ga r 5 2000 xs' L') (hl : xs'.length = xs.length) (he : ∀ i, i < 5 → xs'.getD i 0 = 77 ∧ xs'.getD (2005 + i) 0 = 77) : St W w' base g ga r xs' L' v inn :=
  ⟨K, own_mod S.own m (fun x hx => by
    simp at hx; rcases hx with rfl | rfl
    · exact S.gb.1
    · exact S.gb.2.2), Kit.step S.bel m (fun x hx => by
    simp at hx; rcases hx with rfl | rfl
    · exact S.old.2.1
    · exact S.old.2.2.2), Nat.le_trans S.siz m.size, S.old, S.gb, hl.trans S.len, he, S.sls⟩
/-- A frame is gathered. -/
theorem St.push {o : Obj} {v' : Value} {x : In} (S : St W w base g ga r xs L v inn) (hx : Sl W x.2.1 x.1.ps ∧ x.1.ps.length ≤ 1000) (ho : w'.ownsRow base 24 4 v' (inn.length + 1) (flat inn ++ cellsI x)) (hg : (w.alloc o).grownBy w' v.ownBlock) : St W w' base g ga r xs L v' (inn ++ [x]) := by
  have h0 : Below base w w' := (Below.alloc (Below.refl _ _) S.siz o).grown hg (by have := S.siz; simp; omega) (fun k hk => by
    rcases S.own.2 with ⟨rfl, _⟩ | ⟨q, cap, cur, rfl, hb, _⟩
    · simp [Value.ownBlock] at hk
    · simp [Value.ownBlock] at hk; omega)
  have kp : ∀ q y, q < base → w.heap[q]? = some y → w'.heap[q]? = some y := fun q y hq hy => (h0.block q hq).trans hy
  refine ⟨⟨kp _ _ S.gb.1 S.stk.obj, ⟨kp _ _ S.gb.2.1 S.stk.own.obj, kp _ _ S.gb.2.2 S.stk.own.row, S.stk.own.small, S.stk.own.rng⟩, S.stk.ne, S.stk.fits, S.stk.words, S.stk.good⟩, ?_, ?_, Nat.le_trans S.siz h0.size, S.old, S.gb, S.len, S.edge, ?_⟩
  · rw [List.length_append, List.length_singleton, flat_snoc]; exact ho
  · have B := S.bel
    exact ⟨h0.os.trans B.os, h0.tape.trans B.tape, h0.output.trans B.output, Nat.le_trans B.size h0.size, fun i hi => (h0.block i (Nat.lt_of_lt_of_le hi S.old.1)).trans (B.block i hi)⟩
  · intro y hy
    rcases List.mem_append.1 hy with hy | hy
    · exact S.sls y hy
    · simp at hy; subst hy; exact hx
/-- What lies at an element gathered. -/
theorem St.at_ {aa : Option Addr} {n ca : Nat} (S : St W w base g ga r xs L (.slice aa n ca) inn) (i : Nat) (hi : i < inn.length) (d : In) : ∃ q, aa = some ⟨q, 0, none⟩ ∧ w.cell? ⟨q, i * 4, none⟩ = some (.int .i64 (inn.getD i d).1.k) ∧ w.cell? ⟨q, i * 4 + 1, none⟩ = some (.int .i64 (inn.getD i d).1.a) ∧ w.cell? ⟨q, i * 4 + 2, none⟩ = some (.int .i64 (inn.getD i d).1.b) ∧ w.cell? ⟨q, i * 4 + 3, none⟩ = some (.slice (inn.getD i d).2.1 (inn.getD i d).1.ps.length (inn.getD i d).2.2) := by
  obtain ⟨q, cp, e, _⟩ := own_addr4 S.own (by omega)
  simp only [Value.slice.injEq] at e
  obtain ⟨f0, f1, f2, f3⟩ := flat_get inn d i hi
  have c := fun j u h => S.own.cells (g := q) (by rw [e.1]; rfl) j u h
  refine ⟨q, e.1, ?_, ?_, ?_, ?_⟩
  · have := c _ _ f0; rw [Addr.add_lit, Nat.zero_add] at this; exact this
  · have := c _ _ f1; rw [Addr.add_lit, Nat.zero_add] at this; exact this
  · have := c _ _ f2; rw [Addr.add_lit, Nat.zero_add] at this; exact this
  · have := c _ _ f3; rw [Addr.add_lit, Nat.zero_add] at this; exact this
end
end Go.Proofs.Ytedkackmccnkfaa.Bk
