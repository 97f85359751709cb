/- A set of numbers, kept as a map to 1; what of memory a set of blocks bounds. No condition. -/
import Derived.Test.YtladhenjoipfpaaTf
import Derived.Test.YtladhenjoipfpaaGq
import Derived.Test.YtladhenjoipfpaaArc
import Derived.Maps.OwnOps
import Derived.Maps.Views
import Derived.Maps.Keyed
import Derived.Carry
set_option linter.unusedVariables false
set_option linter.unusedSimpArgs false
namespace Go.Proofs.Ytladhenjoipfpaa.Mt
open Go.RowKit Go.Maps
theorem lawI : Keyed Try.prog 3 := int_keyed Try.underlying3
theorem zeroI (w : World) : (zeroValue 3).run Try.prog w = .ok (.int .i64 0) w := by kernel_rfl
theorem keyI (k : Int) (hk : (Lit.int .i64 k).wf = true) : keyOf Try.prog 3 (.int .i64 k) = some (.int .i64 k) := keyOf_int_mk Try.underlying3 hk
theorem wf_i64 (k : Int) (h : -9223372036854775808 ≤ k) (h2 : k ≤ 9223372036854775807) : (Lit.int .i64 k).wf = true := by
  simp [Lit.wf, IntKind.min, IntKind.max, IntKind.signed, IntKind.bits]
  omega
/-- A map that tells 1 of just these numbers. -/
def Marks (w : World) (b n : Nat) (M : List Int) : Prop := ∃ D : DataW Unit, w.ownsMap Try.prog 3 (plainElem Try.prog 3) b n D ∧ IsMap D ∧ ∀ k : Int, D.atKey (.int .i64 k) (.lit (.int .i64 0)) = .lit (.int .i64 (if k ∈ M then 1 else 0))
theorem Marks.made (w : World) : Marks (w.alloc (.map #[] 0)) w.heap.size 0 [] := ⟨_, World.ownsMap_made _ _ _ _, ⟨[], rfl⟩, fun k => by simp [DataW.atKey]⟩
theorem Marks.obj {w : World} {b n : Nat} {M : List Int} (h : Marks w b n M) : ∃ o, w.heap[b]? = some o ∧ o.isCells = false := by
  obtain ⟨D, ⟨es, c, hb, _⟩, _⟩ := h
  exact ⟨_, hb, rfl⟩
theorem Marks.lt {w : World} {b n : Nat} {M : List Int} (h : Marks w b n M) : b < w.heap.size := by
  obtain ⟨o, ho, _⟩ := h.obj
  exact Kit.lt_of ho
theorem Marks.move {w w' : World} {b n : Nat} {M : List Int} (h : Marks w b n M) (e : w'.heap[b]? = w.heap[b]?) : Marks w' b n M := by
  obtain ⟨D, ⟨es, c, hb, F, hs, hD⟩, h2⟩ := h
  exact ⟨D, ⟨es, c, e.trans hb, F, hs, hD⟩, h2⟩
theorem Marks.lookup {w : World} {b n : Nat} {M : List Int} (h : Marks w b n M) (k : Int) (hk : (Lit.int .i64 k).wf = true) :
    (Instr.lookup 68 (.map (some b)) (.int .i64 k) false).run Try.prog w = .ok (.int .i64 (if k ∈ M then 1 else 0)) w := by
  obtain ⟨D, hown, hm, hat⟩ := h
  obtain ⟨c, hrun, h2, _⟩ := hown.lookup_int lawI Try.underlying68 Try.underlying3 (zeroI w) (keyI k hk)
  rw [hat k] at h2
  simp only [DataW.lit.injEq, Lit.int.injEq, true_and] at h2
  rw [h2]
  exact hrun
theorem Marks.update {w : World} {b n : Nat} {M : List Int} (h : Marks w b n M) (k : Int) (hk : (Lit.int .i64 k).wf = true) (hn : n ≤ 1000000) :
    ∃ w', (Instr.mapUpdate 68 (.map (some b)) (.int .i64 k) (.int .i64 1)).run Try.prog w = .ok () w' ∧ Marks w' b (n + 1) (M ++ [k]) ∧ w.grownBy w' (some b) := by
  obtain ⟨D, hown, hm, hat⟩ := h
  obtain ⟨w', hrun, h2, h3⟩ := hown.update lawI Try.underlying68 (by unfold maxLen; omega) (keyI k hk) (plainElem_int Try.underlying3 (by decide : (Lit.int .i64 1).wf = true))
  refine ⟨w', hrun, ⟨_, h2, ?_, fun k' => ?_⟩, h3⟩
  · obtain ⟨es, rfl⟩ := hm
    exact ⟨_, rfl⟩
  · by_cases e : k' = k
    · subst e
      rw [atKey_put_same hm (by trivial)]
      simp
    · rw [atKey_put_other (by simpa using e), hat k']
      simp [e]
/-- But for these blocks memory stays. -/
structure ModP (K : Nat → Prop) (w w' : World) : Prop where
  os : w'.os = w.os
  tape : w'.tape = w.tape
  output : w'.output = w.output
  size : w.heap.size ≤ w'.heap.size
  block : ∀ k, k < w.heap.size → ¬ K k → w'.heap[k]? = w.heap[k]?
section
variable {K K' : Nat → Prop} {w w1 w2 : World}
theorem ModP.refl (K : Nat → Prop) (w : World) : ModP K w w := ⟨rfl, rfl, rfl, Nat.le_refl _, fun _ _ _ => rfl⟩
theorem ModP.trans (h : ModP K w w1) (h2 : ModP K' w1 w2) (hk : ∀ k, k < w.heap.size → K' k → K k) : ModP K w w2 :=
  ⟨h2.os.trans h.os, h2.tape.trans h.tape, h2.output.trans h.output, Nat.le_trans h.size h2.size, fun k hl hn => (h2.block k (Nat.lt_of_lt_of_le hl h.size) (fun c => hn (hk k hl c))).trans (h.block k hl hn)⟩
theorem ModP.weaken (h : ModP K w w1) (hk : ∀ k, k < w.heap.size → K k → K' k) : ModP K' w w1 := ⟨h.os, h.tape, h.output, h.size, fun k hl hn => h.block k hl (fun c => hn (hk k hl c))⟩
theorem ModP.of_below (h : Below w.heap.size w w1) : ModP K w w1 := ⟨h.os, h.tape, h.output, h.size, fun k hl _ => h.block k hl⟩
theorem ModP.of_mod {S : List Nat} (h : Kit.Mod S w w1) (hk : ∀ k ∈ S, K k) : ModP K w w1 := ⟨h.os, h.tape, h.output, h.size, fun k hl hn => h.block k hl (fun c => hn (hk k c))⟩
theorem ModP.of_grown {row : Option Nat} (h : w.grownBy w1 row) (hk : ∀ k, row = some k → K k) : ModP K w w1 := ⟨h.os, h.tape, h.output, h.size, fun k hl hn => h.block k hl (fun e => hn (hk k e.symm))⟩
theorem ModP.drewN (h : ModP K w w1) (q : Nat) : ModP K w (w1.drewN q) := ⟨h.os, h.tape, h.output, h.size, h.block⟩
theorem ModP.alloc (h : ModP K w w1) (o : Obj) : ModP K w (w1.alloc o) := h.trans (ModP.of_below (K := K) (Kit.allocB (Below.refl _ _) o)) (fun _ _ c => c)
theorem ModP.setCell (h : ModP K w w1) {p : Addr} (hp : K p.block ∨ w.heap.size ≤ p.block) (u : Value) : ModP K w (w1.setCell p u) :=
  ⟨h.os, h.tape, h.output, by have := h.size; simpa [World.setCell] using this, fun k hl hn => (Below.heap_setCell w1 p u k (fun e => by subst e; exact hp.elim hn (fun c => by omega))).trans (h.block k hl hn)⟩
theorem ModP.below (h : ModP K w w1) {n : Nat} (hn : n ≤ w.heap.size) (hk : ∀ k, K k → n ≤ k) : ∀ k, k < n → w1.heap[k]? = w.heap[k]? := fun k hl => h.block k (by omega) (fun c => by have := hk k c; omega)
/-- A call that writes but to what was made since. -/
theorem step {W : World} (hB : Below W.heap.size W w) (h : ModP K w w1) (hk : ∀ k, K k → W.heap.size ≤ k) : Below W.heap.size W w1 :=
  ⟨h.os.trans hB.os, h.tape.trans hB.tape, h.output.trans hB.output, Nat.le_trans hB.size h.size, fun k hl => (h.block k (Nat.lt_of_lt_of_le hl hB.size) (fun c => by have := hk k c; omega)).trans (hB.block k hl)⟩
end
end Go.Proofs.Ytladhenjoipfpaa.Mt
