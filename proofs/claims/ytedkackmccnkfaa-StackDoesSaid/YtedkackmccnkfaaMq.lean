/- But for a set of blocks memory stays. No condition. -/
import Derived.Test.YtedkackmccnkfaaKit
import Derived.Maps.OwnSet
set_option linter.unusedVariables false
set_option linter.unusedSimpArgs false
namespace Go.Proofs.Ytedkackmccnkfaa.Mq
open Go.RowKit
theorem turned_size {w w' : World} {b : Nat} (h : w.mapTurned w' b) : w'.heap.size = w.heap.size := by
  obtain ⟨es, c, es', c', hb, rfl⟩ := h
  simp [ChangeMaps.setBlock]
/-- But for these blocks memory stays. -/
structure ModP (K : Nat → Prop) (w w' : World) : Prop where
  os : w'.os = w.os
  tape : w'.tape = w.tape
  output : w'.output = w.output
  size : w.heap.size ≤ w'.heap.size
  block : ∀ k, k < w.heap.size → ¬ K k → w'.heap[k]? = w.heap[k]?
section
variable {K K' : Nat → Prop} {w w1 w2 : World}
theorem ModP.refl (K : Nat → Prop) (w : World) : ModP K w w := ⟨rfl, rfl, rfl, Nat.le_refl _, fun _ _ _ => rfl⟩
theorem ModP.trans (h : ModP K w w1) (h2 : ModP K' w1 w2) (hk : ∀ k, k < w.heap.size → K' k → K k) : ModP K w w2 :=
  ⟨h2.os.trans h.os, h2.tape.trans h.tape, h2.output.trans h.output, Nat.le_trans h.size h2.size, fun k hl hn => (h2.block k (Nat.lt_of_lt_of_le hl h.size) (fun c => hn (hk k hl c))).trans (h.block k hl hn)⟩
theorem ModP.weaken (h : ModP K w w1) (hk : ∀ k, k < w.heap.size → K k → K' k) : ModP K' w w1 := ⟨h.os, h.tape, h.output, h.size, fun k hl hn => h.block k hl (fun c => hn (hk k hl c))⟩
theorem ModP.of_below (h : Below w.heap.size w w1) : ModP K w w1 := ⟨h.os, h.tape, h.output, h.size, fun k hl _ => h.block k hl⟩
theorem ModP.of_mod {S : List Nat} (h : Kit.Mod S w w1) (hk : ∀ k ∈ S, K k) : ModP K w w1 := ⟨h.os, h.tape, h.output, h.size, fun k hl hn => h.block k hl (fun c => hn (hk k c))⟩
theorem ModP.of_grown {row : Option Nat} (h : w.grownBy w1 row) (hk : ∀ k, row = some k → K k) : ModP K w w1 := ⟨h.os, h.tape, h.output, h.size, fun k hl hn => h.block k hl (fun e => hn (hk k e.symm))⟩
theorem ModP.drewN (h : ModP K w w1) (q : Nat) : ModP K w (w1.drewN q) := ⟨h.os, h.tape, h.output, h.size, h.block⟩
theorem ModP.alloc (h : ModP K w w1) (o : Obj) : ModP K w (w1.alloc o) := h.trans (ModP.of_below (K := K) (Kit.allocB (Below.refl _ _) o)) (fun _ _ c => c)
theorem ModP.setCell (h : ModP K w w1) {p : Addr} (hp : K p.block ∨ w.heap.size ≤ p.block) (u : Value) : ModP K w (w1.setCell p u) :=
  ⟨h.os, h.tape, h.output, by have := h.size; simpa [World.setCell] using this, fun k hl hn => (Below.heap_setCell w1 p u k (fun e => by subst e; exact hp.elim hn (fun c => by omega))).trans (h.block k hl hn)⟩
theorem ModP.below (h : ModP (fun _ => False) w w1) : Below w.heap.size w w1 := ⟨h.os, h.tape, h.output, h.size, fun k hl => h.block k hl (fun c => c)⟩
/-- A call that writes but to what was made since. -/
theorem step {W : World} (hB : Below W.heap.size W w) (h : ModP K w w1) (hk : ∀ k, K k → W.heap.size ≤ k) : Below W.heap.size W w1 :=
  ⟨h.os.trans hB.os, h.tape.trans hB.tape, h.output.trans hB.output, Nat.le_trans hB.size h.size, fun k hl => (h.block k (Nat.lt_of_lt_of_le hl hB.size) (fun c => by have := hk k c; omega)).trans (hB.block k hl)⟩
end
end Go.Proofs.Ytedkackmccnkfaa.Mq
