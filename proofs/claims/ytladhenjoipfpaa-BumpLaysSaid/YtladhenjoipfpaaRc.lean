/- A region that draws its order: operations that read alone, one call behind them all, one operation more. No condition. -/
import Derived.Test.YtladhenjoipfpaaTw
set_option linter.unusedVariables false
set_option linter.unusedSimpArgs false
namespace Go.Proofs.Ytladhenjoipfpaa.Rc
open Go.RowKit
open Tw
theorem rep_false (n j : Nat) : (Array.replicate n false).getD j false = false := by
  rw [Array.getD_eq_getD_getElem?, Array.getElem?_replicate]
  split <;> rfl
section any
variable {F : Fence} {n : Nat} {P : Program} {ops : Array Oper} {Q : Exit → Act → World → Prop} {A : (Nat → Value) → Act} {val : Nat → Value} {m : Nat} {w : World}
/-- An operation that tells its value from what it needs, and leaves the world. -/
def Reads (P : Program) (ops : Array Oper) (A : (Nat → Value) → Act) (val : Nat → Value) (w : World) (j : Nat) : Prop :=
  ∃ o, ops[j]? = some o ∧ o.guard = none ∧ (∀ c, o.op ≠ .defer c) ∧ (∀ v, o.about P w (A v).eval = none) ∧ (∀ v u, (A v).put o.dst u = A (upd v j u)) ∧
    ∀ v, (∀ e ∈ o.after, Region.binds .any e = true → v e.on = val e.on) → (execOp (A v).eval o).run P w = .ok (.value (val j)) w
/-- What is listed has what it needs listed. -/
def Closed (ops : Array Oper) (L : Array Bool) : Prop := ∀ (j : Nat) (o : Oper), ops[j]? = some o → L.getD j false = true → ∀ e ∈ o.after, Region.binds .any e = true → L.getD e.on false = true
theorem Closed.set {L : Array Bool} (h : Closed ops L) (hs : L.size = ops.size) {i : Nat} (hi : i ∈ Region.ready .any ops L) : Closed ops (L.setIfInBounds i true) := by
  intro j o ho hj e he hb
  obtain ⟨h0, oi, hoi, hall⟩ := mem_ready.1 hi
  by_cases hij : i = j
  · subst hij
    rw [hoi] at ho; cases ho
    exact getD_set_true (hall e he hb)
  · rw [ne_flag hij] at hj
    exact getD_set_true (h j o ho hj e he hb)
def RInv (ops : Array Oper) (A : (Nat → Value) → Act) (val : Nat → Value) (m : Nat) (R : Value → World → Prop) (last : Value → Value) (w1 : World) (L : Array Bool) (a : Act) (w : World) : Prop :=
  L.size = m + 2 ∧ Closed ops L ∧ ∃ v, a = A v ∧ (∀ j, j < m → L.getD j false = true → v j = val j) ∧
    (L.getD m false = false → w = w1) ∧ (L.getD m false = true → R (v m) w ∧ ∀ j, j < m → L.getD j false = true) ∧ (L.getD (m + 1) false = true → v (m + 1) = last (v m))
theorem wpIn_reads_call (hsz : ops.size = m + 2) (hord : ∀ (j : Nat) (o : Oper), ops[j]? = some o → ∀ e ∈ o.after, e.on < j) (hm : P.follows .mixedOrders = true) (v0 : Nat → Value) {id : Nat}
    (hr : ∀ j, j < m → Reads P ops A val { w with drawn := w.drawn + 1 } j)
    (hfar : ∀ L, L.size = m + 2 → Closed ops L → m ∈ Region.ready .any ops L → ∀ j, j < m → L.getD j false = true)
    (R : Value → World → Prop) (last : Value → Value)
    (hcall : ∀ v (K : Act → World → Prop), (∀ j, j < m → v j = val j) → (∀ r w', R r w' → K (A (upd v m r)) w') → wpOpIn F n P ops Q m K (A v) { w with drawn := w.drawn + 1 })
    (hlast : ∃ o, ops[m + 1]? = some o ∧ o.guard = none ∧ (∀ c, o.op ≠ .defer c) ∧ (∀ v w', o.about P w' (A v).eval = none) ∧ (∀ v u, (A v).put o.dst u = A (upd v (m + 1) u)) ∧
      ∀ v w', R (v m) w' → (execOp (A v).eval o).run P w' = .ok (.value (last (v m))) w')
    (hdep : ∀ L, m + 1 ∈ Region.ready .any ops L → L.getD m false = true)
    (hlm : ∀ L, Closed ops L → L.getD (m + 1) false = true → L.getD m false = true)
    (hK : ∀ v w', R (v m) w' → v (m + 1) = last (v m) → Q .normal (A v) w') : (Code.region id ops true).wpIn F n P Q (A v0) w := by
  refine wpIn_region_any hm (wpAnyIn_inv (RInv ops A val m R last { w with drawn := w.drawn + 1 }) (fun L a w' hI he => ?_) (fun L a w' i hI hi => ?_) _ _ _ _ ?_ ?_)
  · obtain ⟨hL, hC, v, rfl, h1, h2, h3, h4⟩ := hI
    have al := all_listed hord L he
    have f : ∀ j, j < m + 2 → L.getD j false = true := fun j hj => by
      have := al j (by rw [hsz]; exact hj)
      have hj' : j < L.size := by omega
      simpa [hj'] using this
    exact hK v w' (h3 (f m (by omega))).1 (h4 (f (m + 1) (by omega)))
  · obtain ⟨hL, hC, v, rfl, h1, h2, h3, h4⟩ := hI
    have hi10 : i < m + 2 := by
      obtain ⟨_, o, ho, _⟩ := mem_ready.1 hi
      rw [← hsz]; exact (Array.getElem?_eq_some_iff.1 ho).1
    have fl := ready_flag (by omega) hi
    have sL : (L.setIfInBounds i true).size = m + 2 := by simpa using hL
    have st : (L.setIfInBounds i true).getD i false = true := set_flag (by omega)
    have nf : ∀ j, i ≠ j → (L.setIfInBounds i true).getD j false = L.getD j false := fun j hj => ne_flag hj
    have hC' := hC.set (by omega) hi
    by_cases him : i < m
    · obtain ⟨o, ho, hg, hd, hab, hput, hrun⟩ := hr i him
      have fm : L.getD m false = false := by
        rcases hb : L.getD m false with _ | _
        · rfl
        · have := (h3 hb).2 i him; rw [fl] at this; cases this
      obtain rfl := h2 fm
      have hneed : ∀ e ∈ o.after, Region.binds .any e = true → v e.on = val e.on := fun e he hb => by
        obtain ⟨_, o', ho', hall⟩ := mem_ready.1 hi
        rw [ho] at ho'; cases ho'
        exact h1 e.on (by have := hord i o ho e he; omega) (hall e he hb)
      refine opIn_plain ho hg hd (hab v) (hrun v hneed) ?_
      rw [hput]
      refine ⟨sL, hC', _, rfl, fun j hj h => ?_, fun _ => rfl, fun h => ?_, fun h => ?_⟩
      · by_cases hij : i = j
        · subst hij; simp [upd]
        · rw [nf j hij] at h
          simp only [upd, if_neg (fun e : j = i => hij e.symm)]
          exact h1 j hj h
      · rw [nf m (by omega)] at h; rw [fm] at h; cases h
      · rw [nf (m + 1) (by omega)] at h
        have hl : L.getD m false = true := by
          have := hC.set (by omega) hi
          rcases hb : L.getD m false with _ | _
          · exact absurd (hlm L hC h) (by rw [hb]; simp)
          · rfl
        rw [fm] at hl; cases hl
    · rcases Nat.lt_or_ge m i with hmi | hmi
      · obtain rfl : i = m + 1 := by omega
        have hl := hdep L hi
        obtain ⟨o, ho, hg, hd, hab, hput, hrun⟩ := hlast
        refine opIn_plain ho hg hd (hab v _) (hrun v _ (h3 hl).1) ?_
        rw [hput]
        refine ⟨sL, hC', _, rfl, fun j hj h => ?_, fun h => ?_, fun h => ?_, fun h => ?_⟩
        · rw [nf j (by omega)] at h
          simp only [upd, if_neg (show ¬ j = m + 1 by omega)]
          exact h1 j hj h
        · rw [nf m (by omega)] at h; rw [hl] at h; cases h
        · refine ⟨?_, fun j hj => by rw [nf j (by omega)]; exact (h3 hl).2 j hj⟩
          simp only [upd, if_neg (show ¬ m = m + 1 by omega)]
          exact (h3 hl).1
        · simp [upd]
      · obtain rfl : i = m := by omega
        have far := hfar L hL hC hi
        obtain rfl := h2 fl
        refine hcall v _ (fun j hj => h1 j hj (far j hj)) (fun r w' hR => ?_)
        refine ⟨sL, hC', _, rfl, fun j hj h => ?_, fun h => ?_, fun h => ⟨by simpa [upd] using hR, fun j hj => by rw [nf j (by omega)]; exact far j hj⟩, fun h => ?_⟩
        · simp only [upd, if_neg (show ¬ j = i by omega)]
          exact h1 j hj (far j hj)
        · rw [st] at h; cases h
        · rw [nf (i + 1) (by omega)] at h
          have := hlm L hC h
          rw [fl] at this; cases this
  · rw [hsz]; exact Nat.le_trans List.countP_le_length (by simp)
  · rw [hsz]
    refine ⟨by simp, ?_, v0, rfl, fun j hj h => absurd h (by rw [rep_false]; simp), fun _ => rfl, fun h => absurd h (by rw [rep_false]; simp), fun h => absurd h (by rw [rep_false]; simp)⟩
    intro j o ho hj
    exact absurd hj (by rw [rep_false]; simp)
end any

theorem binds_data (on : Nat) : Region.binds .any { on, ground := .data } = true := rfl
section reads
variable {w : World} {ρ : Operand → Value} {o : Oper} {p x : Operand}
theorem load_S {a : Addr} {k : Option Addr} {m c : Nat} (ho : o.op = .load 43 p) (hp : ρ p = .pointer (some a)) (h : w.cell? a = some (.slice k m c)) : (execOp ρ o).run Try.prog w = .ok (.value (.slice k m c)) w := by
  simp only [execOp, ho, hp]
  go_simp
theorem load_I {a : Addr} {i : Int} (ho : o.op = .load 3 p) (hp : ρ p = .pointer (some a)) (h : w.cell? a = some (.int .i64 i)) : (execOp ρ o).run Try.prog w = .ok (.value (.int .i64 i)) w := by
  simp only [execOp, ho, hp]
  go_simp
theorem index_S {g m c k : Nat} (ho : o.op = .indexAddr 43 p x) (hp : ρ p = .slice (some ⟨g, 0, none⟩) m c) (hx : ρ x = .int .i64 k) (hk : k < m) (hm : m ≤ 1000000) : (execOp ρ o).run Try.prog w = .ok (.value (.pointer (some ⟨g, k, none⟩))) w := by
  have b : (k : Int) < m := by omega
  simp only [execOp, ho, hp, hx]
  go_simp
theorem move_V {v : Value} (ho : o.op = .move p) (hp : ρ p = v) : (execOp ρ o).run Try.prog w = .ok (.value v) w := by
  simp [execOp, ho, hp]
theorem not_B {b : Bool} (ho : o.op = .unOp .not 4 p) (hp : ρ p = .bool b) : (execOp ρ o).run Try.prog w = .ok (.value (.bool (!b))) w := by
  simp only [execOp, ho, hp]
  go_simp
end reads
end Go.Proofs.Ytladhenjoipfpaa.Rc
