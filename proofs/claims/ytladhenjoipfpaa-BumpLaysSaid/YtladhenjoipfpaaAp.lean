/- What is laid has words of its own: the plain part, and what else of memory two spaces bear. No condition. -/
import Derived.Test.YtladhenjoipfpaaAk
import Derived.Test.YtladhenjoipfpaaAc
set_option linter.unusedVariables false
set_option linter.unusedSimpArgs false
namespace Go.Proofs.Ytladhenjoipfpaa.Ap
open Go.RowKit
open Pl Rn Ov Lf Wl Gp Ct Sn Gq Tf Mt Rr Kp Sc Nn Tk La Rp Rq Mb S2 Ak
/-- Where a space goes on: within one block of its own, where nothing was met. -/
def Rg (n : Nat) (fs : List Int) (M : Nat → Int) (σ : Sq) (q : Nat) : Prop := σ.left = 0 ∨ (1 ≤ q ∧ q < n ∧ 64 * q ≤ σ.next ∧ σ.next + σ.left ≤ 64 * q + 64 ∧ 0 ≤ fs.getD q 0 ∧ ∀ j, σ.next ≤ j → j < σ.next + σ.left → M j = 0)
structure Ia (n : Nat) (fs : List Int) (σ0 σ1 : Sq) (M : Nat → Int) : Prop where
  len : fs.length = n
  zero : 0 ≤ fs.getD 0 0
  met : ∀ j, j < 64 * n → M j ≠ 0 → 0 ≤ fs.getD (j / 64) 0
  reg : ∃ q0 q1, Rg n fs M σ0 q0 ∧ Rg n fs M σ1 q1 ∧ (σ0.left = 0 ∨ σ1.left = 0 ∨ q0 ≠ q1)
theorem Ia.swap {n : Nat} {fs : List Int} {σ0 σ1 : Sq} {M : Nat → Int} (h : Ia n fs σ0 σ1 M) : Ia n fs σ1 σ0 M := by
  obtain ⟨q0, q1, a, b, c⟩ := h.reg
  exact ⟨h.len, h.zero, h.met, q1, q0, b, a, by rcases c with c | c | c; exact .inr (.inl c); exact .inl c; exact .inr (.inr (fun e => c e.symm))⟩
theorem Ia.new (n : Nat) (h : 1 ≤ n) : Ia n (fs0 n) Sq.new Sq.new (fun _ => 0) := by
  refine ⟨fs0_length n h, ?_, fun j _ c => absurd rfl c, 0, 0, .inl rfl, .inl rfl, .inl rfl⟩
  unfold fs0
  rw [fill_get _ 0 1 0 (by simp; omega), if_pos (by omega)]
  simp
/-- Blocks that are taken anew. -/
theorem fresh {n : Nat} {fs : List Int} {σ0 σ1 : Sq} {M : Nat → Int} (h : Ia n fs σ0 σ1 M) {b q : Nat} (hf : findR fs b = some q) (hb : 1 ≤ b) (k : Nat) (hk : k ≤ 64 * b) (M' : Nat → Int) (hM : ∀ j, M' j = if 64 * q ≤ j ∧ j < 64 * q + k then 1 else M j) :
    (1 ≤ q ∧ q + b ≤ n) ∧ (∀ j, 64 * q ≤ j → j < 64 * (q + b) → M j = 0) ∧ (fill fs q b q).length = n ∧ 0 ≤ (fill fs q b q).getD 0 0 ∧ (∀ j, j < 64 * n → M' j ≠ 0 → 0 ≤ (fill fs q b q).getD (j / 64) 0) ∧
    (∀ σ p, Rg n fs M σ p → σ.left = 0 ∨ (Rg n (fill fs q b q) M' σ p ∧ (p < q ∨ q + b ≤ p))) := by
  obtain ⟨h1, h2⟩ := findR_mem hf
  rw [h.len] at h1
  have L := fill_length fs q b q (by rw [h.len]; exact h1)
  have G := fill_get fs q b q (by rw [h.len]; exact h1)
  have q1 : 1 ≤ q := by
    rcases Nat.lt_or_ge 0 q with c | c
    · exact c
    · have := h2 0 (by omega) (by omega)
      have := h.zero
      omega
  have z : ∀ j, 64 * q ≤ j → j < 64 * (q + b) → M j = 0 := fun j a c => by
    rcases Classical.em (M j = 0) with e | e
    · exact e
    · have := h.met j (by omega) e
      have := h2 (j / 64) (by omega) (by omega)
      omega
  refine ⟨⟨q1, h1⟩, z, L.trans h.len, ?_, fun j hj hne => ?_, fun σ p hp => ?_⟩
  · rw [G, if_neg (by omega)]; exact h.zero
  · rw [G]
    split
    · omega
    · rename_i hn
      rw [hM j] at hne
      rw [if_neg (by omega)] at hne
      exact h.met j hj hne
  · rcases hp with hp | ⟨a1, a2, a3, a4, a5, a6⟩
    · exact .inl hp
    · have hout : p < q ∨ q + b ≤ p := by
        rcases Nat.lt_or_ge p q with c | c
        · exact .inl c
        · rcases Nat.lt_or_ge p (q + b) with c2 | c2
          · have := h2 p c c2; omega
          · exact .inr c2
      refine .inr ⟨.inr ⟨a1, a2, a3, a4, ?_, fun j x y => ?_⟩, hout⟩
      · rw [G, if_neg (by omega)]; exact a5
      · rw [hM j, if_neg (by omega)]; exact a6 j x y
/-- One lay: where, and what holds behind it. -/
theorem lay_apart {n words k p : Nat} {fs fs' : List Int} {σ0 σ1 σ' : Sq} {M : Nat → Int} (h : Ia n fs σ0 σ1 M) (h1 : 1 ≤ k) (h2 : k ≤ 4096) (e : layF fs words σ0 k = some (p, fs', σ')) :
    64 ≤ p ∧ p + k ≤ 64 * n ∧ (∀ j, p ≤ j → j < p + k → M j = 0) ∧ ∀ M' : Nat → Int, (∀ j, M' j = if p ≤ j ∧ j < p + k then 1 else M j) → Ia n fs' σ' σ1 M' := by
  obtain ⟨q0, q1, r0, r1, d⟩ := h.reg
  unfold layF at e
  split at e
  · rename_i hb
    rw [Option.map_eq_some_iff] at e
    obtain ⟨⟨q, f, s⟩, he, e⟩ := e
    obtain ⟨hf, _, h3, h4⟩ := takeF_some he
    simp only [Prod.mk.injEq] at e
    obtain ⟨rfl, rfl, rfl⟩ := e
    subst h4 h3
    have F0 := fresh h hf (by omega) k (by omega) (fun j => if 64 * q ≤ j ∧ j < 64 * q + k then 1 else M j) (fun j => rfl)
    refine ⟨by omega, by omega, fun j a c => F0.2.1 j a (by omega), fun M' hM => ?_⟩
    obtain ⟨_, _, a3, a4, a5, a6⟩ := fresh h hf (by omega) k (by omega) M' hM
    refine ⟨a3, a4, a5, q0, q1, ?_, ?_, d⟩
    · rcases a6 σ0 q0 r0 with c | c
      · exact .inl c
      · exact c.1
    · rcases a6 σ1 q1 r1 with c | c
      · exact .inl c
      · exact c.1
  · split at e
    · rw [Option.map_eq_some_iff] at e
      obtain ⟨⟨q, f, s⟩, he, e⟩ := e
      obtain ⟨hf, _, h3, h4⟩ := takeF_some he
      simp only [Prod.mk.injEq] at e
      obtain ⟨rfl, rfl, rfl⟩ := e
      subst h4 h3
      have F0 := fresh h hf (by omega) k (by omega) (fun j => if 64 * q ≤ j ∧ j < 64 * q + k then 1 else M j) (fun j => rfl)
      refine ⟨by omega, by omega, fun j a c => F0.2.1 j a (by omega), fun M' hM => ?_⟩
      obtain ⟨⟨b1, b2⟩, b3, a3, a4, a5, a6⟩ := fresh h hf (by omega) k (by omega) M' hM
      have G := fill_get fs q 1 q (by rw [h.len]; exact b2)
      refine ⟨a3, a4, a5, q, q1, .inr ⟨b1, by omega, by simp only [fin]; omega, by simp only [fin]; omega, by rw [G, if_pos (by omega)]; omega, fun j x y => ?_⟩, ?_, ?_⟩
      · simp only [fin] at x y
        rw [hM j, if_neg (by omega)]
        exact b3 j (by omega) (by omega)
      · rcases a6 σ1 q1 r1 with c | c
        · exact .inl c
        · exact c.1
      · rcases a6 σ1 q1 r1 with c | c
        · exact .inr (.inl c)
        · exact .inr (.inr (by omega))
    · simp only [Option.some.injEq, Prod.mk.injEq] at e
      obtain ⟨rfl, rfl, rfl⟩ := e
      rcases r0 with r0 | ⟨a1, a2, a3, a4, a5, a6⟩
      · omega
      · refine ⟨by omega, by omega, fun j x y => a6 j x (by omega), fun M' hM => ⟨h.len, h.zero, fun j hj hne => ?_, q0, q1, ?_, ?_, ?_⟩⟩
        · rw [hM j] at hne
          split at hne
          · have e : j / 64 = q0 := by omega
            rw [e]; exact a5
          · exact h.met j hj hne
        · refine .inr ⟨a1, a2, by simp only [fin]; omega, by simp only [fin]; omega, a5, fun j x y => ?_⟩
          simp only [fin] at x y
          rw [hM j, if_neg (by omega)]
          exact a6 j (by omega) (by omega)
        · rcases r1 with r1 | ⟨b1, b2, b3, b4, b5, b6⟩
          · exact .inl r1
          · refine .inr ⟨b1, b2, b3, b4, b5, fun j x y => ?_⟩
            rw [hM j]
            rcases d with d | d | d
            · omega
            · omega
            · rw [if_neg (by omega)]
              exact b6 j x y
        · rcases d with d | d | d
          · omega
          · exact .inr (.inl d)
          · exact .inr (.inr d)
theorem read_cleared {xs : List Int} {p k j : Nat} (h : p + k ≤ xs.length) (h1 : p ≤ j) (h2 : j < p + k) : Ar.readV (Arc.clearV xs p k) j = 0 := by
  have e : Arc.clearV xs p k = Rw.over xs p (List.replicate k 0) := by
    unfold Arc.clearV
    rw [if_pos (by omega), Int.toNat_natCast, Int.toNat_natCast]
  have l : (Rw.over xs p (List.replicate k 0)).length = xs.length := Rw.length_over _ _ _ (by simp; omega)
  rw [e]
  unfold Ar.readV
  rw [if_pos (by rw [l]; omega), Int.toNat_natCast, Rw.over_getD _ _ _ (by simp; omega), if_pos (by simp; omega)]
  simp [List.getD_eq_getElem?_getD, show j - p < k by omega]
section
variable {W w w' : World} {Z : Nat → Prop} {g a b ga ar s0 s1 : Nat} {fs xs xs' : List Int} {σ0 σ1 : Sq}
/-- One of the caller's own blocks is written. -/
theorem Sp2.put (h : Sp2 W w Z g a b ga ar s0 s1 fs xs σ0 σ1) {z : Nat} (hz : Z z) (hg : z ≠ g ∧ z ≠ ga) (hW : W.heap.size ≤ z) (m : ModP (fun k => k = z) w w') : Sp2 W w' Z g a b ga ar s0 s1 fs xs σ0 σ1 := by
  obtain ⟨m0, B0, K0, vg, va, vm, m1, B1, K1, ug, ua, um, S0, S1, d, j, l⟩ := h.sp
  have hz2 := (h.zs z hz).2
  refine ⟨h.env.keepP m (by omega), ⟨m0, B0, K0, vg, va, vm, m1, B1, K1, ug, ua, um, S0.keepP m (fun k hk c => ?_), S1.keepP m (fun k hk c => ?_), d, j, l⟩, fun k hk => ⟨Nat.lt_of_lt_of_le (h.zs k hk).1 m.size, (h.zs k hk).2⟩, h.own, Mt.step h.bel m (fun k hk => by subst hk; exact hW)⟩
  · subst c; exact (l k (.inl hk)).2 hz
  · subst c; exact (l k (.inr hk)).2 hz
/-- The arena's words are written. -/
theorem Sp2.arena (h : Sp2 W w Z g a b ga ar s0 s1 fs xs σ0 σ1) (m : Kit.Mod [ar] w w') (A' : Ar.Own 75 w' ga ar xs') : Sp2 W w' Z g a b ga ar s0 s1 fs xs' σ0 σ1 := by
  obtain ⟨m0, B0, K0, vg, va, vm, m1, B1, K1, ug, ua, um, S0, S1, d, j, l⟩ := h.sp
  have M : ModP (fun k => k = ar) w w' := ModP.of_mod m (fun k hk => by simpa using hk)
  obtain ⟨ms, P, WF⟩ := h.env.pool
  have ne := h.env.ne
  refine ⟨⟨⟨ms, P.keep m (by simp; omega) (by simp; omega) (by simp; omega), WF⟩, A', ne⟩, ⟨m0, B0, K0, vg, va, vm, m1, B1, K1, ug, ua, um, S0.keepP M (fun k hk c => ?_), S1.keepP M (fun k hk c => ?_), d, j, l⟩, fun k hk => ⟨Nat.lt_of_lt_of_le (h.zs k hk).1 M.size, (h.zs k hk).2⟩, h.own, Mt.step h.bel M (fun k hk => by subst hk; exact h.own.2.2)⟩
  · subst c; exact j.1.2.2.2.2 hk
  · subst c; exact j.2.2.2.2.2 hk
/-- A block of the caller's own is made. -/
theorem Sp2.newZ (h : Sp2 W w Z g a b ga ar s0 s1 fs xs σ0 σ1) (o : Obj) : Sp2 W (w.alloc o) (fun k => Z k ∨ k = w.heap.size) g a b ga ar s0 s1 fs xs σ0 σ1 := by
  have h' := h.below (Kit.allocB (Below.refl _ _) o)
  obtain ⟨m0, B0, K0, vg, va, vm, m1, B1, K1, ug, ua, um, S0, S1, d, j, l⟩ := h.sp
  obtain ⟨ms, P, WF⟩ := h.env.pool
  have la := Kit.lt_of P.one
  have lb := Kit.lt_of P.two
  have lr := Kit.lt_of h.env.arena.row
  have bl := Kit.allocB (Below.refl w.heap.size w) o
  refine ⟨h'.env, ⟨m0, B0, K0, vg, va, vm, m1, B1, K1, ug, ua, um, S0.keepB bl, S1.keepB bl, d, j, fun k hk => ⟨(l k hk).1, fun z => ?_⟩⟩, fun k hk => ?_, h.own, h'.bel⟩
  · rcases z with z | z
    · exact (l k hk).2 z
    · rcases hk with hk | hk
      · have := S0.low k hk; omega
      · have := S1.low k hk; omega
  · rcases hk with hk | rfl
    · exact h'.zs k hk
    · exact ⟨by simp, by omega, by omega, by omega⟩
end
end Go.Proofs.Ytladhenjoipfpaa.Ap
