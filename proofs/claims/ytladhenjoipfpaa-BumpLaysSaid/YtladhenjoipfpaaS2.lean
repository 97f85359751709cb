/- Two spaces of one pool and arena, and what Lay leaves of both. No condition. -/
import Derived.Test.YtladhenjoipfpaaMb
set_option linter.unusedVariables false
set_option linter.unusedSimpArgs false
namespace Go.Proofs.Ytladhenjoipfpaa.S2
open Go.RowKit
open Pl Rn Ov Lf Wl Gp Ct Sn Gq Tf Mt Rr Kp Sc Nn Tk La Rp Rq Mb
theorem findR_mem {fs : List Int} {N p : Nat} (h : findR fs N = some p) : p + N ≤ fs.length ∧ ∀ i, p ≤ i → i < p + N → fs.getD i 0 < 0 := by
  unfold findR at h
  rw [Option.map_eq_some_iff] at h
  obtain ⟨r, hr, rfl⟩ := h
  have hm := List.mem_of_find?_eq_some hr
  have hp := List.find?_some hr
  have := runs_mem (fs := fs) 0 r hm
  simp at hp
  exact ⟨by omega, fun i a b => this.2.2.2 i a (by omega)⟩
theorem takeF_some {fs : List Int} {words N p : Nat} {σ σ' : Sq} {fs' : List Int} (h : takeF fs words σ N = some (p, fs', σ')) : findR fs N = some p ∧ p + N ≤ words / 64 ∧ fs' = fill fs p N p ∧ σ' = { σ with groups := σ.groups ++ [p], blocks := σ.blocks + N } := by
  unfold takeF at h
  split at h
  · cases h
  · rename_i q hq
    split at h
    · rename_i hle
      simp only [Option.some.injEq, Prod.mk.injEq] at h
      obtain ⟨rfl, rfl, rfl⟩ := h
      exact ⟨hq, hle, rfl, rfl⟩
    · cases h
/-- Bounds of a space that has laid k times. -/
structure Okn (σ : Sq) (k : Nat) : Prop where
  lays : σ.lays.length ≤ k
  groups : σ.groups.length ≤ k
  blocks : σ.blocks ≤ 64 * k
  used : σ.used ≤ 4096 * k
  next : σ.next + σ.left ≤ 300000
  left : σ.left ≤ 64
theorem Okn.new : Okn Sq.new 0 := ⟨by simp [Sq.new], by simp [Sq.new], by simp [Sq.new], by simp [Sq.new], by simp [Sq.new], by simp [Sq.new]⟩
theorem Okn.ok {σ : Sq} {k : Nat} (h : Okn σ k) (hk : k ≤ 900) : Ok σ := ⟨by have := h.lays; omega, by have := h.groups; omega, by have := h.blocks; omega, by have := h.used; omega, by have := h.next; omega, h.left⟩
theorem Okn.mono {σ : Sq} {k k' : Nat} (h : Okn σ k) (hk : k ≤ k') : Okn σ k' := ⟨by have := h.lays; omega, by have := h.groups; omega, by have := h.blocks; omega, by have := h.used; omega, h.next, h.left⟩
theorem Okn.lay {fs : List Int} {words : Nat} {σ σ' : Sq} {k n p : Nat} {fs' : List Int} (h : Okn σ k) (hn : n ≤ 4096) (hf : fs.length ≤ 4096) (e : layF fs words σ n = some (p, fs', σ')) : Okn σ' (k + 1) := by
  obtain ⟨a1, a2, a3, a4, a5, a6⟩ := h
  unfold layF at e
  split at e
  · rename_i hb
    rw [Option.map_eq_some_iff] at e
    obtain ⟨⟨q, f, s⟩, he, e⟩ := e
    obtain ⟨h1, h2, h3, h4⟩ := takeF_some he
    have := (findR_mem h1).1
    simp only [Prod.mk.injEq] at e
    obtain ⟨rfl, rfl, rfl⟩ := e
    subst h4
    exact ⟨by simp [fin]; omega, by simp [fin]; omega, by simp [fin]; omega, by simp [fin]; omega, by simp [fin]; omega, by simp [fin]; omega⟩
  · split at e
    · rw [Option.map_eq_some_iff] at e
      obtain ⟨⟨q, f, s⟩, he, e⟩ := e
      obtain ⟨h1, h2, h3, h4⟩ := takeF_some he
      have := (findR_mem h1).1
      simp only [Prod.mk.injEq] at e
      obtain ⟨rfl, rfl, rfl⟩ := e
      subst h4
      exact ⟨by simp [fin]; omega, by simp [fin]; omega, by simp [fin]; omega, by simp [fin]; omega, by simp [fin]; omega, by simp [fin]⟩
    · simp only [Option.some.injEq, Prod.mk.injEq] at e
      obtain ⟨rfl, rfl, rfl⟩ := e
      exact ⟨by simp [fin]; omega, by simp [fin]; omega, by simp [fin]; omega, by simp [fin]; omega, by simp [fin]; omega, by simp [fin]; omega⟩
/-- What Lay answers, and what of the pool and the space it leaves. -/
def layA (fs : List Int) (words : Nat) (σ : Sq) (n : Int) : Nat × Nat × List Int × Sq :=
  if n < 1 ∨ 4096 < n then (0, 7, fs, σ) else match layF fs words σ n.toNat with
    | none => (0, 5, fs, σ)
    | some x => (x.1, 0, x.2.1, x.2.2)
def layX (xs : List Int) (r : Nat × Nat × List Int × Sq) (n : Int) : List Int := if r.2.1 = 0 then Arc.clearV xs r.1 n else xs
theorem layX_length (xs : List Int) (r : Nat × Nat × List Int × Sq) (n : Int) : (layX xs r n).length = xs.length := by
  unfold layX
  split
  · unfold Arc.clearV
    split
    · rename_i h; exact Rw.length_over _ _ _ (by simp; omega)
    · rfl
  · rfl
theorem Okn.layA {fs : List Int} {words : Nat} {σ : Sq} {k : Nat} (h : Okn σ k) (n : Int) (hf : fs.length ≤ 4096) : Okn (S2.layA fs words σ n).2.2.2 (k + 1) := by
  unfold S2.layA
  split
  · exact h.mono (by omega)
  · rename_i hb
    split
    · exact h.mono (by omega)
    · rename_i x hx
      exact Okn.lay (p := x.1) (fs' := x.2.1) h (by omega) hf hx
/-- Two spaces, and blocks Z that nobody touches. -/
structure Sp2 (W w : World) (Z : Nat → Prop) (g a b ga ar s0 s1 : Nat) (fs xs : List Int) (σ0 σ1 : Sq) : Prop where
  env : Env w g a b ga ar fs xs
  sp : ∃ m0 B0 K0 vg va vm m1 B1 K1 ug ua um, Sv w s0 g ga m0 B0 K0 vg va vm σ0 ∧ Sv w s1 g ga m1 B1 K1 ug ua um σ1 ∧ (∀ k, K0 k → ¬ K1 k) ∧ (Dj K0 g a b ga ar ∧ Dj K1 g a b ga ar) ∧ (∀ k, K0 k ∨ K1 k → W.heap.size ≤ k ∧ ¬ Z k)
  zs : ∀ k, Z k → k < w.heap.size ∧ k ≠ a ∧ k ≠ b ∧ k ≠ ar
  own : W.heap.size ≤ a ∧ W.heap.size ≤ b ∧ W.heap.size ≤ ar
  bel : Below W.heap.size W w
theorem Sp2.swap {W w : World} {Z : Nat → Prop} {g a b ga ar s0 s1 : Nat} {fs xs : List Int} {σ0 σ1 : Sq} (h : Sp2 W w Z g a b ga ar s0 s1 fs xs σ0 σ1) : Sp2 W w Z g a b ga ar s1 s0 fs xs σ1 σ0 := by
  obtain ⟨m0, B0, K0, vg, va, vm, m1, B1, K1, ug, ua, um, S0, S1, d, ⟨j0, j1⟩, l⟩ := h.sp
  exact ⟨h.env, ⟨m1, B1, K1, ug, ua, um, m0, B0, K0, vg, va, vm, S1, S0, fun k a b => d k b a, ⟨j1, j0⟩, fun k hk => l k hk.symm⟩, h.zs, h.own, h.bel⟩
theorem Sp2.below {W w w' : World} {Z : Nat → Prop} {g a b ga ar s0 s1 : Nat} {fs xs : List Int} {σ0 σ1 : Sq} (h : Sp2 W w Z g a b ga ar s0 s1 fs xs σ0 σ1) (m : Below w.heap.size w w') : Sp2 W w' Z g a b ga ar s0 s1 fs xs σ0 σ1 := by
  obtain ⟨m0, B0, K0, vg, va, vm, m1, B1, K1, ug, ua, um, S0, S1, d, j, l⟩ := h.sp
  exact ⟨h.env.keepB m, ⟨m0, B0, K0, vg, va, vm, m1, B1, K1, ug, ua, um, S0.keepB m, S1.keepB m, d, j, l⟩, fun k hk => ⟨Nat.lt_of_lt_of_le (h.zs k hk).1 m.size, (h.zs k hk).2⟩, h.own, Kit.stepB h.bel m⟩
/-- What is none of the spaces' stays. -/
def Keep (Z : Nat → Prop) (w w' : World) : Prop := w.heap.size ≤ w'.heap.size ∧ ∀ k, Z k → w'.heap[k]? = w.heap[k]?
set_option maxHeartbeats 1000000 in
theorem lay_it {W w : World} {Z : Nat → Prop} {g a b ga ar s0 s1 : Nat} {fs xs : List Int} {σ0 σ1 : Sq} (h : Sp2 W w Z g a b ga ar s0 s1 fs xs σ0 σ1) (O : Ok σ0) (n : Int) :
    Calls Try.prog 10 #[.pointer (some ⟨s0, 0, none⟩), .int .i64 n] w fun e w' => e = .returned (.tuple #[.int .i64 ((layA fs xs.length σ0 n).1 : Nat), .int .i64 ((layA fs xs.length σ0 n).2.1 : Nat)]) ∧
      Sp2 W w' Z g a b ga ar s0 s1 (layA fs xs.length σ0 n).2.2.1 (layX xs (layA fs xs.length σ0 n) n) (layA fs xs.length σ0 n).2.2.2 σ1 ∧ Keep Z w w' := by
  by_cases hb : n < 1 ∨ 4096 < n
  · have e : layA fs xs.length σ0 n = (0, 7, fs, σ0) := by unfold layA; rw [if_pos hb]
    rw [e]
    have fin : Hid (Sp2 W w Z g a b ga ar s0 s1 fs (layX xs (0, 7, fs, σ0) n) σ0 σ1 ∧ Keep Z w w) := ⟨by unfold layX; rw [if_neg (by simp)]; exact h, Nat.le_refl _, fun _ _ => rfl⟩
    clear h e
    by_cases h0 : n < 1
    · have d1 : decide (n < 1) = true := decide_eq_true h0
      go_enter Try.func10, Try.ntmps10
      go_wp2_with fail
      go_ret2
      exact ⟨rfl, fin.out.1, fin.out.2⟩
    · have d1 : decide (n < 1) = false := decide_eq_false h0
      have d2 : decide (4096 < n) = true := decide_eq_true (by omega)
      go_enter Try.func10, Try.ntmps10
      go_wp2_with fail
      go_ret2
      exact ⟨rfl, fin.out.1, fin.out.2⟩
  · obtain ⟨k, rfl⟩ : ∃ k : Nat, n = k := ⟨n.toNat, by omega⟩
    obtain ⟨m0, B0, K0, vg, va, vm, m1, B1, K1, ug, ua, um, S0, S1, d, ⟨j0, j1⟩, l⟩ := h.sp
    have LI : Calls Try.prog 10 #[.pointer (some ⟨s0, 0, none⟩), .int .i64 k] w (Laid w s0 g a b ga ar m0 B0 K0 fs xs σ0 k) := by
      by_cases c1 : 64 < k
      · exact lay_big w s0 g a b ga ar m0 B0 K0 vg va vm fs xs σ0 k S0 h.env j0 O c1 (by omega)
      · by_cases c2 : σ0.left < k
        · exact lay_new w s0 g a b ga ar m0 B0 K0 vg va vm fs xs σ0 k S0 h.env j0 O (by omega) (by omega) c2
        · exact lay_fits w s0 g a b ga ar m0 B0 K0 vg va vm fs xs σ0 k S0 h.env j0 O (by omega) (by omega) (by omega)
    refine LI.mono ?_
    intro e w' hL
    have own := h.own
    cases hL with
    | no hno S E M =>
      have e : layA fs xs.length σ0 k = (0, 5, fs, σ0) := by unfold layA; rw [if_neg hb, Int.toNat_natCast, hno]
      rw [e]
      refine ⟨rfl, ⟨?_, ⟨m0, B0, K0, _, _, _, m1, B1, K1, ug, ua, um, S, S1.keepP M (fun x hx c => by rcases c with rfl | rfl; exact j1.2.1 hx; exact j1.2.2.1 hx), d, ⟨j0, j1⟩, l⟩, fun x hx => ⟨Nat.lt_of_lt_of_le (h.zs x hx).1 M.size, (h.zs x hx).2⟩, own, Mt.step h.bel M (fun x hx => by omega)⟩, M.size, fun x hx => M.block x (h.zs x hx).1 (by have := (h.zs x hx).2; omega)⟩
      unfold layX; rw [if_neg (by simp)]; exact E
    | @yes _ p fs' σ' vg' va' vm' K' hy S E hk hk2 M =>
      have e : layA fs xs.length σ0 k = (p, 0, fs', σ') := by unfold layA; rw [if_neg hb, Int.toNat_natCast, hy]
      rw [e]
      have hz := h.bel.size
      have lw : ∀ x, K' x → W.heap.size ≤ x ∧ ¬ Z x := fun x hx => by
        rcases hk x hx with c | c
        · exact l x (.inl c)
        · exact ⟨by omega, fun z => by have := (h.zs x z).1; omega⟩
      have dj : ∀ x, x < w.heap.size → ¬ K0 x → ¬ K' x := fun x hx hn c => by
        rcases hk x c with c | c
        · exact hn c
        · omega
      obtain ⟨ms, P, WF⟩ := h.env.pool
      refine ⟨rfl, ⟨?_, ⟨m0, B0, K', vg', va', vm', m1, B1, K1, ug, ua, um, S, S1.keepP M (fun x hx c => ?_), fun x hx c => ?_, ⟨⟨dj g (Kit.lt_of P.obj) j0.1, dj a (Kit.lt_of P.one) j0.2.1, dj b (Kit.lt_of P.two) j0.2.2.1, dj ga (Kit.lt_of h.env.arena.obj) j0.2.2.2.1, dj ar (Kit.lt_of h.env.arena.row) j0.2.2.2.2⟩, j1⟩, fun x hx => ?_⟩, fun x hx => ⟨Nat.lt_of_lt_of_le (h.zs x hx).1 M.size, (h.zs x hx).2⟩, own, Mt.step h.bel M (fun x hx => ?_)⟩, M.size, fun x hx => M.block x (h.zs x hx).1 (fun c => ?_)⟩
      · unfold layX; rw [if_pos rfl]; exact E
      · rcases c with c | rfl | rfl | rfl
        · exact d x c hx
        · exact j1.2.1 hx
        · exact j1.2.2.1 hx
        · exact j1.2.2.2.2 hx
      · rcases hk x hx with h' | h'
        · exact d x h' c
        · have := S1.low x c; omega
      · rcases hx with hx | hx
        · exact lw x hx
        · exact l x (.inr hx)
      · rcases hx with hx | hx
        · exact (l x (.inl hx)).1
        · omega
      · rcases c with c | c
        · exact (l x (.inl c)).2 hx
        · have := (h.zs x hx).2; omega
/-- Of what made leaves. -/
theorem Sp2.made {W w : World} {N words wd g a b ga ar s0 m0 s1 m1 x0 x1 y ry cy : Nat} {K0 K1 : Nat → Prop} (M : Made W w N words wd g a b ga ar s0 m0 s1 m1 x0 x1 y ry cy K0 K1) : Sp2 W w (fun k => k = wd ∨ k = x0 ∨ k = x1 ∨ k = y ∨ k = ry) g a b ga ar s0 s1 (fs0 N) (List.replicate words 0) Sq.new Sq.new := by
  obtain ⟨B0, S0⟩ := M.sp0
  obtain ⟨B1, S1⟩ := M.sp1
  have xn := M.xn
  refine ⟨M.env, ⟨m0, B0, K0, _, _, _, m1, B1, K1, _, _, _, S0, S1, M.k01, M.dj, fun k hk => ⟨M.low k (hk.elim (fun c => .inl c) (fun c => .inr (.inl c))), fun z => ?_⟩⟩, fun k hk => ⟨?_, ?_⟩, ⟨M.low a (by simp), M.low b (by simp), M.low ar (by simp)⟩, M.bel⟩
  · rcases z with rfl | z
    · rcases hk with hk | hk
      · exact M.kw.1 hk
      · exact M.kw.2 hk
    · have := xn k (by omega)
      rcases hk with hk | hk
      · exact this.1 hk
      · exact this.2.1 hk
  · rcases hk with rfl | rfl | rfl | rfl | rfl
    · exact Kit.lt_of M.obj
    · exact Kit.lt_of M.rx0
    · exact Kit.lt_of M.rx1
    · exact Kit.lt_of M.rp.obj
    · obtain ⟨cur, hc, _⟩ := M.rp.row
      exact Kit.lt_of hc
  · rcases hk with rfl | hk
    · exact M.wn
    · have := xn k (by omega); omega
end Go.Proofs.Ytladhenjoipfpaa.S2
