/- One space of a pool, alone; two such, apart. No condition. -/
import Derived.Test.YtladhenjoipfpaaFs
set_option linter.unusedVariables false
set_option linter.unusedSimpArgs false
namespace Go.Proofs.Ytladhenjoipfpaa.On
open Go.RowKit
open Pl Rn Ov Lf Wl Gp Ct Sn Gq Tf Mt Rr Kp Sc Nn Tk La Rp Rq Mb S2 Ak Fr Fs
structure One (w : World) (own : Nat → Prop) (g a b ga ar s : Nat) (fs xs : List Int) (σ : Sq) : Prop where
  env : Env w g a b ga ar fs xs
  sp : ∃ m B K vg va vm, Sv w s g ga m B K vg va vm σ ∧ Dj K g a b ga ar ∧ ∀ k, K k → own k
  own5 : own g ∧ own a ∧ own b ∧ own ga ∧ own ar
  lt : ∀ k, own k → k < w.heap.size
section
variable {w w' : World} {own K' : Nat → Prop} {g a b ga ar s : Nat} {fs xs : List Int} {σ : Sq}
theorem One.keepP (h : One w own g a b ga ar s fs xs σ) (m : ModP K' w w') (hd : ∀ k, own k → ¬ K' k) : One w' own g a b ga ar s fs xs σ := by
  obtain ⟨m0, B, K, vg, va, vm, S, D, k⟩ := h.sp
  have o := h.own5
  exact ⟨h.env.keepP m ⟨hd _ o.1, hd _ o.2.1, hd _ o.2.2.1, hd _ o.2.2.2.1, hd _ o.2.2.2.2⟩, ⟨m0, B, K, vg, va, vm, S.keepP m (fun x hx => hd x (k x hx)), D, k⟩, o, fun k hk => Nat.lt_of_lt_of_le (h.lt k hk) m.size⟩
theorem One.lay (h : One w own g a b ga ar s fs xs σ) (O : Ok σ) (n : Int) :
    Calls Try.prog 10 #[.pointer (some ⟨s, 0, none⟩), .int .i64 n] w fun e w' => e = .returned (.tuple #[.int .i64 ((layA fs xs.length σ n).1 : Nat), .int .i64 ((layA fs xs.length σ n).2.1 : Nat)]) ∧
      (∃ own', One w' own' g a b ga ar s (layA fs xs.length σ n).2.2.1 (layX xs (layA fs xs.length σ n) n) (layA fs xs.length σ n).2.2.2 ∧ ∀ k, own' k → own k ∨ w.heap.size ≤ k) ∧ ModP own w w' := by
  obtain ⟨m0, B0, K0, vg, va, vm, S0, j0, hk0⟩ := h.sp
  have o5 := h.own5
  by_cases hb : n < 1 ∨ 4096 < n
  · have e : layA fs xs.length σ n = (0, 7, fs, σ) := by unfold layA; rw [if_pos hb]
    rw [e]
    have fin : Hid ((∃ own', One w own' g a b ga ar s fs (layX xs (0, 7, fs, σ) n) σ ∧ ∀ k, own' k → own k ∨ w.heap.size ≤ k) ∧ ModP own w w) :=
      ⟨⟨own, by unfold layX; rw [if_neg (by simp)]; exact h, fun k hk => .inl hk⟩, ModP.refl _ _⟩
    clear h e S0
    by_cases h0 : n < 1
    · have d1 : decide (n < 1) = true := decide_eq_true h0
      go_enter Try.func10, Try.ntmps10
      go_wp2_with fail
      go_ret2
      exact ⟨rfl, fin.out⟩
    · have d1 : decide (n < 1) = false := decide_eq_false h0
      have d2 : decide (4096 < n) = true := decide_eq_true (by omega)
      go_enter Try.func10, Try.ntmps10
      go_wp2_with fail
      go_ret2
      exact ⟨rfl, fin.out⟩
  · obtain ⟨k, rfl⟩ : ∃ k : Nat, n = k := ⟨n.toNat, by omega⟩
    have LI : Calls Try.prog 10 #[.pointer (some ⟨s, 0, none⟩), .int .i64 k] w (Laid w s g a b ga ar m0 B0 K0 fs xs σ k) := by
      by_cases c1 : 64 < k
      · exact lay_big w s g a b ga ar m0 B0 K0 vg va vm fs xs σ k S0 h.env j0 O c1 (by omega)
      · by_cases c2 : σ.left < k
        · exact lay_new w s g a b ga ar m0 B0 K0 vg va vm fs xs σ k S0 h.env j0 O (by omega) (by omega) c2
        · exact lay_fits w s g a b ga ar m0 B0 K0 vg va vm fs xs σ k S0 h.env j0 O (by omega) (by omega) (by omega)
    refine LI.mono ?_
    intro e w' hL
    cases hL with
    | no hno S E M =>
      have e : layA fs xs.length σ k = (0, 5, fs, σ) := by unfold layA; rw [if_neg hb, Int.toNat_natCast, hno]
      rw [e]
      refine ⟨rfl, ⟨own, ⟨?_, ⟨m0, B0, K0, _, _, _, S, j0, hk0⟩, o5, fun x hx => Nat.lt_of_lt_of_le (h.lt x hx) M.size⟩, fun x hx => .inl hx⟩, M.weaken (fun x _ hx => by rcases hx with rfl | rfl; exact o5.2.1; exact o5.2.2.1)⟩
      unfold layX; rw [if_neg (by simp)]; exact E
    | @yes _ p fs' σ' vg' va' vm' K' hy S E hk hk2 M =>
      have e : layA fs xs.length σ k = (p, 0, fs', σ') := by unfold layA; rw [if_neg hb, Int.toNat_natCast, hy]
      rw [e]
      have dj : ∀ x, x < w.heap.size → ¬ K0 x → ¬ K' x := fun x hx hn c => by
        rcases hk x c with c | c
        · exact hn c
        · omega
      refine ⟨rfl, ⟨fun x => own x ∨ K' x, ⟨?_, ⟨m0, B0, K', vg', va', vm', S, ⟨dj g (h.lt g o5.1) j0.1, dj a (h.lt a o5.2.1) j0.2.1, dj b (h.lt b o5.2.2.1) j0.2.2.1, dj ga (h.lt ga o5.2.2.2.1) j0.2.2.2.1, dj ar (h.lt ar o5.2.2.2.2) j0.2.2.2.2⟩, fun x hx => .inr hx⟩, ⟨.inl o5.1, .inl o5.2.1, .inl o5.2.2.1, .inl o5.2.2.2.1, .inl o5.2.2.2.2⟩, fun x hx => ?_⟩, fun x hx => ?_⟩, M.weaken (fun x _ hx => ?_)⟩
      · unfold layX; rw [if_pos rfl]; exact E
      · rcases hx with hx | hx
        · exact Nat.lt_of_lt_of_le (h.lt x hx) M.size
        · exact S.low x hx
      · rcases hx with hx | hx
        · exact .inl hx
        · rcases hk x hx with c | c
          · exact .inl (hk0 x c)
          · exact .inr c
      · rcases hx with hx | rfl | rfl | rfl
        · exact hk0 x hx
        · exact o5.2.1
        · exact o5.2.2.1
        · exact o5.2.2.2.2
theorem One.free (h : One w own g a b ga ar s fs xs σ) (hl : σ.groups.length ≤ 1000000) :
    Calls Try.prog 21 #[.pointer (some ⟨s, 0, none⟩)] w fun e w' => e = .returned (.int .i64 0) ∧
      (∃ own', One w' own' g a b ga ar s (freeAll fs σ.groups) xs Sq.new ∧ ∀ k, own' k → own k ∨ w.heap.size ≤ k) ∧ ModP own w w' := by
  obtain ⟨m0, B0, K0, vg, va, vm, S0, j0, hk0⟩ := h.sp
  have o5 := h.own5
  refine (sfree_it w s g a b ga ar m0 B0 K0 vg va vm fs xs σ S0 h.env j0 hl).mono ?_
  rintro e w' ⟨rfl, m', hm, S, E, M⟩
  have ks := S0.ks.1
  have dj : ∀ x, x < w.heap.size → ¬ K0 x → ¬ (x = s ∨ x = m') := fun x hx hn c => by
    rcases c with rfl | rfl
    · exact hn ks
    · omega
  refine ⟨rfl, ⟨fun x => own x ∨ x = m', ⟨E, ⟨m', B0, _, _, _, _, S, ⟨dj g (h.lt g o5.1) j0.1, dj a (h.lt a o5.2.1) j0.2.1, dj b (h.lt b o5.2.2.1) j0.2.2.1, dj ga (h.lt ga o5.2.2.2.1) j0.2.2.2.1, dj ar (h.lt ar o5.2.2.2.2) j0.2.2.2.2⟩, fun x hx => ?_⟩, ⟨.inl o5.1, .inl o5.2.1, .inl o5.2.2.1, .inl o5.2.2.2.1, .inl o5.2.2.2.2⟩, fun x hx => ?_⟩, fun x hx => ?_⟩, M.weaken (fun x _ hx => ?_)⟩
  · rcases hx with rfl | rfl
    · exact .inl (hk0 _ ks)
    · exact .inr rfl
  · rcases hx with hx | rfl
    · exact Nat.lt_of_lt_of_le (h.lt x hx) M.size
    · exact S.low _ (.inr rfl)
  · rcases hx with hx | rfl
    · exact .inl hx
    · exact .inr hm
  · rcases hx with rfl | rfl | rfl
    · exact hk0 _ ks
    · exact o5.2.1
    · exact o5.2.2.1
end
/-- Of what made leaves: the first space, alone. -/
theorem One.made {W w : World} {N words wd g a b ga ar s0 m0 s1 m1 x0 x1 y ry cy : Nat} {K0 K1 : Nat → Prop} (M : Made W w N words wd g a b ga ar s0 m0 s1 m1 x0 x1 y ry cy K0 K1) :
    One w (fun k => K0 k ∨ k = g ∨ k = a ∨ k = b ∨ k = ga ∨ k = ar) g a b ga ar s0 (fs0 N) (List.replicate words 0) Sq.new := by
  obtain ⟨B0, S0⟩ := M.sp0
  obtain ⟨ms, P, _⟩ := M.env.pool
  refine ⟨M.env, ⟨m0, B0, K0, _, _, _, S0, M.dj.1, fun k hk => .inl hk⟩, by simp, fun k hk => ?_⟩
  rcases hk with hk | rfl | rfl | rfl | rfl | rfl
  · exact S0.low k hk
  · exact Kit.lt_of P.obj
  · exact Kit.lt_of P.one
  · exact Kit.lt_of P.two
  · exact Kit.lt_of M.env.arena.obj
  · exact Kit.lt_of M.env.arena.row
/-- The blocks of a world of the law's. -/
structure Ids where
  wd : Nat
  g : Nat
  a : Nat
  b : Nat
  ga : Nat
  ar : Nat
  s : Nat
  s1 : Nat
  x0 : Nat
  x1 : Nat
structure Side (W w : World) (I : Ids) (own : Nat → Prop) (fs xs : List Int) (σ : Sq) : Prop where
  one : One w own I.g I.a I.b I.ga I.ar I.s fs xs σ
  obj : w.heap[I.wd]? = some (.cells #[.pointer (some ⟨I.g, 0, none⟩), .pointer (some ⟨I.ga, 0, none⟩), .pointer (some ⟨I.s, 0, none⟩), .pointer (some ⟨I.s1, 0, none⟩), .pointer (some ⟨I.x0, 0, none⟩), .pointer (some ⟨I.x1, 0, none⟩)] 33 (0, 0))
  nwd : ¬ own I.wd
  low : ∀ k, own k → W.heap.size ≤ k
theorem Side.keepP {W w w' : World} {I : Ids} {own K' : Nat → Prop} {fs xs : List Int} {σ : Sq} (h : Side W w I own fs xs σ) (m : ModP K' w w') (hd : ∀ k, own k ∨ k = I.wd → ¬ K' k) : Side W w' I own fs xs σ :=
  ⟨h.one.keepP m (fun k hk => hd k (.inl hk)), (m.block I.wd (Kit.lt_of h.obj) (hd I.wd (.inr rfl))).trans h.obj, h.nwd, h.low⟩
theorem Side.made {W w : World} {N words wd g a b ga ar s0 m0 s1 m1 x0 x1 y ry cy : Nat} {K0 K1 : Nat → Prop} (M : Made W w N words wd g a b ga ar s0 m0 s1 m1 x0 x1 y ry cy K0 K1) :
    Side W w ⟨wd, g, a, b, ga, ar, s0, s1, x0, x1⟩ (fun k => K0 k ∨ k = g ∨ k = a ∨ k = b ∨ k = ga ∨ k = ar) (fs0 N) (List.replicate words 0) Sq.new := by
  obtain ⟨ms, P, _⟩ := M.env.pool
  refine ⟨One.made M, M.obj, fun c => ?_, fun k hk => ?_⟩
  · simp only at c
    have wn := M.wn
    have ob := M.obj
    rcases c with c | c | c | c | c | c
    · exact M.kw.1 c
    · subst c
      have := P.obj
      rw [ob] at this
      cases this
    · omega
    · omega
    · subst c
      have := M.env.arena.obj
      rw [ob] at this
      cases this
    · omega
  · exact M.low k (by rcases hk with h | h; exact .inl h; exact .inr (.inr (.inr (by omega))))
/-- Two worlds of the law's, apart. -/
structure Pair (W w : World) (I J : Ids) (fs xs : List Int) (σ : Sq) (fs' xs' : List Int) (σ' : Sq) : Prop where
  ex : ∃ own own', Side W w I own fs xs σ ∧ Side W w J own' fs' xs' σ' ∧ (∀ k, own k → ¬ own' k) ∧ ¬ own J.wd ∧ ¬ own' I.wd
  bel : Below W.heap.size W w
section
variable {W w w' : World} {I J : Ids} {fs xs fs' xs' : List Int} {σ σ' : Sq}
theorem Pair.swap (h : Pair W w I J fs xs σ fs' xs' σ') : Pair W w J I fs' xs' σ' fs xs σ := by
  obtain ⟨o, o', A, B, d, n1, n2⟩ := h.ex
  exact ⟨⟨o', o, B, A, fun k a b => d k b a, n2, n1⟩, h.bel⟩
theorem Pair.objs (h : Pair W w I J fs xs σ fs' xs' σ') : w.heap[I.wd]? = some (.cells #[.pointer (some ⟨I.g, 0, none⟩), .pointer (some ⟨I.ga, 0, none⟩), .pointer (some ⟨I.s, 0, none⟩), .pointer (some ⟨I.s1, 0, none⟩), .pointer (some ⟨I.x0, 0, none⟩), .pointer (some ⟨I.x1, 0, none⟩)] 33 (0, 0)) := by
  obtain ⟨o, o', A, B, _⟩ := h.ex
  exact A.obj
theorem Pair.below (h : Pair W w I J fs xs σ fs' xs' σ') (m : Below w.heap.size w w') : Pair W w' I J fs xs σ fs' xs' σ' := by
  obtain ⟨o, o', A, B, d, n1, n2⟩ := h.ex
  have M : ModP (fun _ => False) w w' := ModP.of_below m
  exact ⟨⟨o, o', A.keepP M (fun _ _ c => c), B.keepP M (fun _ _ c => c), d, n1, n2⟩, Kit.stepB h.bel m⟩
/-- A call to the first world's space leaves both apart. -/
theorem Pair.step {fs2 xs2 : List Int} {σ2 : Sq} {own own' own2 : Nat → Prop} (A : Side W w I own fs xs σ) (B : Side W w J own' fs' xs' σ') (d : ∀ k, own k → ¬ own' k) (n1 : ¬ own J.wd) (n2 : ¬ own' I.wd) (hb : Below W.heap.size W w)
    (O : One w' own2 I.g I.a I.b I.ga I.ar I.s fs2 xs2 σ2) (hk : ∀ k, own2 k → own k ∨ w.heap.size ≤ k) (M : ModP own w w') : Pair W w' I J fs2 xs2 σ2 fs' xs' σ' := by
  have hs := hb.size
  have lI := Kit.lt_of A.obj
  have lJ := Kit.lt_of B.obj
  refine ⟨⟨own2, own', ⟨O, (M.block _ lI A.nwd).trans A.obj, fun c => ?_, fun k hk2 => ?_⟩, B.keepP M (fun k hk2 c => ?_), fun k c c' => ?_, fun c => ?_, n2⟩, Mt.step hb M A.low⟩
  · rcases hk _ c with c | c
    · exact A.nwd c
    · omega
  · rcases hk k hk2 with c | c
    · exact A.low k c
    · omega
  · rcases hk2 with c2 | rfl
    · exact d k c c2
    · exact n1 c
  · rcases hk k c with c2 | c2
    · exact d k c2 c'
    · have := B.one.lt k c'; omega
  · rcases hk _ c with c | c
    · exact n1 c
    · omega
theorem Pair.lay (h : Pair W w I J fs xs σ fs' xs' σ') (O : Ok σ) (n : Int) :
    Calls Try.prog 10 #[.pointer (some ⟨I.s, 0, none⟩), .int .i64 n] w fun e w' => e = .returned (.tuple #[.int .i64 ((layA fs xs.length σ n).1 : Nat), .int .i64 ((layA fs xs.length σ n).2.1 : Nat)]) ∧
      Pair W w' I J (layA fs xs.length σ n).2.2.1 (layX xs (layA fs xs.length σ n) n) (layA fs xs.length σ n).2.2.2 fs' xs' σ' := by
  obtain ⟨o, o', A, B, d, n1, n2⟩ := h.ex
  refine (A.one.lay O n).mono ?_
  rintro e w' ⟨rfl, ⟨own2, O2, hk⟩, M⟩
  exact ⟨rfl, Pair.step A B d n1 n2 h.bel O2 hk M⟩
theorem Pair.free (h : Pair W w I J fs xs σ fs' xs' σ') (hl : σ.groups.length ≤ 1000000) :
    Calls Try.prog 21 #[.pointer (some ⟨I.s, 0, none⟩)] w fun e w' => e = .returned (.int .i64 0) ∧ Pair W w' I J (freeAll fs σ.groups) xs Sq.new fs' xs' σ' := by
  obtain ⟨o, o', A, B, d, n1, n2⟩ := h.ex
  refine (A.one.free hl).mono ?_
  rintro e w' ⟨rfl, ⟨own2, O2, hk⟩, M⟩
  exact ⟨rfl, Pair.step A B d n1 n2 h.bel O2 hk M⟩
theorem Pair.left (h : Pair W w I J fs xs σ fs' xs' σ') :
    Calls Try.prog 22 #[.pointer (some ⟨I.g, 0, none⟩)] w fun e w' => e = .returned (.int .i64 (sumR (runsFrom fs 0) : Nat)) ∧ Pair W w' I J fs xs σ fs' xs' σ' := by
  obtain ⟨o, o', A, B, d, n1, n2⟩ := h.ex
  obtain ⟨ms, P, WF⟩ := A.one.env.pool
  refine (left_it w I.g I.a I.b fs ms WF P).mono ?_
  rintro e w' ⟨rfl, b'⟩
  exact ⟨rfl, h.below b'⟩
theorem Pair.used (h : Pair W w I J fs xs Sq.new fs' xs' σ') : Calls Try.prog 12 #[.pointer (some ⟨I.s, 0, none⟩)] w fun e w' => e = .returned (.int .i64 0) ∧ w' = w := by
  obtain ⟨o, o', A, B, d, n1, n2⟩ := h.ex
  obtain ⟨m0, B0, K0, vg, va, vm, S0, j0, hk0⟩ := A.one.sp
  exact used_it S0
theorem Pair.blocks (h : Pair W w I J fs xs Sq.new fs' xs' σ') : Calls Try.prog 11 #[.pointer (some ⟨I.s, 0, none⟩)] w fun e w' => e = .returned (.int .i64 0) ∧ w' = w := by
  obtain ⟨o, o', A, B, d, n1, n2⟩ := h.ex
  obtain ⟨m0, B0, K0, vg, va, vm, S0, j0, hk0⟩ := A.one.sp
  exact blocks_it S0
theorem Pair.made {w1 : World} {N words wd g a b ga ar s0 m0 s1 m1 x0 x1 y ry cy : Nat} {K0 K1 : Nat → Prop} {own : Nat → Prop} (A : Side W w1 I own fs xs σ) (hb : Below W.heap.size W w1) (M : Made w1 w N words wd g a b ga ar s0 m0 s1 m1 x0 x1 y ry cy K0 K1) :
    Pair W w I ⟨wd, g, a, b, ga, ar, s0, s1, x0, x1⟩ fs xs σ (fs0 N) (List.replicate words 0) Sq.new := by
  have S := Side.made M
  have hz := hb.size
  have MM : ModP (fun _ => False) w1 w := ModP.of_below M.bel
  have lw := M.low wd (by simp)
  refine ⟨⟨own, _, A.keepP MM (fun _ _ c => c), ⟨S.one, S.obj, S.nwd, fun k hk => by have := S.low k hk; omega⟩, fun k c c' => ?_, fun c => ?_, fun c => ?_⟩, Kit.stepB hb M.bel⟩
  · have := A.one.lt k c
    have := S.low k c'
    omega
  · have := A.one.lt _ c
    simp only at this
    omega
  · have := Kit.lt_of A.obj
    have := S.low _ c
    omega
end
end Go.Proofs.Ytladhenjoipfpaa.On
