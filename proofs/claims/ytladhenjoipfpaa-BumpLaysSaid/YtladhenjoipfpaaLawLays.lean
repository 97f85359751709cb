/- Every call of two spaces of one pool is answered as the document says: the law BumpLays. No condition. -/
import Derived.Test.YtladhenjoipfpaaLt
import Derived.Test.YtladhenjoipfpaaAc
set_option linter.unusedVariables false
set_option linter.unusedSimpArgs false
namespace Go.Proofs.Ytladhenjoipfpaa.LawLays
open Go.RowKit
open Pl Rn Ov Lf Wl Gp Ct Sn Gq Tf Mt Rr Kp Sc Nn Tk La Rp Rq Mb S2 Ak Fr Fs On Xr Rf Ry Rz Ra Aq Lb Lt
theorem colours {K0 K1 : Nat → Prop} {wd g a b ga ar x0 x1 y ry : Nat} (k01 : ∀ k, K0 k → ¬ K1 k) (n0 : ¬ K0 x0 ∧ ¬ K1 x0) (n1 : ¬ K0 x1 ∧ ¬ K1 x1) (n2 : ¬ K0 y ∧ ¬ K1 y) (n3 : ¬ K0 ry ∧ ¬ K1 ry) (kw : ¬ K0 wd ∧ ¬ K1 wd)
    (k5 : ∀ k, (k = g ∨ k = a ∨ k = b ∨ k = ga ∨ k = ar) → ¬ K0 k ∧ ¬ K1 k ∧ k ≠ x0 ∧ k ≠ x1 ∧ k ≠ y ∧ k ≠ ry ∧ k ≠ wd) (xx : x0 ≠ x1 ∧ x0 ≠ y ∧ x0 ≠ ry ∧ x1 ≠ y ∧ x1 ≠ ry) (xw : x0 ≠ wd ∧ x1 ≠ wd ∧ y ≠ wd ∧ ry ≠ wd) :
    ∃ c : Nat → Nat, (∀ k, K0 k → c k = 1) ∧ (∀ k, K1 k → c k = 2) ∧ c x0 = 3 ∧ c x1 = 4 ∧ c y = 5 ∧ c ry = 5 ∧ (∀ k, (k = g ∨ k = a ∨ k = b ∨ k = ga ∨ k = ar) → c k = 6) ∧ (∀ k, c k = 6 → k = g ∨ k = a ∨ k = b ∨ k = ga ∨ k = ar) ∧ c wd = 7 ∧
      ∀ k, c k ≠ 0 → K0 k ∨ K1 k ∨ k = wd ∨ k = g ∨ k = a ∨ k = b ∨ k = ga ∨ k = ar ∨ k = x0 ∨ k = x1 ∨ k = y ∨ k = ry := by
  classical
  refine ⟨fun k => if K0 k then 1 else if K1 k then 2 else if k = x0 then 3 else if k = x1 then 4 else if k = y ∨ k = ry then 5 else if k = g ∨ k = a ∨ k = b ∨ k = ga ∨ k = ar then 6 else if k = wd then 7 else 0, fun k h => if_pos h, fun k h => ?_, ?_, ?_, ?_, ?_, fun k h => ?_, fun k h => ?_, ?_, fun k h => ?_⟩
  · simp only
    rw [if_neg (fun q => k01 k q h), if_pos h]
  · simp only
    rw [if_neg n0.1, if_neg n0.2, if_pos trivial]
  · simp only
    rw [if_neg n1.1, if_neg n1.2, if_neg (by omega), if_pos trivial]
  · simp only
    rw [if_neg n2.1, if_neg n2.2, if_neg (by omega), if_neg (by omega), if_pos (by simp)]
  · simp only
    rw [if_neg n3.1, if_neg n3.2, if_neg (by omega), if_neg (by omega), if_pos (by simp)]
  · obtain ⟨q0, q1, q2, q3, q4, q5, q6⟩ := k5 k h
    simp only
    rw [if_neg q0, if_neg q1, if_neg q2, if_neg q3, if_neg (by omega), if_pos h]
  · simp only at h
    by_cases q0 : K0 k
    · rw [if_pos q0] at h; omega
    · rw [if_neg q0] at h
      by_cases q1 : K1 k
      · rw [if_pos q1] at h; omega
      · rw [if_neg q1] at h
        by_cases z : k = g ∨ k = a ∨ k = b ∨ k = ga ∨ k = ar
        · exact z
        · exfalso
          split at h
          · omega
          · split at h
            · omega
            · split at h
              · omega
              · split at h <;> omega
  · have hw : ¬ (wd = g ∨ wd = a ∨ wd = b ∨ wd = ga ∨ wd = ar) := fun q => (k5 wd q).2.2.2.2.2.2 rfl
    simp only
    rw [if_neg kw.1, if_neg kw.2, if_neg (by omega), if_neg (by omega), if_neg (by omega), if_neg hw, if_pos trivial]
  · simp only at h
    by_cases q0 : K0 k
    · exact .inl q0
    · by_cases q1 : K1 k
      · exact .inr (.inl q1)
      · right; right
        rw [if_neg q0, if_neg q1] at h
        by_cases z : k = wd ∨ k = g ∨ k = a ∨ k = b ∨ k = ga ∨ k = ar ∨ k = x0 ∨ k = x1 ∨ k = y ∨ k = ry
        · exact z
        · exfalso
          rw [if_neg (by omega), if_neg (by omega), if_neg (by omega), if_neg (by omega), if_neg (by omega)] at h
          exact h rfl
theorem ne5 {k x g a b ga ar : Nat} (p : x ≠ g ∧ x ≠ a ∧ x ≠ b ∧ x ≠ ga ∧ x ≠ ar) (hk : k = g ∨ k = a ∨ k = b ∨ k = ga ∨ k = ar) : k ≠ x := by
  rintro rfl
  rcases hk with h | h | h | h | h
  · exact p.1 h
  · exact p.2.1 h
  · exact p.2.2.1 h
  · exact p.2.2.2.1 h
  · exact p.2.2.2.2 h
/-- Of what made leaves. -/
theorem made_bo {W w : World} {N words wd g a b ga ar s0 m0 s1 m1 x0 x1 y ry cy : Nat} {K0 K1 : Nat → Prop} (M : Made W w N words wd g a b ga ar s0 m0 s1 m1 x0 x1 y ry cy K0 K1) :
    Bo W w (Fw wd g ga s0 s1 x0 x1) ⟨g, a, b, ga, ar, y, ry, cy, words⟩ s0 s1 x0 x1 0 := by
  obtain ⟨B0, S0⟩ := M.sp0
  obtain ⟨B1, S1⟩ := M.sp1
  obtain ⟨ms, P, WF⟩ := M.env.pool
  have xn := M.xn
  have n0 := xn x0 (.inl rfl)
  have n1 := xn x1 (.inr (.inl rfl))
  have n2 := xn y (.inr (.inr (.inl rfl)))
  have n3 := xn ry (.inr (.inr (.inr rfl)))
  have xx := M.xx
  have wn := M.wn
  have wg : wd ≠ g := fun e => by subst e; have := M.obj; rw [P.obj] at this; cases this
  have wga : wd ≠ ga := fun e => by subst e; have := M.obj; rw [M.env.arena.obj] at this; cases this
  have d0 := M.dj.1
  have d1 := M.dj.2
  obtain ⟨cur, hcur, _⟩ := M.rp.row
  obtain ⟨c, c1, c2, c3, c4, c5, c5', c6, c6', c7, cl⟩ := colours (K0 := K0) (K1 := K1) (wd := wd) (g := g) (a := a) (b := b) (ga := ga) (ar := ar) (x0 := x0) (x1 := x1) (y := y) (ry := ry) M.k01 ⟨n0.1, n0.2.1⟩ ⟨n1.1, n1.2.1⟩ ⟨n2.1, n2.2.1⟩ ⟨n3.1, n3.2.1⟩ M.kw
    (fun k hk => by
      refine ⟨?_, ?_, ?_⟩
      · rcases hk with rfl | rfl | rfl | rfl | rfl
        · exact d0.1
        · exact d0.2.1
        · exact d0.2.2.1
        · exact d0.2.2.2.1
        · exact d0.2.2.2.2
      · rcases hk with rfl | rfl | rfl | rfl | rfl
        · exact d1.1
        · exact d1.2.1
        · exact d1.2.2.1
        · exact d1.2.2.2.1
        · exact d1.2.2.2.2
      · exact ⟨ne5 n0.2.2.2 hk, ne5 n1.2.2.2 hk, ne5 n2.2.2.2 hk, ne5 n3.2.2.2 hk, ne5 ⟨wg, wn.1, wn.2.1, wga, wn.2.2⟩ hk⟩) xx ⟨n0.2.2.1, n1.2.2.1, n2.2.2.1, n3.2.2.1⟩
  refine ⟨fs0 N, List.replicate words 0, Sq.new, Sq.new, ⟨c, ⟨m0, B0, K0, _, _, _, S0, c1⟩, ⟨m1, B1, K1, _, _, _, S1, c2⟩, ⟨_, Xs.new M.rx0, fun k hk => by subst hk; exact c3⟩, ⟨_, Xs.new M.rx1, fun k hk => by subst hk; exact c4⟩, ⟨M.rp, c5, c5'⟩,
    ⟨M.env, ⟨c6 _ (by simp), c6 _ (by simp), c6 _ (by simp), c6 _ (by simp), c6 _ (by simp)⟩, c6'⟩, fun k o f => ⟨by rw [f.1, f.2]; exact M.obj, by rw [f.1]; exact c7⟩, fun k hk => ?_, M.bel⟩, by simp, ⟨Okn.new, Okn.new⟩, Iu.new, Iu.new⟩
  rcases cl k hk with q | q | hh
  · exact ⟨M.low k (.inl q), S0.low k q⟩
  · exact ⟨M.low k (.inr (.inl q)), S1.low k q⟩
  · refine ⟨M.low k (.inr (.inr hh)), ?_⟩
    rcases hh with rfl | rfl | rfl | rfl | rfl | rfl | rfl | rfl | rfl | rfl
    · exact Kit.lt_of M.obj
    · exact Kit.lt_of P.obj
    · exact Kit.lt_of P.one
    · exact Kit.lt_of P.two
    · exact Kit.lt_of M.env.arena.obj
    · exact Kit.lt_of M.env.arena.row
    · exact Kit.lt_of M.rx0
    · exact Kit.lt_of M.rx1
    · exact Kit.lt_of M.rp.obj
    · exact Kit.lt_of hcur
theorem do_any {W w : World} {I : Ix} {wd g ga S0 S1 X0 X1 j : Nat} (h : Bo W w (Fw wd g ga S0 S1 X0 X1) I S0 S1 X0 X1 j) (hj : j ≤ 800) (k n : Int) (hn : (Lit.int .i64 n).wf = true) (two : Bool) :
    Calls Try.prog 23 #[.pointer (some ⟨wd, 0, none⟩), .agg #[.int .i64 k, .int .i64 n, .bool two]] w fun e w' => e = .returned (.bool true) ∧ Bo W w' (Fw wd g ga S0 S1 X0 X1) I S0 S1 X0 X1 (j + 1) := by
  cases two with
  | false =>
    by_cases h1 : k = 0 ∨ k = 1 ∨ k = 2
    · exact do_lay h hj k n false (.inl ⟨rfl, rfl, rfl⟩) h1
    · by_cases h2 : k = 3
      · subst h2; exact do_free h hj n false (.inl ⟨rfl, rfl, rfl⟩)
      · exact do_has h hj k n hn false (.inl ⟨rfl, rfl, rfl⟩) ⟨fun e => h1 (.inl e), fun e => h1 (.inr (.inl e)), fun e => h1 (.inr (.inr e)), h2⟩
  | true =>
    have R : Calls Try.prog 23 #[.pointer (some ⟨wd, 0, none⟩), .agg #[.int .i64 k, .int .i64 n, .bool true]] w fun e w' => e = .returned (.bool true) ∧ Bo W w' (Fw wd g ga S0 S1 X0 X1) I S1 S0 X1 X0 (j + 1) := by
      by_cases h1 : k = 0 ∨ k = 1 ∨ k = 2
      · exact do_lay h.swap hj k n true (.inr ⟨rfl, rfl, rfl⟩) h1
      · by_cases h2 : k = 3
        · subst h2; exact do_free h.swap hj n true (.inr ⟨rfl, rfl, rfl⟩)
        · exact do_has h.swap hj k n hn true (.inr ⟨rfl, rfl, rfl⟩) ⟨fun e => h1 (.inl e), fun e => h1 (.inr (.inl e)), fun e => h1 (.inr (.inr e)), h2⟩
    exact R.mono fun e w' ⟨a, b⟩ => ⟨a, b.swap⟩
theorem told_any {W w : World} {I : Ix} {wd S0 S1 X0 X1 j : Nat} (h : Bo W w (Fw wd I.g I.ga S0 S1 X0 X1) I S0 S1 X0 X1 j) (hj : j ≤ 800) :
    Calls Try.prog 24 #[.pointer (some ⟨wd, 0, none⟩)] w fun e w' => e = .returned (.bool true) ∧ Below W.heap.size W w' := by
  obtain ⟨fs, xs, σ0, σ1, A, hx, ⟨k0, k1⟩, i0, i1⟩ := h.ex
  exact told_it A i0 i1 (by have := k0.lays; omega) (by have := k1.lays; omega)
theorem cell_at {W : World} {A : Option Addr} {len : Nat} {L : Nat → Int × Int × Bool} (R : Ac.Acts W A len L) (i : Nat) (h : i < len) : ∃ bb off, A = some ⟨bb, off, none⟩ ∧ (Lit.int .i64 (L i).2.1).wf = true ∧ ∀ w : World, Below W.heap.size W w → w.cell? ⟨bb, off + i * 3, none⟩ = some (.int .i64 (L i).1) ∧ w.cell? ⟨bb, off + i * 3 + 1, none⟩ = some (.int .i64 (L i).2.1) ∧ w.cell? ⟨bb, off + i * 3 + 2, none⟩ = some (.bool (L i).2.2) := by
  obtain ⟨bb, off, rfl, hb, hc⟩ := R.cells (by omega)
  obtain ⟨c0, c1, c2, _, w1⟩ := hc i h
  exact ⟨bb, off, rfl, w1, fun w q => ⟨(q.cell (p := ⟨bb, off + i * 3, none⟩) hb).trans c0, (q.cell (p := ⟨bb, off + i * 3 + 1, none⟩) hb).trans c1, (q.cell (p := ⟨bb, off + i * 3 + 2, none⟩) hb).trans c2⟩⟩
set_option maxHeartbeats 8000000 in
set_option maxRecDepth 100000 in
theorem law (W : World) (u t : Nat) (hu : u ≤ 255) (ht : t ≤ 65535) (A : Option Addr) (len cap : Nat) (L : Nat → Int × Int × Bool) (R : Ac.Acts W A len L) :
    Calls Try.prog 7 #[.int .u8 u, .int .u16 t, .slice A len cap] W fun e w => e = .returned (.bool true) ∧ Below W.heap.size W w := by
  obtain ⟨n, hn⟩ : ∃ n, n = u % 40 + 1 := ⟨_, rfl⟩
  obtain ⟨N, hN⟩ : ∃ N, N = 64 * n - t % 64 := ⟨_, rfl⟩
  have MI := Lib.hid (fun w : World => made_it w n N (by omega) (by omega) (by omega) (by omega))
  have AW := Lib.hid awake_it
  have HR := Lib.hid R
  have hmax := R.max
  have s0' : IntKind.i64.wrap (u : Int) = (u : Int) := IntWalk.i64_in _ (by omega)
  have s1' : IntKind.i64.wrap ((u : Int) % 40 + 1) = (n : Int) := by rw [IntWalk.i64_in _ (by omega)]; omega
  have s2' : IntKind.i64.wrap ((n : Int) * 64) = (n : Int) * 64 := IntWalk.i64_in _ (by omega)
  have s3' : IntKind.i64.wrap (t : Int) = (t : Int) := IntWalk.i64_in _ (by omega)
  have s4' : IntKind.i64.wrap ((n : Int) * 64 - (t : Int) % 64) = (N : Int) := by rw [IntWalk.i64_in _ (by omega)]; omega
  have n1 : 1 ≤ n := by omega
  clear R hn hN
  go_enter Try.func7, Try.ntmps7
  go_wp2_with fail
  refine (MI.out _).mono ?_
  rintro e w1 ⟨wd, g, a, b, ga, ar, s, m0, sp1, m1, x0, x1, y, ry, cy, K0, K1, rfl, M⟩
  have HB := Lib.hid (made_bo M)
  clear M MI
  go_wp2_with fail
  refine (AW.out _).mono ?_
  rintro e w3 ⟨rfl, b3⟩
  have HA := Lib.hid (HB.out.below b3)
  clear b3 AW HB
  go_wp2_with fail
  go_loopg [9] 100 (fun k c wr => ∃ i : Nat, (i ≤ len ∧ i ≤ 100 ∧ k = 100 - i) ∧ c = .int .i64 i ∧ Hid (Bo W wr (Fw wd g ga s sp1 x0 x1) ⟨g, a, b, ga, ar, y, ry, cy, N⟩ s sp1 x0 x1 i))
  case atStart => exact ⟨0, by omega, rfl, HA⟩
  case round =>
    obtain ⟨i, ⟨hi, hi2, rfl⟩, rfl, H⟩ := hrel
    by_cases hlt : i < len ∧ i < 100
    · obtain ⟨l1, l2⟩ := hlt
      obtain ⟨bb, off, rfl, hwf, hc⟩ := cell_at HR.out i l1
      have DI := Lib.hid (do_any H.out (by omega) (L i).1 (L i).2.1 hwf (L i).2.2)
      obtain ⟨q0, q1, q2⟩ := hc wr H.out.bel
      generalize (L i).2.1 = m at *
      generalize (L i).2.2 = tt at *
      generalize (L i).1 = kk at *
      clear H hc hwf
      go_wp2_with fail
      refine DI.out.mono ?_
      rintro e w4 ⟨rfl, B4⟩
      have HB4 := Lib.hid B4
      clear B4 DI q0 q1 q2
      go_wp2_with fail
      go_roundg (100 - (i + 1))
      case measure => omega
      case rel => exact ⟨i + 1, ⟨by omega, by omega, rfl⟩, by simp, HB4⟩
    · have TI := Lib.hid (told_any (I := ⟨g, a, b, ga, ar, y, ry, cy, N⟩) H.out (by omega))
      clear H
      rcases (show (i < len ∧ i = 100) ∨ i = len by omega) with ⟨l1, rfl⟩ | rfl
      all_goals
        clear hlt
        go_wp2_with fail
        refine TI.out.mono ?_
        rintro e w4 ⟨rfl, b4⟩
        have B4 := Lib.hid b4
        clear b4 TI
        go_wp2_with fail
        go_ret
        exact ⟨rfl, B4.out⟩
end Go.Proofs.Ytladhenjoipfpaa.LawLays
