/- Is all that is told alike: the law's helper told. No condition. -/
import Derived.Test.YtladhenjoipfpaaLb
set_option linter.unusedVariables false
set_option linter.unusedSimpArgs false
namespace Go.Proofs.Ytladhenjoipfpaa.Lt
open Go.RowKit
open Pl Rn Ov Lf Wl Gp Ct Sn Gq Tf Mt Rr Kp Sc Nn Tk La Rp Rq Mb S2 Ak Fr Fs On Xr Rf Ry Rz Ra Aq Lb
open Ek (Rds Tr)
section
variable {W w : World} {F : Nat → Obj → Prop} {I : Ix} {s0 s1 x0 x1 : Nat} {fs xs : List Int} {σ0 σ1 : Sq} {fr : List Int} {τ0 τ1 : Sq}
theorem view (A : All W w F I s0 s1 x0 x1 fs xs σ0 σ1 fr τ0 τ1) : ∃ p3 c3 p4 c4, w.cell? ⟨x0, 4, none⟩ = some (.slice p3 (fI τ0.lays).length c3) ∧ w.cell? ⟨x0, 5, none⟩ = some (.slice p4 (sI τ0.lays).length c4) ∧ w.cell? ⟨x0, 3, none⟩ = some (.int .i64 (τ0.blocks : Int)) ∧ w.cell? ⟨x0, 0, none⟩ = some (.pointer (some ⟨I.y, 0, none⟩)) ∧ Sl w p3 (fI τ0.lays) ∧ Sl w p4 (sI τ0.lays) := by
  obtain ⟨c, C⟩ := A.ex
  obtain ⟨K, X, hc⟩ := C.xs0
  obtain ⟨B, v, l, R, e0, e1, e2⟩ := X.ex
  have o1 := R.own 1 (by omega)
  have o2 := R.own 2 (by omega)
  rw [e1] at o1
  rw [e2] at o2
  obtain ⟨p3, c3, h1, S1, _⟩ := Sl.of o1 rfl
  obtain ⟨p4, c4, h2, S2, _⟩ := Sl.of o2 rfl
  refine ⟨p3, c3, p4, c4, ?_, ?_, R.cells.1.2.2.2, R.cells.1.1, S1, S2⟩
  · rw [← h1]; exact R.cells.2.1
  · rw [← h2]; exact R.cells.2.2.1
theorem used (A : All W w F I s0 s1 x0 x1 fs xs σ0 σ1 fr τ0 τ1) (n : Nat) : Calls Try.prog 12 #[.pointer (some ⟨s0, 0, none⟩)] (w.drewN n) fun e w' => e = .returned (.int .i64 (σ0.used : Int)) ∧ w' = w.drewN n := by
  obtain ⟨c, C⟩ := A.ex
  obtain ⟨m, B, K, vg, va, vm, S, hc⟩ := C.sv0
  exact used_it (S.drew n)
theorem blocks (A : All W w F I s0 s1 x0 x1 fs xs σ0 σ1 fr τ0 τ1) (n : Nat) : Calls Try.prog 11 #[.pointer (some ⟨s0, 0, none⟩)] (w.drewN n) fun e w' => e = .returned (.int .i64 (σ0.blocks : Int)) ∧ w' = w.drewN n := by
  obtain ⟨c, C⟩ := A.ex
  obtain ⟨m, B, K, vg, va, vm, S, hc⟩ := C.sv0
  exact blocks_it (S.drew n)
theorem rused (A : All W w F I s0 s1 x0 x1 fs xs σ0 σ1 fr τ0 τ1) (U : Iu τ0) (hl : τ0.lays.length ≤ 1000) (n : Nat) : Calls Try.prog 39 #[.pointer (some ⟨x0, 0, none⟩)] (w.drewN n) fun e w' => e = .returned (.int .i64 (τ0.used : Int)) ∧ w' = w.drewN n := by
  obtain ⟨c, C⟩ := A.ex
  obtain ⟨K, X, hc⟩ := C.xs0
  obtain ⟨B, v, l, R, e0, e1, e2⟩ := X.ex
  rw [U.1]
  exact rused_it (R.keepB (Kit.drawB (Below.refl _ _) n)) τ0.lays e2 hl U.2
theorem each (A : All W w F I s0 s1 x0 x1 fs xs σ0 σ1 fr τ0 τ1) (hl : σ0.lays.length ≤ 1000) : Calls Try.prog 19 #[.pointer (some ⟨s0, 0, none⟩)] w fun e w' =>
    ∃ p q va vb, e = .returned (.func (.func 32) #[] #[.pointer (some ⟨p, 0, none⟩), .pointer (some ⟨q, 0, none⟩)]) ∧ Below w.heap.size w w' ∧ Tr w' 0 p q va vb σ0.lays := by
  obtain ⟨c, C⟩ := A.ex
  obtain ⟨m, B, K, vg, va, vm, S, hc⟩ := C.sv0
  refine (Es.each_it S hl).mono ?_
  rintro e w' ⟨va', vb', rfl, b, T⟩
  exact ⟨_, _, _, _, rfl, b, T⟩
theorem left (A : All W w F I s0 s1 x0 x1 fs xs σ0 σ1 fr τ0 τ1) : Calls Try.prog 22 #[.pointer (some ⟨I.g, 0, none⟩)] w fun e w' => e = .returned (.int .i64 (cn fs fs.length : Nat)) ∧ All W w' F I s0 s1 x0 x1 fs xs σ0 σ1 fr τ0 τ1 := by
  obtain ⟨c, C⟩ := A.ex
  obtain ⟨ms, P, WF⟩ := C.env.1.pool
  refine (left_it w I.g I.a I.b fs ms WF P).mono ?_
  rintro e w' ⟨rfl, b⟩
  rw [sum_cn]
  exact ⟨rfl, A.below b⟩
theorem rleft (A : All W w F I s0 s1 x0 x1 fs xs σ0 σ1 fr τ0 τ1) : Calls Try.prog 40 #[.pointer (some ⟨I.y, 0, none⟩)] w fun e w' => e = .returned (.int .i64 (cn fr fr.length : Nat)) ∧ w' = w := by
  obtain ⟨c, C⟩ := A.ex
  exact rleft_it C.rp.1
end
section
variable {W w : World} {I : Ix} {wd S0 S1 X0 X1 : Nat} {fs xs : List Int} {σ0 σ1 : Sq}
set_option maxHeartbeats 8000000 in
set_option maxRecDepth 100000 in
theorem told_it (A : All W w (Fw wd I.g I.ga S0 S1 X0 X1) I S0 S1 X0 X1 fs xs σ0 σ1 fs σ0 σ1) (U0 : Iu σ0) (U1 : Iu σ1) (h0 : σ0.lays.length ≤ 1000) (h1 : σ1.lays.length ≤ 1000) :
    Calls Try.prog 24 #[.pointer (some ⟨wd, 0, none⟩)] w fun e w' => e = .returned (.bool true) ∧ Below W.heap.size W w' := by
  have HA := Lib.hid A
  have HU0 := Lib.hid U0
  have HU1 := Lib.hid U1
  clear A U0 U1
  go_enter Try.func24, Try.ntmps24
  go_wp2_with fail
  go_loopg [3] 2 (fun n i wr => ∃ k : Nat, (k ≤ 2 ∧ n = 2 - k) ∧ i = .int .i64 k ∧ Hid (All W wr (Fw wd I.g I.ga S0 S1 X0 X1) I S0 S1 X0 X1 fs xs σ0 σ1 fs σ0 σ1))
  case atStart => exact ⟨0, ⟨Nat.zero_le _, rfl⟩, rfl, HA⟩
  case round =>
    obtain ⟨k, ⟨hk, rfl⟩, rfl, H⟩ := hrel
    have C0 := H.out.wd ⟨rfl, rfl⟩
    clear HA
    rcases (show k = 0 ∨ k = 1 ∨ k = 2 by omega) with rfl | rfl | rfl
    · have d2 := (Kit.cell_of C0 2).trans rfl
      have EI := Lib.hid (each H.out h0)
      clear C0
      go_wp2_with fail
      refine EI.out.mono ?_
      rintro e w1 ⟨p, q, va, vb, rfl, b1, T⟩
      have PI := Lib.hid (Ep.pairs_it w1 _ p q va vb _ (by omega) T)
      have H1 := Lib.hid (H.out.below b1)
      clear T EI b1 H d2
      go_wp2_with fail
      refine PI.out.mono ?_
      rintro e w2 ⟨v1, u1, rfl, b2, o1, o2, _⟩
      have H2 := Lib.hid (H1.out.below b2)
      rw [fst_ints] at o1
      rw [snd_ints] at o2
      obtain ⟨p1, c1, rfl, T1, _⟩ := Sl.of o1 (by simp [fI])
      obtain ⟨p2, c2, rfl, T2, _⟩ := Sl.of o2 (by simp [sI])
      obtain ⟨p3, c3, p4, c4, e4, e5, e3, e0, T3, T4⟩ := view H2.out
      have C2 := H2.out.wd ⟨rfl, rfl⟩
      have d2 := (Kit.cell_of C2 2).trans rfl
      have d4 := (Kit.cell_of C2 4).trans rfl
      have Q1 := Lib.hid (fun n => same_it (w2.drewN n) p1 p3 c1 c3 _ (T1.heap rfl) (T3.heap rfl) (by simp [fI]; omega))
      have Q2 := Lib.hid (fun n => same_it (w2.drewN n) p2 p4 c2 c4 _ (T2.heap rfl) (T4.heap rfl) (by simp [sI]; omega))
      have Q3 := Lib.hid (used H2.out)
      have Q4 := Lib.hid (rused H2.out HU0.out h0)
      have Q5 := Lib.hid (blocks H2.out)
      have bb : ((σ0.blocks : Int) != (σ0.blocks : Int)) = false := by simp
      have uu : ((σ0.used : Int) != (σ0.used : Int)) = false := by simp
      clear T1 T2 T3 T4 o1 o2 b2 PI H1 C2 e0
      go_wp2_with fail
      go_quiet (first | (go_at_call 38; first | (with_reducible exact Calls.quiet_of (Q1.out _)) | (with_reducible exact Calls.quiet_of (Q2.out _))) | (go_at_call 12; with_reducible exact Calls.quiet_of_same (Q3.out _)) | (go_at_call 39; with_reducible exact Calls.quiet_of_same (Q4.out _)) | (go_at_call 11; with_reducible exact Calls.quiet_of_same (Q5.out _)))
      have H3 := Lib.hid (H2.out.below (Kit.drawB (Below.refl _ _) nq))
      clear H2 Q1 Q2 Q3 Q4 Q5 e3 e4 e5 d2 d4 bb uu
      go_wp2_with fail
      go_roundg (2 - 1)
      case measure => omega
      case rel => exact ⟨1, ⟨by omega, rfl⟩, by simp, H3⟩
    · have d2 := (Kit.cell_of C0 3).trans rfl
      have EI := Lib.hid (each H.out.swap h1)
      clear C0
      go_wp2_with fail
      refine EI.out.mono ?_
      rintro e w1 ⟨p, q, va, vb, rfl, b1, T⟩
      have PI := Lib.hid (Ep.pairs_it w1 _ p q va vb _ (by omega) T)
      have H1 := Lib.hid (H.out.below b1)
      clear T EI b1 H d2
      go_wp2_with fail
      refine PI.out.mono ?_
      rintro e w2 ⟨v1, u1, rfl, b2, o1, o2, _⟩
      have H2 := Lib.hid (H1.out.below b2)
      rw [fst_ints] at o1
      rw [snd_ints] at o2
      obtain ⟨p1, c1, rfl, T1, _⟩ := Sl.of o1 (by simp [fI])
      obtain ⟨p2, c2, rfl, T2, _⟩ := Sl.of o2 (by simp [sI])
      obtain ⟨p3, c3, p4, c4, e4, e5, e3, e0, T3, T4⟩ := view H2.out.swap
      have C2 := H2.out.wd ⟨rfl, rfl⟩
      have d2 := (Kit.cell_of C2 3).trans rfl
      have d4 := (Kit.cell_of C2 5).trans rfl
      have Q1 := Lib.hid (fun n => same_it (w2.drewN n) p1 p3 c1 c3 _ (T1.heap rfl) (T3.heap rfl) (by simp [fI]; omega))
      have Q2 := Lib.hid (fun n => same_it (w2.drewN n) p2 p4 c2 c4 _ (T2.heap rfl) (T4.heap rfl) (by simp [sI]; omega))
      have Q3 := Lib.hid (used H2.out.swap)
      have Q4 := Lib.hid (rused H2.out.swap HU1.out h1)
      have Q5 := Lib.hid (blocks H2.out.swap)
      have bb : ((σ1.blocks : Int) != (σ1.blocks : Int)) = false := by simp
      have uu : ((σ1.used : Int) != (σ1.used : Int)) = false := by simp
      clear T1 T2 T3 T4 o1 o2 b2 PI H1 C2 e0
      go_wp2_with fail
      go_quiet (first | (go_at_call 38; first | (with_reducible exact Calls.quiet_of (Q1.out _)) | (with_reducible exact Calls.quiet_of (Q2.out _))) | (go_at_call 12; with_reducible exact Calls.quiet_of_same (Q3.out _)) | (go_at_call 39; with_reducible exact Calls.quiet_of_same (Q4.out _)) | (go_at_call 11; with_reducible exact Calls.quiet_of_same (Q5.out _)))
      have H3 := Lib.hid (H2.out.below (Kit.drawB (Below.refl _ _) nq))
      clear H2 Q1 Q2 Q3 Q4 Q5 e3 e4 e5 d2 d4 bb uu
      go_wp2_with fail
      go_roundg (2 - 2)
      case measure => omega
      case rel => exact ⟨2, ⟨by omega, rfl⟩, by simp, H3⟩
    · obtain ⟨p3, c3, p4, c4, -, -, -, e0, -, -⟩ := view H.out
      have HD := Lib.hid (H.out.below (Below.refl wr.heap.size wr).drew)
      have d0 := (Kit.cell_of C0 0).trans rfl
      have d4 := (Kit.cell_of C0 4).trans rfl
      have C1 := HD.out.wd ⟨rfl, rfl⟩
      have f0 := (Kit.cell_of C1 0).trans rfl
      have f4 := (Kit.cell_of C1 4).trans rfl
      obtain ⟨-, -, -, -, -, -, -, g0, -, -⟩ := view HD.out
      have L1 := Lib.hid (left HD.out)
      clear H C0 C1
      go_wp2_with fail
      go_region_held3 (fun w' => w'.cell? ⟨wd, 0, none⟩ = some (.pointer (some ⟨I.g, 0, none⟩)) ∧ w'.cell? ⟨wd, 4, none⟩ = some (.pointer (some ⟨X0, 0, none⟩)) ∧ w'.cell? ⟨X0, 0, none⟩ = some (.pointer (some ⟨I.y, 0, none⟩)))
        (first | exact ⟨by assumption, by assumption, by assumption⟩ | go_keep)
        (first
          | (go_at_call 22; refine L1.out.mono ?_; rintro e w3 ⟨rfl, R⟩; have C3 := R.wd ⟨rfl, rfl⟩; have h0' := (Kit.cell_of C3 0).trans rfl; have h4' := (Kit.cell_of C3 4).trans rfl; obtain ⟨-, -, -, -, -, -, -, k0', -, -⟩ := view R; have L2 := Lib.hid (rleft R); have HR3 := Lib.hid R; clear R L1 C3)
          | (go_at_call 40; refine L2.out.mono ?_; rintro e _ ⟨rfl, rfl⟩))
      have cc : ((cn fs fs.length : Int) == (cn fs fs.length : Int)) = true := by simp
      go_wp2_with fail
      go_ret
      exact ⟨rfl, HR3.out.bel⟩
end
end Go.Proofs.Ytladhenjoipfpaa.Lt
