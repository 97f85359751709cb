/- The document's space lays words: its Lay, by layA. No condition. -/
import Derived.Test.YtladhenjoipfpaaRf
import Derived.IntWalk
import Derived.Deep.Cut
import Derived.Deep.QuietTactic
import Derived.BigQuiet
set_option linter.unusedVariables false
set_option linter.unusedSimpArgs false
namespace Go.Proofs.Ytladhenjoipfpaa.Ry
open Go.RowKit
open Pl Rn Ov Lf Wl Gp Ct Sn Gq Tf Mt Rr Kp Sc Nn Tk La Rp Rq Mb S2 Fr Xr Rf
section
variable {w w' : World} {x y words B : Nat} {K K' : Nat → Prop} {v : Nat → Value} {l : Nat → List Int} {bl nx en : Nat}
theorem sz (w : World) (p : Addr) (u : Value) : (w.setCell p u).heap.size = w.heap.size := by simp [World.setCell]
/-- What is laid is written down: both rows. -/
theorem tail (h : R3 w x y words B K v l bl nx en) (p n : Int) (h1 : (l 1).length ≤ 1000) (h2 : (l 2).length ≤ 1000) : ∃ va wa vb wb,
    (w.cell? ⟨x, 4, none⟩ = some (v 1) ∧ (Builtin.append_ #[43, 43] 43 #[v 1, .slice (some ⟨w.heap.size, 0, none⟩) 1 1]).run Try.prog (w.alloc (.cells #[.int .i64 p] 3)) = .ok va wa ∧ (∃ a c n, va = .slice a n c) ∧ wa.cell? ⟨x, 4, none⟩ = some (v 1) ∧ wa.frozen? ⟨x, 4, none⟩ = false) ∧
    ((wa.setCell ⟨x, 4, none⟩ va).cell? ⟨x, 5, none⟩ = some (v 2) ∧ (Builtin.append_ #[43, 43] 43 #[v 2, .slice (some ⟨wa.heap.size, 0, none⟩) 1 1]).run Try.prog ((wa.setCell ⟨x, 4, none⟩ va).alloc (.cells #[.int .i64 n] 3)) = .ok vb wb ∧ (∃ a c n, vb = .slice a n c) ∧ wb.cell? ⟨x, 5, none⟩ = some (v 2) ∧ wb.frozen? ⟨x, 5, none⟩ = false) ∧
    ∃ K1 v2 l2, R3 (wb.setCell ⟨x, 5, none⟩ vb) x y words B K1 v2 l2 bl nx en ∧ (l2 0 = l 0 ∧ l2 1 = l 1 ++ [p] ∧ l2 2 = l 2 ++ [n]) ∧ (∀ k, K k → K1 k) ∧ (∀ k, K1 k → K k ∨ w.heap.size ≤ k) ∧ ModP K w (wb.setCell ⟨x, 5, none⟩ vb) := by
  obtain ⟨va, wa, hr, sh, c1, f1, K1, v2, l2, R, ⟨e1, e2⟩, k1, k2, M⟩ := h.push' 1 (by omega) p (by omega)
  have f4 : fld 1 = 4 := rfl
  rw [f4] at c1 f1 R M
  obtain ⟨vb, wb, hr', sh', c2, f2, K3, v3, l3, R', ⟨e3, e4⟩, k3, k4, M'⟩ := R.push' 2 (by omega) n (by rw [(e2 2 (by omega)).1]; omega)
  have f5 : fld 2 = 5 := rfl
  rw [f5] at c2 f2 R' M'
  have hz := M.size
  have cc := R.cells.2.2.1
  have o2 : v2 2 = v 2 := (e2 2 (by omega)).2
  refine ⟨va, wa, vb, wb, ⟨h.cells.2.1, hr, sh, c1, f1⟩, ⟨?_, ?_, sh', ?_, f2⟩, K3, v3, l3, R', ⟨?_, ?_, ?_⟩, fun k hk => k3 k (k1 k hk), fun k hk => ?_, M.trans M' (fun k hk c => ?_)⟩
  · rw [← o2]; exact cc
  · rw [← o2, ← sz wa ⟨x, 4, none⟩ va]; exact hr'
  · rw [← o2]; exact c2
  · rw [(e4 0 (by omega)).1, (e2 0 (by omega)).1]
  · rw [(e4 1 (by omega)).1, e1]
  · rw [e3, (e2 2 (by omega)).1]
  · rcases k4 k hk with c | c
    · exact k2 k c
    · exact .inr (by omega)
  · rcases k2 k c with c | c
    · exact c
    · omega
theorem rp_keepP {r cap : Nat} {fs : List Int} (h : RP w x r cap fs) (m : ModP K w w') (hx : ¬ K x) (hr : ¬ K r) : RP w' x r cap fs := by
  obtain ⟨cur, h1, h2⟩ := h.row
  exact ⟨(m.block _ (Kit.lt_of h.obj) hx).trans h.obj, ⟨cur, (m.block _ (Kit.lt_of h1) hr).trans h1, h2⟩, h.ne, h.small⟩
/-- What the end of Lay leaves. -/
def RTail (w w' : World) (x y words : Nat) (K : Nat → Prop) (B : Nat) (l : Nat → List Int) (bl nx en : Nat) (p n : Int) : Prop :=
  ∃ K1 v2 l2, R3 w' x y words B K1 v2 l2 bl nx en ∧ (l2 0 = l 0 ∧ l2 1 = l 1 ++ [p] ∧ l2 2 = l 2 ++ [n]) ∧ (∀ k, K k → K1 k) ∧ (∀ k, K1 k → K k ∨ w.heap.size ≤ k) ∧ ModP K w w'
set_option maxHeartbeats 4000000 in
set_option maxRecDepth 100000 in
theorem rlay_fits (R : R3 w x y words B K v l bl nx en) (n : Nat) (h1 : 1 ≤ n) (h2 : n ≤ 64) (h3 : nx + n ≤ en) (he : en ≤ 2000000) (l1 : (l 1).length ≤ 1000) (l2 : (l 2).length ≤ 1000) :
    Calls Try.prog 35 #[.pointer (some ⟨x, 0, none⟩), .int .i64 n] w fun e w' => e = .returned (.tuple #[.int .i64 nx, .int .i64 0]) ∧ RTail w w' x y words K B l bl (nx + n) en nx n := by
  obtain ⟨-, -, -, c6, c7⟩ := R.cells
  have f6 := R.frozen 6
  have d1 : decide ((n : Int) < 1) = false := decide_eq_false (by omega)
  have d2 : decide (4096 < (n : Int)) = false := decide_eq_false (by omega)
  have d3 : decide ((n : Int) ≤ 64) = true := decide_eq_true (by omega)
  have s1 : IntKind.i64.wrap ((en : Int) - nx) = (en : Int) - nx := IntWalk.i64_in _ (by omega)
  have d4 : decide ((en : Int) - nx < (n : Int)) = false := decide_eq_false (by omega)
  have HR := Lib.hid R
  clear R
  go_enter Try.func35, Try.ntmps35
  go_wp2_with fail
  go_quiet (fail)
  have R1 := HR.out.keepB (Kit.drawB (Below.refl _ _) nq)
  have M1 := (ModP.refl K w).drewN nq
  have hz0 : (w.drewN nq).heap.size = w.heap.size := rfl
  clear c6 c7 s1 d4 f6
  generalize w.drewN nq = w0 at *
  have HM1 := Lib.hid M1
  have HZ0 := Lib.hid hz0
  clear M1 hz0
  obtain ⟨-, -, -, c6, c7⟩ := R1.cells
  have f6' := R1.frozen 6
  have s2 : IntKind.i64.wrap ((nx : Int) + n) = (nx : Int) + n := IntWalk.i64_in _ (by omega)
  obtain ⟨R2, M2⟩ := R1.put 6 (.int .i64 ((nx : Int) + n)) bl (nx + n) en (by simp [refCells])
  obtain ⟨va, wa, vb, wb, ⟨a1, a2, ⟨pa, pc, pn, rfl⟩, a4, a5⟩, ⟨b1, b2, ⟨qa, qc, qn, rfl⟩, b4, b5⟩, K1, v2, ll, R3, e3, k1, k2, M3⟩ := tail R2 (nx : Int) (n : Int) l1 l2
  rw [sz] at a2
  have H1 := Lib.hid a2
  have H2 := Lib.hid b2
  have HF := Lib.hid (show RTail w _ x y words K B l bl (nx + n) en nx n from ⟨K1, v2, ll, R3, e3, k1, fun k hk => by
    have := k2 k hk
    simpa [World.setCell, HZ0.out] using this, (HM1.out.trans M2 (fun _ _ c => c)).trans M3 (fun _ _ c => c)⟩)
  clear a2 b2 R3 e3 k1 k2 M3 R2 M2 R1 HR HM1
  go_wp2_with (at_builtin; first | refine Rw.wp_append rfl (.tmp 104) (.tmp 106) 43 _ _ _ rfl rfl rfl H1.out ?_ | refine Rw.wp_append rfl (.tmp 114) (.tmp 116) 43 _ _ _ rfl rfl rfl H2.out ?_)
  go_ret2
  exact ⟨rfl, HF.out⟩
/-- What Lay leaves that wants blocks. -/
inductive RL (w : World) (x y ry cy words B : Nat) (K : Nat → Prop) (l : Nat → List Int) (bl nx en : Nat) (fs : List Int) (n N : Nat) : Ending → World → Prop
  | no {w' : World} (hno : ∀ p, findR fs N = some p → ¬ (p + N ≤ words / 64)) (R : ∃ v, R3 w' x y words B K v l bl nx en) (P : RP w' y ry cy fs) (M : ModP (fun k => k = ry) w w') : RL w x y ry cy words B K l bl nx en fs n N (.returned (.tuple #[.int .i64 0, .int .i64 5])) w'
  | yes {w' : World} {p nx' en' : Nat} {q : Int} (hq : q = ((64 * p : Nat) : Int)) (hf : findR fs N = some p) (hp : p + N ≤ words / 64) (R : ∃ K1 v2 l2, R3 w' x y words B K1 v2 l2 (bl + N) nx' en' ∧ (l2 0 = l 0 ++ [(p : Int)] ∧ l2 1 = l 1 ++ [((64 * p : Nat) : Int)] ∧ l2 2 = l 2 ++ [(n : Int)]) ∧ (∀ k, K k → K1 k) ∧ (∀ k, K1 k → K k ∨ w.heap.size ≤ k))
      (hn : nx' = if n ≤ 64 then 64 * p + n else nx) (he : en' = if n ≤ 64 then 64 * p + 64 else en) (P : RP w' y ry cy (fill fs p N p)) (M : ModP (fun k => K k ∨ k = ry) w w') : RL w x y ry cy words B K l bl nx en fs n N (.returned (.tuple #[.int .i64 q, .int .i64 0])) w'
set_option maxHeartbeats 8000000 in
set_option maxRecDepth 100000 in
theorem rlay_more {fs ms : List Int} {ry cy : Nat} (R : R3 w x y words B K v l bl nx en) (P : RP w y ry cy fs) (WF : Wf fs ms) (hml : ms.length = fs.length) (kd : ¬ K y ∧ ¬ K ry) (n : Nat) (h1 : 1 ≤ n) (h2 : n ≤ 4096) (h3 : en < nx + n) (hne : nx ≤ en) (he : en ≤ 2000000) (hw : words ≤ 1000000) (hb : bl ≤ 1000000)
    (l0 : (l 0).length ≤ 1000) (l1 : (l 1).length ≤ 1000) (l2 : (l 2).length ≤ 1000) :
    Calls Try.prog 35 #[.pointer (some ⟨x, 0, none⟩), .int .i64 n] w (RL w x y ry cy words B K l bl nx en fs n ((n + 63) / 64)) := by
  obtain ⟨N, hN⟩ : ∃ N, N = (n + 63) / 64 := ⟨_, rfl⟩
  rw [← hN]
  have n1 : 1 ≤ N := by omega
  have n2 : N ≤ 64 := by omega
  have n3 : n ≤ 64 → N = 1 := fun _ => by omega
  have psm := P.small.2
  obtain ⟨⟨c0, -⟩, -, -, c6, c7⟩ := R.cells
  have d1 : decide ((n : Int) < 1) = false := decide_eq_false (by omega)
  have d2 : decide (4096 < (n : Int)) = false := decide_eq_false (by omega)
  have s1 : IntKind.i64.wrap ((en : Int) - nx) = (en : Int) - nx := IntWalk.i64_in _ (by omega)
  have d4 : decide ((en : Int) - nx < (n : Int)) = true := decide_eq_true (by omega)
  have s2 : IntKind.i64.wrap ((n : Int) + 63) = (n : Int) + 63 := IntWalk.i64_in _ (by omega)
  have s3 : ((n : Int) + 63) / 64 = (N : Int) := by omega
  have HR := Lib.hid R
  have HP := Lib.hid P
  have HW := Lib.hid WF
  have HN := Lib.hid hN
  clear R P WF hN
  go_enter Try.func35, Try.ntmps35
  go_wp2_with fail
  go_quiet (fail)
  have R1 := Lib.hid (HR.out.keepB (Kit.drawB (Below.refl _ _) nq))
  have P1 := HP.out.keepB (Kit.drawB (Below.refl _ _) nq)
  have HM0 := Lib.hid ((ModP.refl (fun k => k = ry) w).drewN nq)
  have HZ0 := Lib.hid (show (w.drewN nq).heap.size = w.heap.size from rfl)
  clear c6 c7 s1 d4 c0
  generalize w.drewN nq = w0 at *
  have HP0 := Lib.hid P1
  obtain ⟨⟨c0, -⟩, -⟩ := R1.out.cells
  have AL := ralloc_f P1 N n1 (by omega)
  rw [← s3] at AL
  have AL := Lib.hid AL
  have S3 := Lib.hid s3
  clear P1 s3
  go_wp2_with fail
  refine AL.out.mono ?_
  rintro e w1 (⟨hf, rfl, rfl⟩ | ⟨p, hf, rfl, P2, m2⟩)
  · have HF := Lib.hid hf
    clear hf AL
    go_wp2_with fail
    go_ret2
    exact RL.no (fun p hp => by rw [HF.out] at hp; cases hp) ⟨_, R1.out⟩ HP0.out HM0.out
  · obtain ⟨fp1, fp2⟩ := findR_mem hf
    have M2 : ModP (fun k => k = ry) w0 w1 := ModP.of_mod m2 (fun k hk => by simpa using hk)
    have R2 := R1.out.keepP M2 (fun k hk c => by subst c; exact kd.2 hk)
    obtain ⟨⟨c0', cw, c2, c3⟩, -⟩ := R2.cells
    have s5 : IntKind.i64.wrap ((p : Int) + ((n : Int) + 63) / 64) = (p : Int) + N := by rw [S3.out]; exact IntWalk.i64_in _ (by omega)
    have s6 : IntKind.i64.wrap ((64 : Int) * ((p : Int) + N)) = (64 : Int) * ((p : Int) + N) := IntWalk.i64_in _ (by omega)
    have HF := Lib.hid hf
    have HM2 := Lib.hid M2
    have HR2 := Lib.hid R2
    have HP2 := Lib.hid P2
    have hz2 := M2.size
    rw [HZ0.out] at hz2
    clear hf M2 P2 m2 AL c0
    by_cases hp : p + N ≤ words / 64
    · have d5 : decide ((words : Int) < (64 : Int) * ((p : Int) + N)) = false := decide_eq_false (by omega)
      have s7 : IntKind.i64.wrap ((bl : Int) + ((n : Int) + 63) / 64) = (bl : Int) + N := by rw [S3.out]; exact IntWalk.i64_in _ (by omega)
      have s8 : IntKind.i64.wrap ((64 : Int) * (p : Int)) = (64 : Int) * (p : Int) := IntWalk.i64_in _ (by omega)
      obtain ⟨va, wa, hr, ⟨pa, pc, pn, rfl⟩, a1, a2, K1, v3, l3, R3', ⟨e1, e2⟩, k1, k2, M3⟩ := R2.push' 0 (by omega) (p : Int) (by omega)
      have f4 : fld 0 = 2 := rfl
      rw [f4] at a1 a2 R3' M3
      obtain ⟨⟨-, -, -, c3'⟩, -⟩ := R3'.cells
      have f3 := R3'.frozen 3
      obtain ⟨R4, M4⟩ := R3'.put 3 (.int .i64 ((bl : Int) + N)) (bl + N) nx en (by simp [refCells])
      have H0 := Lib.hid hr
      have hz4 := M3.size
      have MQ := M3.trans M4 (fun k hk c => by
        rcases k2 k c with c | c
        · exact c
        · omega)
      have l1' : (l3 1).length ≤ 1000 := by rw [(e2 1 (by omega)).1]; exact l1
      have l2' : (l3 2).length ≤ 1000 := by rw [(e2 2 (by omega)).1]; exact l2
      have e0 := Lib.hid (And.intro e1 (And.intro (e2 1 (by omega)).1 (e2 2 (by omega)).1))
      have fin : ∀ (w9 : World) (nx' en' : Nat), ModP K1 ((wa.setCell ⟨x, 2, none⟩ (.slice pa pn pc)).setCell ⟨x, 3, none⟩ (.int .i64 ((bl : Int) + N))) w9 → (nx' = if n ≤ 64 then 64 * p + n else nx) → (en' = if n ≤ 64 then 64 * p + 64 else en) → (∃ K9 v9 l9, R3 w9 x y words B K9 v9 l9 (bl + N) nx' en' ∧ (l9 0 = l3 0 ∧ l9 1 = l3 1 ++ [(64 : Int) * p] ∧ l9 2 = l3 2 ++ [(n : Int)]) ∧ (∀ k, K1 k → K9 k) ∧ (∀ k, K9 k → K1 k ∨ w1.heap.size ≤ k)) →
          RL w x y ry cy words B K l bl nx en fs n N (.returned (.tuple #[.int .i64 ((64 : Int) * p), .int .i64 0])) w9 := fun w9 nx' en' m9 a b ⟨K9, v9, l9, r9, ⟨q0, q1, q2⟩, q3, q4⟩ => by
        have M9 : ModP K w1 w9 := MQ.trans m9 (fun k hk c => by
          rcases k2 k c with c | c
          · exact c
          · omega)
        refine RL.yes (by omega) HF.out hp ⟨K9, v9, l9, r9, ⟨by rw [q0, e0.out.1], by rw [q1, e0.out.2.1]; simp, by rw [q2, e0.out.2.2]⟩, fun k hk => q3 k (k1 k hk), fun k hk => ?_⟩ a b (rp_keepP HP2.out M9 kd.1 kd.2) ((HM0.out.weaken (K' := fun k => K k ∨ k = ry) (fun k _ c => .inr c)).trans ((HM2.out.weaken (K' := fun k => K k ∨ k = ry) (fun k _ c => .inr c)).trans M9 (fun k hk c => .inl c)) (fun k hk c => c))
        rcases q4 k hk with c | c
        · rcases k2 k c with c | c
          · exact .inl c
          · exact .inr (by omega)
        · exact .inr (by omega)
      have HFIN := Lib.hid fin
      have hz5 := MQ.size
      clear hr M3 M4 R3' R2 fin c3 e1 e2 MQ
      by_cases hn : n ≤ 64
      · have d6 : decide ((n : Int) ≤ 64) = true := decide_eq_true (by omega)
        have s9 : IntKind.i64.wrap ((64 : Int) * (p : Int) + 64) = (64 : Int) * (p : Int) + 64 := IntWalk.i64_in _ (by omega)
        have s10 : IntKind.i64.wrap ((64 : Int) * (p : Int) + n) = (64 : Int) * (p : Int) + n := IntWalk.i64_in _ (by omega)
        obtain ⟨R5, M5⟩ := R4.put 6 (.int .i64 ((64 : Int) * p)) (bl + N) (64 * p) en (by simp [refCells])
        obtain ⟨R6, M6⟩ := R5.put 7 (.int .i64 ((64 : Int) * p + 64)) (bl + N) (64 * p) (64 * p + 64) (by simp [refCells])
        obtain ⟨R7, M7⟩ := R6.put 6 (.int .i64 ((64 : Int) * p + n)) (bl + N) (64 * p + n) (64 * p + 64) (by simp [refCells])
        have c46 := R4.cells.2.2.2.1
        have f46 := R4.frozen 6
        have c57 := R5.cells.2.2.2.2
        have f57 := R5.frozen 7
        have c66 := R6.cells.2.2.2.1
        have f66 := R6.frozen 6
        obtain ⟨va, wb, vb, wc, ⟨b1, b2, ⟨qa, qc, qn, rfl⟩, b4, b5⟩, ⟨g1, g2, ⟨ra, rc, rn, rfl⟩, g4, g5⟩, K9, v9, l9, R9, e9, k3, k4, M9⟩ := tail R7 ((64 : Int) * p) (n : Int) l1' l2'
        simp only [sz] at b2
        have H1 := Lib.hid b2
        have H2 := Lib.hid g2
        have HX := Lib.hid (HFIN.out _ _ _ ((M5.trans M6 (fun _ _ c => c)).trans (M7.trans M9 (fun _ _ c => c)) (fun _ _ c => c)) (by rw [if_pos hn]) (by rw [if_pos hn]) ⟨K9, v9, l9, R9, e9, k3, fun k hk => by
          rcases k4 k hk with c | c
          · exact .inl c
          · have q : w1.heap.size ≤ k := by
              have a := M5.size
              have b := M6.size
              have d := M7.size
              omega
            exact .inr q⟩)
        clear b2 g2 R9 e9 k3 k4 M9 R5 M5 R6 M6 R7 M7 R4 HFIN hz4 hz5 k1 k2 l1' l2' fp1 fp2 hz2 f4 e0 n3 hml kd hne he hw hb l0 l1 l2 psm HP2 HR2 HM2 HF HM0 HP0 HZ0 R1 HR HP HW HN S3 h3
        go_upto_region 14 with (at_builtin; refine Rw.wp_append rfl (.tmp 64) (.tmp 66) 43 _ _ _ rfl rfl rfl H0.out ?_)
        clear H0 s5 s6 s7 d5 c0' cw c2 c3' f3 a1 a2
        go_upto_region 20 with (fail)
        go_upto_region 21 with (at_builtin; refine Rw.wp_append rfl (.tmp 104) (.tmp 106) 43 _ _ _ rfl rfl rfl H1.out ?_)
        clear H1
        go_wp2_with (at_builtin; refine Rw.wp_append rfl (.tmp 114) (.tmp 116) 43 _ _ _ rfl rfl rfl H2.out ?_)
        go_ret2
        exact HX.out
      · have d6 : decide ((n : Int) ≤ 64) = false := decide_eq_false (by omega)
        obtain ⟨va, wb, vb, wc, ⟨b1, b2, ⟨qa, qc, qn, rfl⟩, b4, b5⟩, ⟨g1, g2, ⟨ra, rc, rn, rfl⟩, g4, g5⟩, K9, v9, l9, R9, e9, k3, k4, M9⟩ := tail R4 ((64 : Int) * p) (n : Int) l1' l2'
        simp only [sz] at b2
        have H1 := Lib.hid b2
        have H2 := Lib.hid g2
        have HX := Lib.hid (HFIN.out _ _ _ M9 (by rw [if_neg hn]) (by rw [if_neg hn]) ⟨K9, v9, l9, R9, e9, k3, fun k hk => by
          rcases k4 k hk with c | c
          · exact .inl c
          · exact .inr (by omega)⟩)
        clear b2 g2 R9 e9 k3 k4 M9 R4 HFIN hz4 hz5 k1 k2 l1' l2' fp1 fp2 hz2 f4 e0 n3 hml kd hne he hw hb l0 l1 l2 psm HP2 HR2 HM2 HF HM0 HP0 HZ0 R1 HR HP HW HN S3 h3
        go_upto_region 14 with (at_builtin; refine Rw.wp_append rfl (.tmp 64) (.tmp 66) 43 _ _ _ rfl rfl rfl H0.out ?_)
        clear H0 s5 s6 s7 d5 c0' cw c2 c3' f3 a1 a2
        go_upto_region 20 with (fail)
        go_upto_region 21 with (at_builtin; refine Rw.wp_append rfl (.tmp 104) (.tmp 106) 43 _ _ _ rfl rfl rfl H1.out ?_)
        clear H1
        go_wp2_with (at_builtin; refine Rw.wp_append rfl (.tmp 114) (.tmp 116) 43 _ _ _ rfl rfl rfl H2.out ?_)
        go_ret2
        exact HX.out
    · have d5 : decide ((words : Int) < (64 : Int) * ((p : Int) + N)) = true := decide_eq_true (by omega)
      have FI := Lib.hid (rfree_back HW.out hml n1 HF.out HP2.out)
      clear R2 c2 c3 s5
      have s5 : IntKind.i64.wrap ((p : Int) + ((n : Int) + 63) / 64) = (p : Int) + N := by rw [S3.out]; exact IntWalk.i64_in _ (by omega)
      go_wp2_with fail
      refine FI.out.mono ?_
      rintro e w3 ⟨c, rfl, P3, m3⟩
      have M3 : ModP (fun k => k = ry) w1 w3 := ModP.of_mod m3 (fun k hk => by simpa using hk)
      have HX := Lib.hid (show RL w x y ry cy words B K l bl nx en fs n N (.returned (.tuple #[.int .i64 0, .int .i64 5])) w3 from
        RL.no (fun q hq => by rw [HF.out] at hq; cases hq; exact hp) ⟨_, HR2.out.keepP M3 (fun k hk c => by subst c; exact kd.2 hk)⟩ P3 (HM0.out.trans (HM2.out.trans M3 (fun _ _ c => c)) (fun _ _ c => c)))
      clear P3 m3 M3 FI
      go_wp2_with fail
      go_ret2
      exact HX.out
end
end Go.Proofs.Ytladhenjoipfpaa.Ry
