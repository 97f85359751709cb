/- A space has at most one block more than twice as many as its words need: the law BumpLittle. No condition. -/
import Derived.Test.YtladhenjoipfpaaAk
import Derived.Test.YtladhenjoipfpaaAc
set_option linter.unusedVariables false
set_option linter.unusedSimpArgs false
namespace Go.Proofs.Ytladhenjoipfpaa.LawLittle
open Go.RowKit
open Pl Rn Ov Lf Wl Gp Ct Sn Gq Tf Mt Rr Kp Sc Nn Tk La Rp Rq Mb S2 Ak
/-- Little is lost. -/
def Lit2 (σ : Sq) : Prop := 64 * σ.blocks ≤ 2 * σ.used + 64 ∧ 64 * σ.blocks ≤ 2 * σ.used + 2 * σ.left ∧ σ.left ≤ 64
theorem lit_new : 64 * Sq.new.blocks ≤ 2 * Sq.new.used + 64 ∧ 64 * Sq.new.blocks ≤ 2 * Sq.new.used + 2 * Sq.new.left ∧ Sq.new.left ≤ 64 := by simp [Sq.new]
theorem lit_lay {fs : List Int} {words : Nat} {σ : Sq} (n : Int) (h : Lit2 σ) : Lit2 (layA fs words σ n).2.2.2 := by
  obtain ⟨h1, h2, h3⟩ := h
  unfold layA
  split
  · exact ⟨h1, h2, h3⟩
  · split
    · exact ⟨h1, h2, h3⟩
    · rename_i hb x hx
      obtain ⟨p, fs', σ'⟩ := x
      obtain ⟨k, rfl⟩ : ∃ k : Nat, n = k := ⟨n.toNat, by omega⟩
      rw [Int.toNat_natCast] at hx
      show Lit2 σ'
      unfold layF at hx
      split at hx
      · rw [Option.map_eq_some_iff] at hx
        obtain ⟨⟨q, f, s⟩, he, e⟩ := hx
        obtain ⟨_, _, _, h4⟩ := takeF_some he
        simp only [Prod.mk.injEq] at e
        obtain ⟨_, _, rfl⟩ := e
        subst h4
        refine ⟨?_, ?_, ?_⟩ <;> simp only [fin] <;> omega
      · split at hx
        · rw [Option.map_eq_some_iff] at hx
          obtain ⟨⟨q, f, s⟩, he, e⟩ := hx
          obtain ⟨_, _, _, h4⟩ := takeF_some he
          simp only [Prod.mk.injEq] at e
          obtain ⟨_, _, rfl⟩ := e
          subst h4
          refine ⟨?_, ?_, ?_⟩ <;> simp only [fin] <;> omega
        · simp only [Option.some.injEq, Prod.mk.injEq] at hx
          obtain ⟨_, _, rfl⟩ := hx
          refine ⟨?_, ?_, ?_⟩ <;> simp only [fin] <;> omega
/-- On the way. -/
structure St (W w : World) (Z : Nat → Prop) (g a b ga ar s0 s1 j : Nat) : Prop where
  ex : ∃ fs xs σ0 σ1, Sp2 W w Z g a b ga ar s0 s1 fs xs σ0 σ1 ∧ Okn σ0 j ∧ Lit2 σ0
set_option maxHeartbeats 4000000 in
set_option maxRecDepth 100000 in
theorem law (W : World) (n : Nat) (hn : n ≤ 255) (A : Option Addr) (len cap : Nat) (L : Nat → Int × Int × Bool) (R : Ac.Acts W A len L) :
    Calls Try.prog 3 #[.int .u8 n, .slice A len cap] W fun e w => e = .returned (.bool true) ∧ Below W.heap.size W w := by
  have MI := Lib.hid (made_it W (n + 2) (64 * (n + 2)) (by omega) (by omega) (by omega) (by omega))
  have AW := Lib.hid awake_it
  have HR := Lib.hid R
  have hmax := R.max
  have s0' : IntKind.i64.wrap (n : Int) = (n : Int) := IntWalk.i64_in _ (by omega)
  have s1' : IntKind.i64.wrap ((n : Int) + 2) = (n : Int) + 2 := IntWalk.i64_in _ (by omega)
  have s2' : IntKind.i64.wrap (((n : Int) + 2) * 64) = ((n : Int) + 2) * 64 := IntWalk.i64_in _ (by omega)
  have e1 : ((n + 2 : Nat) : Int) = (n : Int) + 2 := by omega
  have e2 : ((64 * (n + 2) : Nat) : Int) = ((n : Int) + 2) * 64 := by omega
  rw [e1, e2] at MI
  clear R e1 e2
  go_enter Try.func3, Try.ntmps3
  go_wp2_with fail
  refine MI.out.mono ?_
  rintro e w1 ⟨wd, g, a, b, ga, ar, s0, m0, sp1, m1, x0, x1, y, ry, cy, K0, K1, rfl, M⟩
  have HM := Lib.hid M
  clear M MI s0' s1' s2'
  go_wp2_with fail
  refine (AW.out _).mono ?_
  rintro e w2 ⟨rfl, b2⟩
  have o2 := Kit.keepB HM.out.obj b2
  have c2 := (Kit.cell_of o2 2).trans rfl
  have S2 := Lib.hid (show St W w2 (fun k => k = wd ∨ k = x0 ∨ k = x1 ∨ k = y ∨ k = ry) g a b ga ar s0 sp1 0 from ⟨_, _, _, _, (Sp2.made HM.out).below b2, Okn.new, lit_new⟩)
  clear HM o2 b2 AW
  go_wp2_with fail
  clear c2
  go_loopg [7] 200 (fun k c wr => ∃ j : Nat, (j ≤ len ∧ j ≤ 200 ∧ k = 200 - j) ∧ c = .int .i64 j ∧ Hid (St W wr (fun k => k = wd ∨ k = x0 ∨ k = x1 ∨ k = y ∨ k = ry) g a b ga ar s0 sp1 j))
  case atStart => exact ⟨0, by omega, rfl, S2⟩
  case round =>
    obtain ⟨j, ⟨hj, hj2, rfl⟩, rfl, H⟩ := hrel
    obtain ⟨fs, xs, σ0, σ1, Q, O, LT⟩ := H.out.ex
    by_cases hlt : j < len ∧ j < 200
    · obtain ⟨l1, l2⟩ := hlt
      obtain ⟨bb, off, rfl, hb, hc⟩ := HR.out.cells (by omega)
      obtain ⟨_, c1, _, _, w1⟩ := hc j l1
      have c1 := (Q.bel.cell (p := ⟨bb, off + j * 3 + 1, none⟩) hb).trans c1
      generalize (L j).2.1 = m at *
      have LI := Lib.hid (lay_it Q (O.ok (by omega)) m)
      have NX := Lib.hid (show Okn (layA fs xs.length σ0 m).2.2.2 (j + 1) ∧ Lit2 (layA fs xs.length σ0 m).2.2.2 from ⟨O.layA m Q.env.small.2, lit_lay m LT⟩)
      generalize layA fs xs.length σ0 m = r at *
      clear Q O LT H hc w1
      go_wp2_with fail
      refine LI.out.mono ?_
      rintro e w3 ⟨rfl, Q3, _⟩
      obtain ⟨m0', B0', K0', vg, va, vm, m1', B1', K1', ug, ua, um, S0, S1, _⟩ := Q3.sp
      have BI := Lib.hid (blocks_it S0)
      have UI := Lib.hid (used_it S0)
      have HQ3 := Lib.hid Q3
      obtain ⟨⟨ok1, ok2, ok3, ok4, ok5, ok6⟩, lt1, lt2, lt3⟩ := NX.out
      have q1 : decide (2 * (((r.2.2.2.used : Int) + 64 - 1) / 64) + 1 < (r.2.2.2.blocks : Int)) = false := decide_eq_false (by omega)
      generalize hbl : r.2.2.2.blocks = bl at *
      generalize hus : r.2.2.2.used = us at *
      have z1 : IntKind.i64.wrap ((us : Int) + 64) = (us : Int) + 64 := IntWalk.i64_in _ (by omega)
      have z2 : IntKind.i64.wrap ((us : Int) + 64 - 1) = (us : Int) + 64 - 1 := IntWalk.i64_in _ (by omega)
      have z3 : IntKind.i64.wrap (2 * (((us : Int) + 64 - 1) / 64)) = 2 * (((us : Int) + 64 - 1) / 64) := IntWalk.i64_in _ (by omega)
      have z4 : IntKind.i64.wrap (2 * (((us : Int) + 64 - 1) / 64) + 1) = 2 * (((us : Int) + 64 - 1) / 64) + 1 := IntWalk.i64_in _ (by omega)
      have bu : us ≤ 4096 * 201 := by omega
      clear S0 S1 Q3 LI hbl hus ok1 ok2 ok3 ok4 ok5 ok6 lt1 lt2 lt3 c1
      go_wp2_with fail
      refine BI.out.mono ?_
      rintro e _ ⟨rfl, rfl⟩
      go_wp2_with fail
      refine UI.out.mono ?_
      rintro e _ ⟨rfl, rfl⟩
      go_wp2_with fail
      go_roundg (200 - (j + 1))
      case measure => omega
      case rel => exact ⟨j + 1, ⟨by omega, by omega, rfl⟩, by simp, ⟨_, _, _, _, HQ3.out, NX.out.1, NX.out.2⟩⟩
    · have HB := Lib.hid Q.bel
      clear Q O LT H S2
      rcases (show (j < len ∧ j = 200) ∨ j = len by omega) with ⟨l1, rfl⟩ | rfl
      all_goals
        clear hlt
        go_wp2_with fail
        go_ret
        exact ⟨rfl, HB.out⟩
end Go.Proofs.Ytladhenjoipfpaa.LawLittle
