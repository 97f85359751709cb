/- A space's plain calls; what must come at any rate. No condition. -/
import Derived.Test.YtladhenjoipfpaaS2
set_option linter.unusedVariables false
set_option linter.unusedSimpArgs false
namespace Go.Proofs.Ytladhenjoipfpaa.Ak
open Go.RowKit
open Pl Rn Ov Lf Wl Gp Ct Sn Gq Tf Mt Rr Kp Sc Nn Tk La Rp Rq Mb S2
section
variable {w : World} {s g ga m B : Nat} {K : Nat → Prop} {vg va vm : Value} {σ : Sq}
theorem blocks_it (S : Sv w s g ga m B K vg va vm σ) : Calls Try.prog 11 #[.pointer (some ⟨s, 0, none⟩)] w fun e w' => e = .returned (.int .i64 (σ.blocks : Int)) ∧ w' = w := by
  obtain ⟨⟨_, _, _, c3, _⟩, _⟩ := S.cells
  clear S
  go_enter Try.func11, Try.ntmps11
  go_wp2_with fail
  go_ret
  exact ⟨rfl, rfl⟩
theorem used_it (S : Sv w s g ga m B K vg va vm σ) : Calls Try.prog 12 #[.pointer (some ⟨s, 0, none⟩)] w fun e w' => e = .returned (.int .i64 (σ.used : Int)) ∧ w' = w := by
  obtain ⟨_, _, _, c7, _⟩ := S.cells
  clear S
  go_enter Try.func12, Try.ntmps12
  go_wp2_with fail
  go_ret
  exact ⟨rfl, rfl⟩
def hasB (σ : Sq) (k : Int) : Bool := decide (k ∈ fI σ.lays)
theorem has_it (S : Sv w s g ga m B K vg va vm σ) (k : Int) (hk : (Lit.int .i64 k).wf = true) : Calls Try.prog 20 #[.pointer (some ⟨s, 0, none⟩), .int .i64 k] w fun e w' => e = .returned (.bool (hasB σ k)) ∧ w' = w := by
  obtain ⟨_, _, c6, _⟩ := S.cells
  have hl := S.marks.lookup k hk
  clear S hk
  unfold hasB
  by_cases h : k ∈ fI σ.lays
  · rw [if_pos h] at hl
    rw [decide_eq_true h]
    clear h
    go_enter Try.func20, Try.ntmps20
    go_wp2_with fail
    go_ret
    exact ⟨rfl, rfl⟩
  · rw [if_neg h] at hl
    rw [decide_eq_false h]
    clear h
    go_enter Try.func20, Try.ntmps20
    go_wp2_with fail
    go_ret
    exact ⟨rfl, rfl⟩
end
def A0 : List Int := [0, -1, -1, -1]
def A1 : List Int := [0, 1, -1, -1]
def A2 : List Int := [0, 1, 2, -1]
theorem runs0 : runsFrom A0 0 = [(1, 3)] := by
  rw [runs_taken 0 (by decide) (by decide), runs_free 1 (by decide) (by decide), show fl A0 1 = 3 by decide, runs_end 4 (by decide)]
theorem runs1 : runsFrom A1 0 = [(2, 2)] := by
  rw [runs_taken 0 (by decide) (by decide), runs_taken 1 (by decide) (by decide), runs_free 2 (by decide) (by decide), show fl A1 2 = 2 by decide, runs_end 4 (by decide)]
theorem runs2 : runsFrom A2 0 = [(3, 1)] := by
  rw [runs_taken 0 (by decide) (by decide), runs_taken 1 (by decide) (by decide), runs_taken 2 (by decide) (by decide), runs_free 3 (by decide) (by decide), show fl A2 3 = 1 by decide, runs_end 4 (by decide)]
def T1 : Sq := ⟨[1], 1, [(64, 3)], 3, 67, 61⟩
def T2 : Sq := ⟨[1], 1, [(64, 3), (67, 60)], 63, 127, 1⟩
def T3 : Sq := ⟨[1, 2], 2, [(64, 3), (67, 60), (128, 2)], 65, 130, 62⟩
theorem step1 : layA (fs0 4) 256 Sq.new 3 = (64, 0, A1, T1) := by
  have f : findR (fs0 4) 1 = some 1 := by
    show findR A0 1 = _
    unfold findR; rw [runs0]; rfl
  unfold layA
  rw [if_neg (by decide)]
  unfold layF
  rw [if_neg (by decide), if_pos (by decide)]
  unfold takeF
  rw [f]
  rfl
theorem step2 : layA A1 256 T1 60 = (67, 0, A1, T2) := by
  unfold layA
  rw [if_neg (by decide)]
  unfold layF
  rw [if_neg (by decide), if_neg (by decide)]
  rfl
theorem step3 : layA A1 256 T2 2 = (128, 0, A2, T3) := by
  have f : findR A1 1 = some 2 := by unfold findR; rw [runs1]; rfl
  unfold layA
  rw [if_neg (by decide)]
  unfold layF
  rw [if_neg (by decide), if_pos (by decide)]
  unfold takeF
  rw [f]
  rfl
theorem step4 : layA A2 256 T3 70 = (0, 5, A2, T3) := by
  have f : findR A2 2 = none := by unfold findR; rw [runs2]; rfl
  unfold layA
  rw [if_neg (by decide)]
  unfold layF
  rw [if_pos (by decide)]
  have t : takeF A2 256 T3 ((Int.toNat 70 + 63) / 64) = none := by
    show takeF A2 256 T3 2 = none
    unfold takeF
    rw [f]
  rw [t]
  rfl
set_option maxHeartbeats 4000000 in
set_option maxRecDepth 100000 in
theorem awake_it (W : World) : Calls Try.prog 9 #[] W fun e w => e = .returned (.bool true) ∧ Below W.heap.size W w := by
  have MI := Lib.hid (made_it W 4 256 (by decide) (by decide) (by decide) (by decide))
  go_enter Try.func9, Try.ntmps9
  go_wp2_with fail
  refine MI.out.mono ?_
  rintro e w1 ⟨wd, g, a, b, ga, ar, s0, m0, s1, m1, x0, x1, y, ry, cy, K0, K1, rfl, M⟩
  have Q := Sp2.made M
  have o1 := M.obj
  have c2 := (Kit.cell_of o1 2).trans rfl
  have L1 := lay_it Q (Okn.new.ok (by omega)) 3
  rw [List.length_replicate, step1] at L1
  have HL1 := Lib.hid L1
  have HO := Lib.hid o1
  clear L1 M Q o1 MI
  go_wp2_with fail
  refine HL1.out.mono ?_
  rintro e w2 ⟨rfl, Q2, k2⟩
  have o2 := (k2.2 wd (.inl rfl)).trans HO.out
  have c2 := (Kit.cell_of o2 2).trans rfl
  have L2 := lay_it Q2 (⟨by decide, by decide, by decide, by decide, by decide, by decide⟩) 60
  have hx : (layX (List.replicate 256 0) (64, 0, A1, T1) 3).length = 256 := by rw [layX_length, List.length_replicate]
  rw [hx, step2] at L2
  have HL2 := Lib.hid L2
  have HO2 := Lib.hid o2
  have HX := Lib.hid hx
  clear L2 Q2 k2 o2 HO HL1 hx
  go_wp2_with fail
  refine HL2.out.mono ?_
  rintro e w3 ⟨rfl, Q3, k3⟩
  have o3 := (k3.2 wd (.inl rfl)).trans HO2.out
  have c2 := (Kit.cell_of o3 2).trans rfl
  have L3 := lay_it Q3 (⟨by decide, by decide, by decide, by decide, by decide, by decide⟩) 2
  rw [layX_length, HX.out, step3] at L3
  have HL3 := Lib.hid L3
  have HO3 := Lib.hid o3
  clear L3 Q3 k3 o3 HO2 HL2
  go_wp2_with fail
  refine HL3.out.mono ?_
  rintro e w4 ⟨rfl, Q4, k4⟩
  have o4 := (k4.2 wd (.inl rfl)).trans HO3.out
  have c2 := (Kit.cell_of o4 2).trans rfl
  have L4 := lay_it Q4 (⟨by decide, by decide, by decide, by decide, by decide, by decide⟩) 70
  rw [layX_length, layX_length, HX.out, step4] at L4
  have HL4 := Lib.hid L4
  have HO4 := Lib.hid o4
  clear L4 Q4 k4 o4 HO3 HL3
  go_wp2_with fail
  refine HL4.out.mono ?_
  rintro e w5 ⟨rfl, Q5, k5⟩
  have o5 := (k5.2 wd (.inl rfl)).trans HO4.out
  have c2 := (Kit.cell_of o5 2).trans rfl
  have HB := Lib.hid Q5.bel
  obtain ⟨m0', B0', K0', vg, va, vm, m1', B1', K1', ug, ua, um, S0, S1, d, j, l⟩ := Q5.sp
  have BI := Lib.hid (blocks_it S0)
  have HI := Lib.hid (has_it S0 67 (by decide))
  clear Q5 k5 o5 HO4 HL4 S0 S1 d j l
  have hb : hasB T3 67 = true := by decide
  rw [hb] at HI
  clear hb
  go_wp2_with fail
  refine BI.out.mono ?_
  rintro e _ ⟨rfl, rfl⟩
  go_wp2_with fail
  refine HI.out.mono ?_
  rintro e _ ⟨rfl, rfl⟩
  go_wp2_with fail
  go_ret
  exact ⟨rfl, HB.out⟩
end Go.Proofs.Ytladhenjoipfpaa.Ak
