/- Two spaces of one pool and arena, and the document's: the law's helper made. No condition. -/
import Derived.Test.YtladhenjoipfpaaLa
import Derived.RegionTactic
import Derived.BigRegion
set_option linter.unusedVariables false
set_option linter.unusedSimpArgs false
namespace Go.Proofs.Ytladhenjoipfpaa.Mb
open Go.RowKit
open Pl Rn Ov Lf Wl Gp Ct Sn Gq Tf Mt Rr Kp Sc Nn Tk La Rp Rq
def fs0 (N : Nat) : List Int := fill (List.replicate N (-1)) 0 1 0
theorem fs0_length (N : Nat) (h : 1 ≤ N) : (fs0 N).length = N := by
  unfold fs0; rw [fill_length _ 0 1 0 (by simp; omega)]; simp
abbrev refCells (y words : Nat) (vg va vm : Value) (blocks next last : Nat) : Array Value := #[.pointer (some ⟨y, 0, none⟩), .int .i64 (words : Int), vg, .int .i64 (blocks : Int), va, vm, .int .i64 (next : Int), .int .i64 (last : Int)]
theorem one_split {x : Nat × Nat} {ini post : List (Nat × Nat)} {p k : Nat} (h : [x] = ini ++ (p, k) :: post) : ini = [] ∧ (p, k) = x := by
  rcases ini with _ | ⟨a, t⟩
  · simp at h; exact ⟨rfl, h.1.symm⟩
  · simp at h
/-- Alloc where there is one run, and it is long enough. -/
theorem alloc_first (w : World) (g a b : Nat) (fs ms : List Int) (N p k : Nat) (WF : Wf fs ms) (P : Pool w g a b fs ms) (h1 : 1 ≤ N) (hr : runsFrom fs 0 = [(p, k)]) (hk : N ≤ k) (h2 : N ≤ 4096) :
    Calls Try.prog 25 #[.pointer (some ⟨g, 0, none⟩), .int .i64 N] w fun e w' => e = .returned (.tuple #[.int .i64 p, .int .i64 0]) ∧ Pool w' g a b (fill fs p N p) (ms.set p (N : Int)) ∧ Kit.Mod [a, b] w w' := by
  refine (Al.alloc_all w g a b fs ms N WF P h1 (by omega)).mono ?_
  rintro e w' (⟨rfl, h, _⟩ | ⟨ini, p', k', post, e1, _, _, rfl, h, m⟩)
  · have := h (p, k) (by rw [hr]; simp)
    simp at this
    omega
  · rw [hr] at e1
    obtain ⟨_, e2⟩ := one_split e1
    simp only [Prod.mk.injEq] at e2
    obtain ⟨rfl, rfl⟩ := e2
    exact ⟨rfl, h, m⟩
/-- What made leaves. -/
structure Made (W w : World) (N words wd g a b ga ar s0 m0 s1 m1 x0 x1 y ry cy : Nat) (K0 K1 : Nat → Prop) : Prop where
  obj : w.heap[wd]? = some (.cells #[.pointer (some ⟨g, 0, none⟩), .pointer (some ⟨ga, 0, none⟩), .pointer (some ⟨s0, 0, none⟩), .pointer (some ⟨s1, 0, none⟩), .pointer (some ⟨x0, 0, none⟩), .pointer (some ⟨x1, 0, none⟩)] 33 (0, 0))
  env : Env w g a b ga ar (fs0 N) (List.replicate words 0)
  sp0 : ∃ B, Sv w s0 g ga m0 B K0 (.slice none 0 0) (.slice none 0 0) (.slice none 0 0) Sq.new
  sp1 : ∃ B, Sv w s1 g ga m1 B K1 (.slice none 0 0) (.slice none 0 0) (.slice none 0 0) Sq.new
  k01 : ∀ k, K0 k → ¬ K1 k
  kw : ¬ K0 wd ∧ ¬ K1 wd
  dj : Dj K0 g a b ga ar ∧ Dj K1 g a b ga ar
  low : ∀ k, K0 k ∨ K1 k ∨ k = wd ∨ k = g ∨ k = a ∨ k = b ∨ k = ga ∨ k = ar ∨ k = x0 ∨ k = x1 ∨ k = y ∨ k = ry → W.heap.size ≤ k
  rp : RP w y ry cy (fs0 N)
  rx0 : w.heap[x0]? = some (.cells (refCells y words (.slice none 0 0) (.slice none 0 0) (.slice none 0 0) 0 0 0) 67 (0, 0))
  rx1 : w.heap[x1]? = some (.cells (refCells y words (.slice none 0 0) (.slice none 0 0) (.slice none 0 0) 0 0 0) 67 (0, 0))
  bel : Below W.heap.size W w
  wn : wd ≠ a ∧ wd ≠ b ∧ wd ≠ ar
  xn : ∀ x, x = x0 ∨ x = x1 ∨ x = y ∨ x = ry → ¬ K0 x ∧ ¬ K1 x ∧ x ≠ wd ∧ x ≠ g ∧ x ≠ a ∧ x ≠ b ∧ x ≠ ga ∧ x ≠ ar
  xx : x0 ≠ x1 ∧ x0 ≠ y ∧ x0 ≠ ry ∧ x1 ≠ y ∧ x1 ≠ ry
theorem round_one {w : World} {wd g ga : Nat} (h : w.heap[wd]? = some (.cells #[.pointer (some ⟨g, 0, none⟩), .pointer (some ⟨ga, 0, none⟩), .pointer none, .pointer none, .pointer none, .pointer none] 33 (0, 0))) (s y words : Nat) :
    let w' := (((w.setCell ⟨wd, 2, none⟩ (.pointer (some ⟨s, 0, none⟩))).setCell ⟨wd, 4, none⟩ (.pointer (some ⟨w.heap.size, 0, none⟩))).alloc (.cells (refCells y words (.slice none 0 0) (.slice none 0 0) (.slice none 0 0) 0 0 0) 67)).drew
    w'.heap[wd]? = some (.cells #[.pointer (some ⟨g, 0, none⟩), .pointer (some ⟨ga, 0, none⟩), .pointer (some ⟨s, 0, none⟩), .pointer none, .pointer (some ⟨w.heap.size, 0, none⟩), .pointer none] 33 (0, 0)) ∧
      w'.heap[w.heap.size]? = some (.cells (refCells y words (.slice none 0 0) (.slice none 0 0) (.slice none 0 0) 0 0 0) 67 (0, 0)) ∧ ModP (fun k => k = wd) w w' ∧ w'.heap.size = w.heap.size + 1 := by
  intro w'
  have h1 := Kit.set_blk (Kit.set_blk h 2 (.pointer (some ⟨s, 0, none⟩))) 4 (.pointer (some ⟨w.heap.size, 0, none⟩))
  have sz : ((w.setCell ⟨wd, 2, none⟩ (.pointer (some ⟨s, 0, none⟩))).setCell ⟨wd, 4, none⟩ (.pointer (some ⟨w.heap.size, 0, none⟩))).heap.size = w.heap.size := by simp [World.setCell]
  refine ⟨?_, ?_, ?_, ?_⟩
  · have := Kit.keep_alloc h1 (.cells (refCells y words (.slice none 0 0) (.slice none 0 0) (.slice none 0 0) 0 0 0) 67)
    refine Eq.trans (show w'.heap[wd]? = _ from this) ?_
    simp
  · have := Kit.new_blk ((w.setCell ⟨wd, 2, none⟩ (.pointer (some ⟨s, 0, none⟩))).setCell ⟨wd, 4, none⟩ (.pointer (some ⟨w.heap.size, 0, none⟩))) (.cells (refCells y words (.slice none 0 0) (.slice none 0 0) (.slice none 0 0) 0 0 0) 67)
    rw [sz] at this
    exact this
  · exact ((((ModP.refl (fun k => k = wd) w).setCell (p := ⟨wd, 2, none⟩) (.inl rfl) _).setCell (p := ⟨wd, 4, none⟩) (.inl rfl) _).alloc _).drewN 1
  · show (World.alloc _ _).heap.size = _
    rw [World.size_alloc, sz]
theorem round_two {w : World} {wd g ga s0 x0 : Nat} (h : w.heap[wd]? = some (.cells #[.pointer (some ⟨g, 0, none⟩), .pointer (some ⟨ga, 0, none⟩), .pointer (some ⟨s0, 0, none⟩), .pointer none, .pointer (some ⟨x0, 0, none⟩), .pointer none] 33 (0, 0))) (s y words : Nat) :
    let w' := (((w.setCell ⟨wd, 3, none⟩ (.pointer (some ⟨s, 0, none⟩))).setCell ⟨wd, 5, none⟩ (.pointer (some ⟨w.heap.size, 0, none⟩))).alloc (.cells (refCells y words (.slice none 0 0) (.slice none 0 0) (.slice none 0 0) 0 0 0) 67)).drew
    w'.heap[wd]? = some (.cells #[.pointer (some ⟨g, 0, none⟩), .pointer (some ⟨ga, 0, none⟩), .pointer (some ⟨s0, 0, none⟩), .pointer (some ⟨s, 0, none⟩), .pointer (some ⟨x0, 0, none⟩), .pointer (some ⟨w.heap.size, 0, none⟩)] 33 (0, 0)) ∧
      w'.heap[w.heap.size]? = some (.cells (refCells y words (.slice none 0 0) (.slice none 0 0) (.slice none 0 0) 0 0 0) 67 (0, 0)) ∧ ModP (fun k => k = wd) w w' ∧ w'.heap.size = w.heap.size + 1 := by
  intro w'
  have h1 := Kit.set_blk (Kit.set_blk h 3 (.pointer (some ⟨s, 0, none⟩))) 5 (.pointer (some ⟨w.heap.size, 0, none⟩))
  have sz : ((w.setCell ⟨wd, 3, none⟩ (.pointer (some ⟨s, 0, none⟩))).setCell ⟨wd, 5, none⟩ (.pointer (some ⟨w.heap.size, 0, none⟩))).heap.size = w.heap.size := by simp [World.setCell]
  refine ⟨?_, ?_, ?_, ?_⟩
  · have := Kit.keep_alloc h1 (.cells (refCells y words (.slice none 0 0) (.slice none 0 0) (.slice none 0 0) 0 0 0) 67)
    refine Eq.trans (show w'.heap[wd]? = _ from this) ?_
    simp
  · have := Kit.new_blk ((w.setCell ⟨wd, 3, none⟩ (.pointer (some ⟨s, 0, none⟩))).setCell ⟨wd, 5, none⟩ (.pointer (some ⟨w.heap.size, 0, none⟩))) (.cells (refCells y words (.slice none 0 0) (.slice none 0 0) (.slice none 0 0) 0 0 0) 67)
    rw [sz] at this
    exact this
  · exact ((((ModP.refl (fun k => k = wd) w).setCell (p := ⟨wd, 3, none⟩) (.inl rfl) _).setCell (p := ⟨wd, 5, none⟩) (.inl rfl) _).alloc _).drewN 1
  · show (World.alloc _ _).heap.size = _
    rw [World.size_alloc, sz]
set_option maxHeartbeats 4000000 in
set_option maxRecDepth 100000 in
theorem made_it (W : World) (N words : Nat) (h1 : 1 ≤ N) (h2 : N ≤ 4096) (h3 : 1 ≤ words) (h4 : words ≤ 524288) :
    Calls Try.prog 8 #[.int .i64 N, .int .i64 words] W fun e w => ∃ wd g a b ga ar s0 m0 s1 m1 x0 x1 y ry cy K0 K1, e = .returned (.pointer (some ⟨wd, 0, none⟩)) ∧ Made W w N words wd g a b ga ar s0 m0 s1 m1 x0 x1 y ry cy K0 K1 := by
  have NP := Lib.hid (new_it W N h1 h2)
  go_enter Try.func8, Try.ntmps8
  go_wp2_with fail
  refine NP.out.mono ?_
  rintro e w1 ⟨g, a, b, rfl, P1, ⟨og, oa, ob⟩, b1⟩
  have NA := Lib.hid (Ar.new_ok w1 words (by omega) (by omega))
  have HP1 := Lib.hid P1
  have B1 := Lib.hid b1
  clear P1 b1 NP
  go_wp2_with fail
  refine NA.out.mono ?_
  rintro e w2 ⟨ga, ar, rfl, oga, oar, A2, b2⟩
  have neg : ∀ i, i < N → (List.replicate N (-1 : Int)).getD i 0 < 0 := fun i hi => by
    rw [List.getD_eq_getElem?_getD, List.getElem?_replicate, if_pos hi]; decide
  have hlen : (List.replicate N (-1 : Int)).length = N := by simp
  have AF := Lib.hid (alloc_first w2 g a b (List.replicate N (-1)) _ 1 0 N (wf_new N) (HP1.out.keepB b2) (by omega) (runs_all N h1) (by omega) (by omega))
  have A2' := A2
  rw [Int.toNat_natCast] at A2'
  have HA2 := Lib.hid A2'
  have B2 := Lib.hid (Kit.stepB B1.out b2)
  have z1 := B1.out.size
  have la := Kit.lt_of HP1.out.one
  have lb := Kit.lt_of HP1.out.two
  have lg := Kit.lt_of HP1.out.obj
  have HN := Lib.hid neg
  have HLE := Lib.hid hlen
  clear A2 A2' b2 NA neg hlen
  go_wp2_with fail
  refine AF.out.mono ?_
  rintro e w3 ⟨rfl, P3, m3⟩
  have B3 := Lib.hid (Kit.step B2.out m3 (by simp; omega))
  have HP3 := Lib.hid P3
  have HA3 := Lib.hid (HA2.out.keep m3 (by simp; omega) (by simp; omega))
  have WF3 := Lib.hid (wf_alloc (wf_new N) (by simp) 0 1 (by omega) (by rw [HLE.out]; omega) (fun i _ hi => HN.out i (by omega)))
  have RN := Lib.hid (rnew_it w3 N h1 h2)
  clear P3 m3 AF
  go_wp2_with fail
  refine RN.out.mono ?_
  rintro e w4 ⟨y, ry, cy, rfl, R4, ⟨oy, ory⟩, b4⟩
  have HR4 := Lib.hid R4
  have P4 := Lib.hid (HP3.out.keepB b4)
  have A4 := Lib.hid (HA3.out.keepB b4)
  have B4 := Lib.hid (Kit.stepB B3.out b4)
  have z3 := B3.out.size
  have RA := Lib.hid (ralloc_it R4 0 1 (by omega) ⟨by rw [HLE.out]; omega, fun i _ hi => HN.out i (by omega)⟩ (fun q hq => by omega))
  have la3 := Kit.lt_of HP3.out.one
  have lb3 := Kit.lt_of HP3.out.two
  have lg3 := Kit.lt_of HP3.out.obj
  have lga3 := Kit.lt_of HA3.out.obj
  have lar3 := Kit.lt_of HA3.out.row
  clear R4 b4 RN
  go_wp2_with fail
  refine RA.out.mono ?_
  rintro e w5 ⟨rfl, R5, m5⟩
  have HR5 := Lib.hid R5
  have P5 := Lib.hid (P4.out.keep m5 (by simp; omega) (by simp; omega) (by simp; omega))
  have A5 := Lib.hid (A4.out.keep m5 (by simp; omega) (by simp; omega))
  have B5 := Lib.hid (Kit.step1 B4.out m5 (by omega))
  clear R5 m5 RA HP1 B1 HA2 B2 HP3 HA3 B3 P4 A4 B4 HR4
  go_wp2_with fail
  refine wp_loop_rounds 3 ?_
  rw [rounds_succ]
  go_wp2_with fail
  have V0 := Kit.new_blk w5 (.cells #[.pointer (some ⟨g, 0, none⟩), .pointer (some ⟨ga, 0, none⟩), .pointer none, .pointer none, .pointer none, .pointer none] 33)
  have VB := Kit.allocB (Below.refl w5.heap.size w5) (.cells #[.pointer (some ⟨g, 0, none⟩), .pointer (some ⟨ga, 0, none⟩), .pointer none, .pointer none, .pointer none, .pointer none] 33)
  have VS : (w5.alloc (.cells #[.pointer (some ⟨g, 0, none⟩), .pointer (some ⟨ga, 0, none⟩), .pointer none, .pointer none, .pointer none, .pointer none] 33)).heap.size = w5.heap.size + 1 := by simp
  generalize w5.alloc (.cells #[.pointer (some ⟨g, 0, none⟩), .pointer (some ⟨ga, 0, none⟩), .pointer none, .pointer none, .pointer none, .pointer none] 33) = V at *
  obtain ⟨wd, hwd⟩ : ∃ wd, wd = w5.heap.size := ⟨_, rfl⟩
  rw [← hwd] at V0 VS ⊢
  have NS := Lib.hid (new_space V g ga)
  have HV0 := Lib.hid V0
  have HVB := Lib.hid VB
  have HVS := Lib.hid (And.intro VS hwd)
  clear V0 VB VS hwd
  refine NS.out.mono ?_
  rintro e w6 ⟨rfl, b6, z6, S6⟩
  have c6 := Kit.keepB HV0.out b6
  have q2 := (Kit.cell_of c6 2).trans rfl
  have q4 := (Kit.cell_of c6 4).trans rfl
  have f2 := Kit.frozen_of c6 2
  have f4 := Kit.frozen_of c6 4
  have l6 := Kit.lt_of c6
  have HS6 := Lib.hid S6
  have HC6 := Lib.hid c6
  have B6 := Lib.hid (And.intro b6 z6)
  clear S6 c6 b6 z6 NS
  go_wp2_with fail
  go_region
  have R7 := Lib.hid (round_one HC6.out (V.heap.size + 1) y words)
  generalize ((((w6.setCell ⟨wd, 2, none⟩ (.pointer (some ⟨V.heap.size + 1, 0, none⟩))).setCell ⟨wd, 4, none⟩ (.pointer (some ⟨w6.heap.size, 0, none⟩))).alloc (.cells (refCells y words (.slice none 0 0) (.slice none 0 0) (.slice none 0 0) 0 0 0) 67)).drew) = w7 at *
  clear q2 q4 f2 f4 HC6
  go_wp2_with fail
  rw [rounds_succ]
  go_wp2_with fail
  have NS := Lib.hid (new_space w7 g ga)
  refine NS.out.mono ?_
  rintro e w8 ⟨rfl, b8, z8, S8⟩
  have c8 := Kit.keepB R7.out.1 b8
  have q3 := (Kit.cell_of c8 3).trans rfl
  have q5 := (Kit.cell_of c8 5).trans rfl
  have f3 := Kit.frozen_of c8 3
  have f5 := Kit.frozen_of c8 5
  have l8 := Kit.lt_of c8
  have HS8 := Lib.hid S8
  have HC8 := Lib.hid c8
  have B8 := Lib.hid (And.intro b8 z8)
  clear S8 c8 b8 z8 NS
  go_wp2_with fail
  go_region
  have R9 := Lib.hid (round_two HC8.out (w7.heap.size + 1) y words)
  generalize ((((w8.setCell ⟨wd, 3, none⟩ (.pointer (some ⟨w7.heap.size + 1, 0, none⟩))).setCell ⟨wd, 5, none⟩ (.pointer (some ⟨w8.heap.size, 0, none⟩))).alloc (.cells (refCells y words (.slice none 0 0) (.slice none 0 0) (.slice none 0 0) 0 0 0) 67)).drew) = w9 at *
  clear q3 q5 f3 f5 HC8
  go_wp2_with fail
  rw [rounds_succ]
  go_wp2_with fail
  go_ret
  have hVS := HVS.out
  obtain ⟨r71, r72, r73, r74⟩ := R7.out
  obtain ⟨r91, r92, r93, r94⟩ := R9.out
  obtain ⟨b6, z6⟩ := B6.out
  obtain ⟨b8, z8⟩ := B8.out
  have P5' := P5.out
  have A5' := A5.out
  have R5' := HR5.out
  have p1 := Kit.lt_of P5'.obj
  have p2 := Kit.lt_of P5'.one
  have p3 := Kit.lt_of P5'.two
  have p4 := Kit.lt_of A5'.obj
  have p5 := Kit.lt_of A5'.row
  have p6 := Kit.lt_of R5'.obj
  obtain ⟨cur, hcur, _⟩ := R5'.row
  have p7 := Kit.lt_of hcur
  have z5 := B5.out.size
  have M1 : ModP (fun k => k = wd) w5 w9 := (((((ModP.of_below (K := fun k => k = wd) HVB.out).trans (ModP.of_below (K := fun k => k = wd) b6) (fun _ _ c => c)).trans r73 (fun _ _ c => c)).trans (ModP.of_below (K := fun k => k = wd) b8) (fun _ _ c => c)).trans r93 (fun _ _ c => c))
  have E5 : Env w5 g a b ga ar (fs0 N) (List.replicate words 0) := ⟨⟨_, P5', WF3.out⟩, A5', by omega⟩
  refine ⟨wd, g, a, b, ga, ar, V.heap.size + 1, V.heap.size, w7.heap.size + 1, w7.heap.size, w6.heap.size, w8.heap.size, y, ry, cy, (fun k => k = V.heap.size ∨ k = V.heap.size + 1), (fun k => k = w7.heap.size ∨ k = w7.heap.size + 1), rfl, ⟨r91, E5.keepP M1 (by omega), ⟨V.heap.size + 2, ?_⟩, ⟨w7.heap.size + 2, HS8.out.keepP r93 (fun k hk c => by omega)⟩, ?_, ⟨by omega, by omega⟩, ⟨by unfold Dj; dsimp only; omega, by unfold Dj; dsimp only; omega⟩, fun k hk => by omega, ?_, ?_, r92, Mt.step B5.out M1 (fun k hk => by omega), by omega, fun x hx => by omega, by omega⟩⟩
  · exact ((HS6.out.keepP r73 (fun k hk c => by omega)).keepB b8).keepP r93 (fun k hk c => by omega)
  · intro k hk c
    omega
  · have hk := HR5.out
    exact ⟨(M1.block y p6 (by omega)).trans hk.obj, by
      obtain ⟨cur, h1, h2⟩ := hk.row
      exact ⟨cur, (M1.block ry p7 (by omega)).trans h1, h2⟩, hk.ne, hk.small⟩
  · exact (r93.block _ (by omega) (by omega)).trans ((b8.block _ (by omega)).trans r72)
end Go.Proofs.Ytladhenjoipfpaa.Mb
