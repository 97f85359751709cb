/- Groups and runs are apart, and together all blocks: the law PoolApart. No condition. -/
import Derived.Test.YtlhgdcimchmldaaGq
set_option linter.unusedVariables false
set_option linter.unusedSimpArgs false
namespace Go.Proofs.Ytlhgdcimchmldaa.LawApart
open Go.RowKit
open Pl Rn Ov Lf Wl Ct Nn Pw Md Gp Gs Sn Gq Pq
theorem cov_le (l : List (Nat × Nat)) (k : Nat) : cov l k ≤ l.length := List.length_filter_le _ _
theorem cov_take (T : List (Nat × Nat)) (i k : Nat) (r : Nat × Nat) (hr : T[i]? = some r) : cov (T.take (i + 1)) k = cov (T.take i) k + if r.1 ≤ k ∧ k < r.1 + r.2 then 1 else 0 := by
  rw [List.take_add_one, hr, cov_append]
  simp only [Option.toList]
  rw [cov_one]
/-- How often each block was met. -/
structure Met (w : World) (r n : Nat) (T : List (Nat × Nat)) (i a c : Nat) : Prop where
  ex : ∃ M : List Int, w.heap[r]? = some (Rw.row .i64 3 M) ∧ M.length = n + 1 ∧ ∀ k, k < n + 1 → M.getD k 0 = ((cov (T.take i) k + if a ≤ k ∧ k < c then 1 else 0 : Nat) : Int)
theorem Met.step {w : World} {r n : Nat} {T : List (Nat × Nat)} {i a c : Nat} (h : Met w r n T i a c) (hac : a ≤ c) (hc : c < n + 1) : ∃ x : Nat, x ≤ T.length + 1 ∧ w.cell? ⟨r, c, none⟩ = some (.int .i64 x) ∧ w.frozen? ⟨r, c, none⟩ = false ∧ Met (w.setCell ⟨r, c, none⟩ (.int .i64 ((x : Int) + 1))) r n T i a (c + 1) := by
  obtain ⟨M, hM, hl, hk⟩ := h.ex
  have e := hk c hc
  rw [if_neg (by omega), Nat.add_zero] at e
  have cl := Rw.cell hM c (by omega)
  rw [e] at cl
  refine ⟨_, ?_, cl, Rw.frozen hM c, ⟨_, Rw.set hM c _, by simpa using hl, fun k hk2 => ?_⟩⟩
  · have := cov_le (T.take i) c
    have h2 : (T.take i).length ≤ T.length := by rw [List.length_take]; omega
    omega
  · rw [set_get M c k _ (by omega)]
    by_cases ek : k = c
    · subst ek; rw [if_pos rfl, if_pos (by omega)]; omega
    · rw [if_neg ek, hk k hk2]
      congr 2
      by_cases h1 : a ≤ k ∧ k < c
      · rw [if_pos h1, if_pos (by omega)]
      · rw [if_neg h1, if_neg (by omega)]
theorem Met.next {w : World} {r n : Nat} {T : List (Nat × Nat)} {i : Nat} {x : Nat × Nat} (h : Met w r n T i x.1 (x.1 + x.2)) (hr : T[i]? = some x) (a : Nat) : Met w r n T (i + 1) a a := by
  obtain ⟨M, hM, hl, hk⟩ := h.ex
  refine ⟨M, hM, hl, fun k hk2 => ?_⟩
  rw [hk k hk2, cov_take T i k x hr, if_neg (show ¬ (a ≤ k ∧ k < a) by omega), Nat.add_zero]
theorem Met.same {w : World} {r n : Nat} {T : List (Nat × Nat)} {i : Nat} {a : Nat} (h : Met w r n T i a a) (b : Nat) : Met w r n T i b b := by
  obtain ⟨M, hM, hl, hk⟩ := h.ex
  refine ⟨M, hM, hl, fun k hk2 => ?_⟩
  rw [hk k hk2, if_neg (by omega), if_neg (by omega)]
theorem Met.heap {w w' : World} {r n : Nat} {T : List (Nat × Nat)} {i a c : Nat} (h : Met w r n T i a c) (e : w'.heap = w.heap) : Met w' r n T i a c := by
  obtain ⟨M, hM, hl, hk⟩ := h.ex
  exact ⟨M, by rw [e]; exact hM, hl, hk⟩
theorem apart_of {u v : Value} {N : Nat} (hu : ∀ k, u.ownBlock = some k → N ≤ k) (hv : ∀ k, v.ownBlock = some k → k < N) : u.ownBlock = none ∨ u.ownBlock ≠ v.ownBlock := by
  rcases hb : u.ownBlock with _ | k
  · exact .inl rfl
  · right
    intro e
    have := hu k hb
    have := hv k e.symm
    omega
theorem apart_symm {u v : Value} (h : v.ownBlock = none ∨ v.ownBlock ≠ u.ownBlock) : u.ownBlock = none ∨ u.ownBlock ≠ v.ownBlock := by
  rcases hb : u.ownBlock with _ | k
  · exact .inl rfl
  · right
    intro e
    rcases h with h | h
    · rw [h] at e; cases e
    · exact h (by rw [hb]; exact e.symm)
set_option maxRecDepth 100000 in
set_option maxHeartbeats 8000000 in
theorem law (W : World) (n : Nat) (hn : n ≤ 255) (A : Option Addr) (len cap : Nat) (L : Nat → List Int) (R : Ag.Rows W A len [.i64, .i64] L) :
    Calls Try.prog 4 #[.int .u8 n, .slice A len cap] W fun e W' => e = .returned (.bool true) ∧ Below W.heap.size W W' := by
  have MD := Lib.hid (made_it W n hn A len cap L R)
  have AW := Lib.hid awake_it
  have hmk : ∀ w : World, (Instr.makeSlice 35 (.int .i64 ((n : Int) + 1)) (.int .i64 ((n : Int) + 1))).run Try.prog w = .ok (.slice (some ⟨w.heap.size, 0, none⟩) (n + 1) (n + 1)) (w.alloc (Rw.row .i64 3 (List.replicate (n + 1) 0))) := fun w => by
    have := Rw.made Try.prog w 35 3 .i64 8 Try.underlying35 Pl.infoI ((n : Int) + 1) (by omega) (by omega) (by omega)
    rwa [show ((n : Int) + 1).toNat = n + 1 by omega] at this
  clear R
  go_enter Try.func4, Try.ntmps4
  go_wp2_with fail
  refine MD.out.mono ?_
  rintro e w1 ⟨g, a, b, rfl, S1⟩
  obtain ⟨fs, ms, P1, WF, hl⟩ := S1.ex
  have HP1 := Lib.hid P1
  have HB1 := Lib.hid S1.bel
  have HW := Lib.hid WF
  have HL := Lib.hid hl
  have HOW := Lib.hid S1.own
  clear S1 MD P1 WF hl
  go_wp2_with fail
  refine (AW.out _).mono ?_
  rintro e w2 ⟨rfl, b2⟩
  have ba := Kit.allocB (Below.refl w2.heap.size w2) (Rw.row .i64 3 (List.replicate (n + 1) 0))
  have P2 := Lib.hid ((HP1.out.keepB b2).keepB ba)
  have B2 := Lib.hid (Kit.stepB (Kit.stepB HB1.out b2) ba)
  have M2 := Lib.hid (Kit.new_blk w2 (Rw.row .i64 3 (List.replicate (n + 1) 0)))
  have s2 := Lib.hid (HB1.out.size)
  have s2' := Lib.hid b2.size
  have GI := Lib.hid (groups_it _ g a b fs ms HW.out P2.out)
  have glen := grp_length (fs := fs) (ms := ms) fs.length
  have rlen := runs_length (fs := fs) 0
  have hsm := HP1.out.small
  have HT := Lib.hid (show (∀ k, k < fs.length → cov (grp fs ms fs.length ++ runsFrom fs 0) k = 1) ∧ ∀ r ∈ grp fs ms fs.length ++ runsFrom fs 0, r.1 + r.2 ≤ fs.length from ⟨cov_all HW.out, fun r hr => by
    rcases List.mem_append.1 hr with h | h
    · exact (grp_mem HW.out fs.length (Nat.le_refl _) r h).2.2.2.2.1
    · exact runs_ru 0 r h⟩)
  generalize hgl : grp fs ms fs.length = gl at *
  have HGL := Lib.hid hgl
  clear ba b2 AW HP1 HB1 hgl
  go_wp2_with fail
  refine GI.out.mono ?_
  rintro e w3 ⟨p, q, va, vb, rfl, b3, T⟩
  have PI := Lib.hid (pairs_it w3 _ p q va vb gl (by omega) T)
  have P3 := Lib.hid (P2.out.keepB b3)
  have B3 := Lib.hid (Kit.stepB B2.out b3)
  have M3 := Lib.hid (Kit.keepB M2.out b3)
  have s3 := Lib.hid (Kit.lt_of M3.out)
  clear b3 T GI P2 B2 M2 hmk
  go_wp2_with fail
  refine PI.out.mono ?_
  rintro e w4 ⟨v2, u2, rfl, b4, o1, o2, hne⟩
  have P4 := Lib.hid (P3.out.keepB b4)
  have B4 := Lib.hid (Kit.stepB B3.out b4)
  have M4 := Lib.hid (Kit.keepB M3.out b4)
  rw [fst_ints] at o1
  rw [snd_ints] at o2
  have O1 := Lib.hid o1
  have O2 := Lib.hid o2
  have HNE := Lib.hid hne
  have s34 := Lib.hid b4.size
  have RI := Lib.hid (runs_it w4 g a b fs ms HW.out P4.out)
  clear PI P3 M3 o1 o2 b4 hne
  generalize hrl : runsFrom fs 0 = rl at *
  have HRL := Lib.hid hrl
  clear hrl
  go_wp2_with fail
  refine RI.out.mono ?_
  rintro e w5 ⟨p', q', va', vb', rfl, b5, T5⟩
  have PI2 := Lib.hid (pairs_it w5 _ p' q' va' vb' rl (by omega) T5)
  have B5 := Lib.hid (Kit.stepB B4.out b5)
  have M5 := Lib.hid (Kit.keepB M4.out b5)
  have O15 := Lib.hid (own_keepB O1.out b5)
  have O25 := Lib.hid (own_keepB O2.out b5)
  have s4 := Lib.hid b5.size
  clear b5 T5 RI B4 M4 P4
  go_wp2_with fail
  refine PI2.out.mono ?_
  rintro e w6 ⟨v3, u3, rfl, b6, o3, o4, _⟩
  rw [fst_ints] at o3
  rw [snd_ints] at o4
  have B6 := Lib.hid (Kit.stepB B5.out b6)
  have M6 := Lib.hid (Kit.keepB M5.out b6)
  have x1 := own_keepB O15.out b6
  have x2 := own_keepB O25.out b6
  have z3 := s3.out
  have z34 := s34.out
  have z4 := s4.out
  have z6 := b6.size
  obtain ⟨v5, w7, hr1, O5, G5, k5⟩ := run_rows w3.heap.size w5.heap.size 35 v2 v3 gl.length rl.length (fI gl) (fI rl) x1 o3 (by omega) (by omega)
  have lv2 : ∀ k, v2.ownBlock = some k → k < w5.heap.size := fun k hk => by have := (O1.out.lt k hk).2; omega
  have lu2 : ∀ k, u2.ownBlock = some k → k < w5.heap.size := fun k hk => by have := (O2.out.lt k hk).2; omega
  have gu3 : ∀ k, u3.ownBlock = some k → w5.heap.size ≤ k := fun k hk => (o4.lt k hk).1
  have x3 := x2.kept G5 (apart_symm HNE.out)
  have x4 := o4.kept G5 (apart_of gu3 lv2)
  obtain ⟨u5, w8, hr2, O6, G6, k6⟩ := run_rows w3.heap.size w5.heap.size 35 u2 u3 gl.length rl.length (sI gl) (sI rl) x3 x4 (by omega) (by have := G5.size; omega)
  have x5 := O5.kept G6 (by
    rcases k5 with k5 | k5
    · rw [k5]; exact HNE.out
    · exact .inr (fun e => by rw [k5] at e; have := lu2 _ e.symm; omega))
  have eF : fI gl ++ fI rl = fI (gl ++ rl) := by simp [fI]
  have eS : sI gl ++ sI rl = sI (gl ++ rl) := by simp [sI]
  rw [eF] at x5
  rw [eS] at O6
  obtain ⟨pa, ca, rfl, SA, hpa⟩ := Sl.of x5 (by simp [fI])
  obtain ⟨pb, cb, rfl, SB, hpb⟩ := Sl.of O6 (by simp [sI])
  have HSA := Lib.hid SA
  have HSB := Lib.hid SB
  have HPA := Lib.hid hpa
  have HPB := Lib.hid hpb
  have M8 := Lib.hid ((G6.block _ (by have := G5.size; have := Kit.lt_of M6.out; omega) (fun e => by have := (x3.lt _ e.symm).1; omega)).trans ((G5.block _ (Kit.lt_of M6.out) (fun e => by have := (x1.lt _ e.symm).1; omega)).trans M6.out))
  have B8 : Hid (Below W.heap.size W w8) := Kit.Mod.below (((Kit.Mod.of_below (S := []) B6.out).grown G5 (fun k hk => .inr (by have := (x1.lt _ hk).1; have := B3.out.size; omega))).grown G6 (fun k hk => .inr (by have := (x3.lt _ hk).1; have := B3.out.size; omega)))
  have HR1 := Lib.hid hr1
  have HR2 := Lib.hid hr2
  clear hr1 hr2 x1 x2 x3 x4 x5 O5 O6 SA SB hpa hpb G5 G6 k5 k6 lv2 lu2 gu3 eF eS o3 o4 PI2 B6 M6 O15 O25 O1 O2 HNE
  go_wp2_with (at_builtin; first | refine Rw.wp_append rfl (.tmp 41) (.tmp 42) 35 _ _ _ rfl rfl rfl HR1.out ?_ | refine Rw.wp_append rfl (.tmp 44) (.tmp 45) 35 _ _ _ rfl rfl rfl HR2.out ?_)
  have hln := HL.out
  have LT : (gl ++ rl).length ≤ 1000 := by simp; omega
  have MT : Hid (Met w8 w2.heap.size n (gl ++ rl) 0 0 0) := ⟨_, M8.out, by simp, fun k hk => by
    rw [List.take_zero, cov_nil, if_neg (by omega)]
    simp [List.getD_eq_getElem?_getD, hk]⟩
  generalize gl ++ rl = T at *
  have hfl : (fI T).length = T.length := by simp [fI]
  have hsl : (sI T).length = T.length := by simp [sI]
  rw [hfl, hsl]
  have HFL := Lib.hid hfl
  have HSL := Lib.hid hsl
  have z2 := s3.out
  have hll := HL.out
  obtain ⟨r, hr⟩ : ∃ r, r = w2.heap.size := ⟨_, rfl⟩
  have hrB : W.heap.size ≤ r := by have := s2.out; have := s2'.out; omega
  rw [← hr] at MT z2 ⊢
  clear hr
  clear hfl hsl M8 HGL HRL HR1 HR2 z4 z6 z34 glen rlen
  go_loopg [12] T.length (fun k c wr => ∃ i : Nat, (i ≤ T.length ∧ k = T.length - i) ∧ c = .int .i64 i ∧ Hid (Met wr r n T i 0 0 ∧ Kit.Mod [r] w8 wr))
  case atStart => exact ⟨0, ⟨Nat.zero_le _, rfl⟩, rfl, MT.out, Kit.Mod.refl _ _⟩
  case round =>
    obtain ⟨i, ⟨hi, rfl⟩, rfl, H⟩ := hrel
    by_cases hlt : i < T.length
    · obtain ⟨x, hx⟩ : ∃ x, T[i]? = some x := ⟨T[i], by simp [hlt]⟩
      have eg : (fI T).getD i 0 = (x.1 : Int) := by simp [fI, List.getD_eq_getElem?_getD, hx]
      have eh : (sI T).getD i 0 = (x.2 : Int) := by simp [sI, List.getD_eq_getElem?_getD, hx]
      have hle := HT.out.2 x (List.mem_of_getElem? hx)
      have far1 : ∀ b' off, pa = some ⟨b', off, none⟩ → b' ∉ [r] := fun b' off e => by have := HPA.out b' off e; simp; omega
      have far2 : ∀ b' off, pb = some ⟨b', off, none⟩ → b' ∉ [r] := fun b' off e => by have := HPB.out b' off e; simp; omega
      have CA : Hid (∃ b1 o1, pa = some ⟨b1, o1, none⟩ ∧ ∀ w' : World, Kit.Mod [r] w8 w' → w'.cell? ⟨b1, o1 + i, none⟩ = some (.int .i64 (x.1 : Int))) := by
        obtain ⟨b1, o1, e, hb1, hc1⟩ := HSA.out.cells (by rw [HFL.out]; omega)
        refine ⟨b1, o1, e, fun w' m => ?_⟩
        have := hc1 i (by rw [HFL.out]; exact hlt)
        rw [eg] at this
        exact (World.cell?_of_block (w := w8) (a := ⟨b1, o1 + i, none⟩) (m.block b1 hb1 (far1 b1 o1 e))).trans this
      have CB : Hid (∃ b1 o1, pb = some ⟨b1, o1, none⟩ ∧ ∀ w' : World, Kit.Mod [r] w8 w' → w'.cell? ⟨b1, o1 + i, none⟩ = some (.int .i64 (x.2 : Int))) := by
        obtain ⟨b1, o1, e, hb1, hc1⟩ := HSB.out.cells (by rw [HSL.out]; omega)
        refine ⟨b1, o1, e, fun w' m => ?_⟩
        have := hc1 i (by rw [HSL.out]; exact hlt)
        rw [eh] at this
        exact (World.cell?_of_block (w := w8) (a := ⟨b1, o1 + i, none⟩) (m.block b1 hb1 (far2 b1 o1 e))).trans this
      have HX := Lib.hid hx
      clear eg eh far1 far2 hx
      obtain ⟨b1, o1, ea, CA2⟩ := CA.out
      obtain ⟨b2, o2, eb, CB2⟩ := CB.out
      clear CA CB
      subst ea eb
      have CA := Lib.hid CA2
      have CB := Lib.hid CB2
      clear CA2 CB2
      have c1 := CA.out wr H.out.2
      obtain ⟨wo, hwo⟩ : ∃ wo : World, wo = wr := ⟨_, rfl⟩
      rw [← hwo] at c1 H ⊢
      have li : (i : Int) < T.length := by omega
      clear hwo
      go_wp2_with fail
      clear c1
      go_loopg [13] x.2 (fun k c wr => ∃ d : Nat, (d ≤ x.2 ∧ k = x.2 - d) ∧ c = .int .i64 ((x.1 + d : Nat) : Int) ∧ Hid (Met wr r n T i x.1 (x.1 + d) ∧ Kit.Mod [r] w8 wr))
      case atStart => exact ⟨0, ⟨Nat.zero_le _, rfl⟩, by simp, H.out.1.same _, H.out.2⟩
      case round =>
        obtain ⟨d, ⟨hd, rfl⟩, rfl, H2⟩ := hrel
        have c1 := CA.out wr H2.out.2
        have c2 := CB.out wr H2.out.2
        have s1 : IntKind.i64.wrap ((x.1 : Int) + x.2) = (x.1 : Int) + x.2 := IntWalk.i64_in _ (by omega)
        by_cases hld : d < x.2
        · have d1 : decide (((x.1 + d : Nat) : Int) < (x.1 : Int) + x.2) = true := decide_eq_true (by omega)
          go_wp2_with fail
          go_quiet (fail)
          clear s1 c1 c2
          obtain ⟨y, hy, cy, fy, MY⟩ := (H2.out.1.heap (w' := wr.drewN nq) rfl).step (by omega) (by omega)
          have HMY := Lib.hid MY
          have HM2 := Lib.hid ((H2.out.2.drewN nq).setCell (p := ⟨r, x.1 + d, none⟩) (.inl (by simp)) (.int .i64 ((y : Int) + 1)))
          clear MY H2
          go_wp2_with fail
          go_roundg (x.2 - (d + 1))
          case measure => omega
          case rel => exact ⟨d + 1, ⟨by omega, rfl⟩, by simp; omega, HMY.out, HM2.out⟩
        · obtain rfl : d = x.2 := by omega
          have d1 : decide (((x.1 + x.2 : Nat) : Int) < (x.1 : Int) + x.2) = false := decide_eq_false (by omega)
          go_wp2_with fail
          go_quiet (fail)
          have HX3 := Lib.hid (H2.out.1.heap (w' := wr.drewN nq) rfl)
          have HM3 := Lib.hid (H2.out.2.drewN nq)
          clear s1 c1 c2 H2
          go_wp2_with fail
          go_roundg (T.length - (i + 1))
          case measure => omega
          case rel => exact ⟨i + 1, ⟨by omega, rfl⟩, by simp, HX3.out.next HX.out 0, HM3.out⟩
    · obtain rfl : i = T.length := by omega
      obtain ⟨M, hM, lM, hk⟩ := H.out.1.ex
      have BB := Lib.hid (Kit.step1 B8.out H.out.2 hrB)
      have HM := Lib.hid hM
      have HK := Lib.hid (show ∀ k, k < n + 1 → M.getD k 0 = 1 from fun k hk2 => by
        rw [hk k hk2, List.take_of_length_le (Nat.le_refl _), HT.out.1 k (by omega), if_neg (by omega)]; rfl)
      clear hM hk H
      go_wp2_with fail
      go_loopg [14] (n + 1) (fun k c wr2 => ∃ j : Nat, (j ≤ n + 1 ∧ k = n + 1 - j) ∧ c = .int .i64 j ∧ Hid (wr2 = wr))
      case atStart => exact ⟨0, ⟨Nat.zero_le _, rfl⟩, rfl, rfl⟩
      case round =>
        obtain ⟨j, ⟨hj, rfl⟩, rfl, H3⟩ := hrel
        obtain rfl := H3.out
        by_cases hlj : j < n + 1
        · have c1 := Rw.cell HM.out j (by omega)
          rw [HK.out j hlj] at c1
          have d1 : decide ((j : Int) < (n : Int) + 1) = true := decide_eq_true (by omega)
          have lj : (j : Int) < (n : Int) + 1 := by omega
          clear H3
          go_wp2_with fail
          go_roundg (n + 1 - (j + 1))
          case measure => omega
          case rel => exact ⟨j + 1, ⟨by omega, rfl⟩, by simp, rfl⟩
        · obtain rfl : j = n + 1 := by omega
          have d1 : decide (((n + 1 : Nat) : Int) < (n : Int) + 1) = false := decide_eq_false (by omega)
          clear H3
          go_wp2_with fail
          go_ret
          exact ⟨rfl, BB.out⟩
end Go.Proofs.Ytlhgdcimchmldaa.LawApart
