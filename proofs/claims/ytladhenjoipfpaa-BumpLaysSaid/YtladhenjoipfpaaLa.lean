/- A space lays words. No condition. -/
import Derived.Test.YtladhenjoipfpaaTk
set_option linter.unusedVariables false
set_option linter.unusedSimpArgs false
namespace Go.Proofs.Ytladhenjoipfpaa.La
open Go.RowKit
open Pl Rn Ov Lf Wl Gp Ct Sn Gq Tf Mt Rr Kp Sc Nn Tk
def fin (σ : Sq) (p n : Nat) : Sq := { σ with lays := σ.lays ++ [(p, n)], used := σ.used + n }
def layF (fs : List Int) (words : Nat) (σ : Sq) (n : Nat) : Option (Nat × List Int × Sq) :=
  if 64 < n then (takeF fs words σ ((n + 63) / 64)).map fun x => (64 * x.1, x.2.1, fin x.2.2 (64 * x.1) n)
  else if σ.left < n then (takeF fs words σ 1).map fun x => (64 * x.1, x.2.1, fin { x.2.2 with next := 64 * x.1 + n, left := 64 - n } (64 * x.1) n)
  else some (σ.next, fs, fin { σ with next := σ.next + n, left := σ.left - n } σ.next n)
/-- What is known of a space's numbers. -/
structure Ok (σ : Sq) : Prop where
  lays : σ.lays.length ≤ 1000
  groups : σ.groups.length ≤ 1000
  blocks : σ.blocks ≤ 1000000
  used : σ.used ≤ 100000000
  next : σ.next ≤ 1000000
  left : σ.left ≤ 64
/-- What Lay leaves. -/
inductive Laid (w : World) (s g a b ga ar m B : Nat) (K : Nat → Prop) (fs xs : List Int) (σ : Sq) (n : Nat) : Ending → World → Prop
  | no {w' : World} {vg va vm : Value} (h : layF fs xs.length σ n = none) (S : Sv w' s g ga m B K vg va vm σ) (E : Env w' g a b ga ar fs xs) (M : ModP (fun k => k = a ∨ k = b) w w') : Laid w s g a b ga ar m B K fs xs σ n (.returned (.tuple #[.int .i64 0, .int .i64 5])) w'
  | yes {w' : World} {p : Nat} {fs' : List Int} {σ' : Sq} {vg va vm : Value} {K' : Nat → Prop} (h : layF fs xs.length σ n = some (p, fs', σ')) (S : Sv w' s g ga m B K' vg va vm σ') (E : Env w' g a b ga ar fs' (Arc.clearV xs p n)) (hk : ∀ k, K' k → K k ∨ w.heap.size ≤ k) (hk2 : ∀ k, K k → K' k)
      (M : ModP (fun k => K k ∨ k = a ∨ k = b ∨ k = ar) w w') : Laid w s g a b ga ar m B K fs xs σ n (.returned (.tuple #[.int .i64 (p : Int), .int .i64 0])) w'
theorem clearV_length (xs : List Int) (p n : Nat) : (Arc.clearV xs p n).length = xs.length := by
  unfold Arc.clearV
  split
  · rename_i h
    exact Rw.length_over _ _ _ (by simp; omega)
  · rfl
/-- What is laid is written down: both rows, the map, the count. -/
theorem sv_lay {w2 w4 : World} {s g ga m B : Nat} {K : Nat → Prop} {vg va vm va' vm' : Value} {σ : Sq} (S : Sv w2 s g ga m B K vg va vm σ) (p n : Nat) (F : Fs s va vm w2.drew w4)
    (ob : w4.heap[s]? = some (.cells (two (cells10 g ga m vg va vm σ) 4 5 va' vm') 70 (0, 0)))
    (oa : w4.ownsRow B 3 1 va' (σ.lays.length + 1) (ints (fI σ.lays) ++ [Tw.X1 (p : Int)])) (om : w4.ownsRow B 3 1 vm' (σ.lays.length + 1) (ints (sI σ.lays) ++ [Tw.X1 (n : Int)]))
    (dm : va'.ownBlock = none ∨ va'.ownBlock ≠ vm'.ownBlock) (ka : ∀ k, va'.ownBlock = some k → va.ownBlock = some k ∨ w2.drew.heap.size ≤ k) (km : ∀ k, vm'.ownBlock = some k → vm.ownBlock = some k ∨ w2.drew.heap.size ≤ k) (hl : σ.lays.length ≤ 1000) (hp : p ≤ 1000000) :
    (w4.cell? ⟨s, 6, none⟩ = some (.map (some m)) ∧ ∃ w5, (Instr.mapUpdate 68 (.map (some m)) (.int .i64 (p : Int)) (.int .i64 1)).run Try.prog w4 = .ok () w5 ∧ w5.cell? ⟨s, 7, none⟩ = some (.int .i64 (σ.used : Int)) ∧ w5.frozen? ⟨s, 7, none⟩ = false ∧
      ∃ K5, Sv (w5.setCell ⟨s, 7, none⟩ (.int .i64 ((σ.used : Int) + n))) s g ga m B K5 vg va' vm' (fin σ p n) ∧ (∀ k, K k → K5 k) ∧ (∀ k, K5 k → K k ∨ w2.heap.size ≤ k) ∧ ModP K w2 (w5.setCell ⟨s, 7, none⟩ (.int .i64 ((σ.used : Int) + n)))) := by
  have f4 : ∀ k, k < w2.heap.size → k ≠ s → va.ownBlock ≠ some k → vm.ownBlock ≠ some k → w4.heap[k]? = w2.heap[k]? := F.block
  have z4 : w2.heap.size ≤ w4.heap.size := F.size
  have em : w4.heap[m]? = w2.heap[m]? := f4 m S.marks.lt S.ms (fun e => (S.row_ne S.oa m e).2 rfl) (fun e => (S.row_ne S.om m e).2 rfl)
  obtain ⟨w5, hrun, M5, g5⟩ := (S.marks.move em).update (p : Int) (wf_i64 _ (by omega) (by omega)) (by omega)
  have sm : s ≠ m := fun e => S.ms e.symm
  have b5 : ∀ k, k < w4.heap.size → k ≠ m → w5.heap[k]? = w4.heap[k]? := fun k hk hn => g5.block k hk (fun e => hn (by cases e; rfl))
  have ob5 : w5.heap[s]? = some (.cells (two (cells10 g ga m vg va vm σ) 4 5 va' vm') 70 (0, 0)) := (b5 s (Kit.lt_of ob) sm).trans ob
  have sB := S.sB
  have rn : ∀ {v : Value} {n : Nat} {xs : List Value}, w4.ownsRow B 3 1 v n xs → ∀ k, v.ownBlock = some k → k ≠ s ∧ k ≠ m ∧ k < w4.heap.size := fun {v n xs} o k hk => by
    refine ⟨by have := (o.lt k hk).1; omega, ?_, (o.lt k hk).2⟩
    rintro rfl
    obtain ⟨o', ho, hc⟩ := (S.marks.move em).obj
    obtain ⟨cs, t, fz, hcs⟩ := Tw.own_cells o k hk
    rw [hcs] at ho; cases ho; cases hc
  have es : ∀ k, k ≠ s → (w5.setCell ⟨s, 7, none⟩ (.int .i64 ((σ.used : Int) + n))).heap[k]? = w5.heap[k]? := fun k hk => Below.heap_setCell w5 ⟨s, 7, none⟩ _ k hk
  have zs : (w5.setCell ⟨s, 7, none⟩ (.int .i64 ((σ.used : Int) + n))).heap.size = w5.heap.size := by simp [World.setCell]
  have z5 := g5.size
  have keep : ∀ {v : Value} {q : Nat} {xs : List Value}, w4.ownsRow B 3 1 v q xs → (w5.setCell ⟨s, 7, none⟩ (.int .i64 ((σ.used : Int) + n))).ownsRow B 3 1 v q xs := fun {v q xs} o =>
    own_kept o (fun k hk => (es k (rn o k hk).1).trans (b5 k (rn o k hk).2.2 (rn o k hk).2.1))
  have og4 : w4.ownsRow B 3 1 vg σ.groups.length (ints (gI σ.groups)) := own_kept S.og (fun k hk => f4 k (S.og.lt k hk).2 (S.row_ne S.og k hk).1 (fun e => by
    rcases S.dga with d | d
    · rw [d] at hk; cases hk
    · exact d (hk.trans e.symm)) (fun e => by
    rcases S.dgm with d | d
    · rw [d] at hk; cases hk
    · exact d (hk.trans e.symm)))
  have eF : ints (fI σ.lays) ++ [Tw.X1 (p : Int)] = ints (fI (fin σ p n).lays) := by simp [ints, fI, fin, Tw.X1]
  have eS : ints (sI σ.lays) ++ [Tw.X1 (n : Int)] = ints (sI (fin σ p n).lays) := by simp [ints, sI, fin, Tw.X1]
  have eL : σ.lays.length + 1 = (fin σ p n).lays.length := by simp [fin]
  have dgn : ∀ {v v' : Value}, (∀ k, v'.ownBlock = some k → v.ownBlock = some k ∨ w2.heap.size ≤ k) → (vg.ownBlock = none ∨ vg.ownBlock ≠ v.ownBlock) → (vg.ownBlock = none ∨ vg.ownBlock ≠ v'.ownBlock) := fun {v v'} h d => by
    rcases hb : vg.ownBlock with _ | k
    · exact .inl rfl
    · right
      intro e
      rcases h k e.symm with h | h
      · rcases d with d | d
        · rw [hb] at d; cases d
        · exact d (hb.trans h.symm)
      · have := (S.og.lt k hb).2; omega
  refine ⟨(Kit.cell_of ob 6).trans rfl, w5, hrun, (Kit.cell_of ob5 7).trans rfl, Kit.frozen_of ob5 7, (fun k => K k ∨ va'.ownBlock = some k ∨ vm'.ownBlock = some k), ⟨?_, keep og4, ?_, ?_, fun k hk => .inl (S.kg k hk), fun k hk => .inr (.inl hk), fun k hk => .inr (.inr hk), dm, dgn ka S.dga, dgn km S.dgm, ?_, ⟨.inl S.ks.1, .inl S.ks.2⟩, ⟨sB.1, by omega⟩, fun k hk => ?_⟩, fun k hk => .inl hk, fun k hk => ?_, ?_⟩
  · have := Kit.set_blk ob5 7 (.int .i64 ((σ.used : Int) + n))
    rw [this]
    simp [two, cells10, fin]
  · rw [← eF, ← eL]; exact keep oa
  · rw [← eS, ← eL]; exact keep om
  · have e : fI σ.lays ++ [(p : Int)] = fI (fin σ p n).lays := by simp [fI, fin]
    rw [← e, ← eL]
    exact M5.move (es m S.ms)
  · rw [zs]
    rcases hk with hk | hk | hk
    · have := S.low k hk; omega
    · have := (rn oa k hk).2.2; omega
    · have := (rn om k hk).2.2; omega
  · rcases hk with hk | hk | hk
    · exact .inl hk
    · rcases ka k hk with h | h
      · exact .inl (S.ka k h)
      · exact .inr h
    · rcases km k hk with h | h
      · exact .inl (S.km k h)
      · exact .inr h
  · refine ⟨g5.os.trans F.os, g5.tape.trans F.tape, g5.output.trans F.output, by rw [zs]; omega, fun k hk hn => ?_⟩
    refine (es k (fun e => hn (e ▸ S.ks.1))).trans ((b5 k (by omega) (fun e => hn (e ▸ S.ks.2))).trans (f4 k hk (fun e => hn (e ▸ S.ks.1)) (fun e => hn (S.ka k e)) (fun e => hn (S.km k e))))
theorem hfa {s : Nat} (ρ : Operand → Value) (o : Oper) (p : Operand) (w : World) : (o.op = .nilCheck p → ρ p = .pointer (some ⟨s, 0, none⟩) → (execOp ρ o).run Try.prog w = .ok (.value (.pointer (some ⟨s, 0, none⟩))) w) ∧ (o.op = .fieldAddr 70 p 4 → ρ p = .pointer (some ⟨s, 0, none⟩) → (execOp ρ o).run Try.prog w = .ok (.value (.pointer (some ⟨s, 4, none⟩))) w) ∧ (o.op = .fieldAddr 70 p 5 → ρ p = .pointer (some ⟨s, 0, none⟩) → (execOp ρ o).run Try.prog w = .ok (.value (.pointer (some ⟨s, 5, none⟩))) w) := by
  refine ⟨fun ho hp => ?_, fun ho hp => ?_, fun ho hp => ?_⟩
  all_goals
    simp only [execOp, ho, hp]
    go_simp
set_option maxHeartbeats 4000000 in
set_option maxRecDepth 100000 in
theorem lay_fits (w : World) (s g a b ga ar m B : Nat) (K : Nat → Prop) (vg va vm : Value) (fs xs : List Int) (σ : Sq) (n : Nat) (S : Sv w s g ga m B K vg va vm σ) (E : Env w g a b ga ar fs xs) (D : Dj K g a b ga ar) (O : Ok σ) (h1 : 1 ≤ n) (h2 : n ≤ 64) (h3 : n ≤ σ.left) :
    Calls Try.prog 10 #[.pointer (some ⟨s, 0, none⟩), .int .i64 n] w (Laid w s g a b ga ar m B K fs xs σ n) := by
  have F := Lib.hid (show layF fs xs.length σ n = some (σ.next, fs, fin { σ with next := σ.next + n, left := σ.left - n } σ.next n) by unfold layF; rw [if_neg (by omega), if_neg (by omega)])
  obtain ⟨_, _, _, _, c8, c9⟩ := S.cells
  have f8 := S.frozen 8
  have f9 := S.frozen 9
  have hat := O.next
  have ol := O.left
  have ol1 := O.lays
  have ou := O.used
  have d1 : decide ((n : Int) < 1) = false := decide_eq_false (by omega)
  have d2 : decide (4096 < (n : Int)) = false := decide_eq_false (by omega)
  have d3 : decide (64 < (n : Int)) = false := decide_eq_false (by omega)
  have d4 : decide ((σ.left : Int) < (n : Int)) = false := decide_eq_false (by omega)
  have s1 : IntKind.i64.wrap ((σ.next : Int) + n) = (σ.next : Int) + n := IntWalk.i64_in _ (by omega)
  have s2 : IntKind.i64.wrap ((σ.left : Int) - n) = (σ.left : Int) - n := IntWalk.i64_in _ (by omega)
  have S1 := S.put 8 (.int .i64 ((σ.next : Int) + n)) { σ with next := σ.next + n } (by simp [cells10]) rfl rfl
  have S2 := S1.put 9 (.int .i64 ((σ.left : Int) - n)) { σ with next := σ.next + n, left := σ.left - n } (by simp [cells10]; omega) rfl rfl
  have MP : ModP K w ((w.setCell ⟨s, 8, none⟩ (.int .i64 ((σ.next : Int) + n))).setCell ⟨s, 9, none⟩ (.int .i64 ((σ.left : Int) - n))) := ((ModP.refl K w).setCell (p := ⟨s, 8, none⟩) (.inl S.ks.1) _).setCell (p := ⟨s, 9, none⟩) (.inl S.ks.1) _
  have E2 := E.keepP MP D
  obtain ⟨⟨_, c1, _⟩, _⟩ := S2.cells
  have CL := Lib.hid (Arc.clear_any _ ga ar xs σ.next n E2.arena (by omega) (by omega))
  have HS2 := Lib.hid S2
  have HM := Lib.hid (show ModP (fun k => K k ∨ k = a ∨ k = b ∨ k = ar) w _ from MP.weaken (fun k _ c => .inl c))
  have HE := Lib.hid E2
  have HD := Lib.hid D
  have HKK := Lib.hid (show (∀ k, K k → K k ∨ w.heap.size ≤ k) ∧ ∀ k, K k → K k from ⟨fun k h => .inl h, fun k h => h⟩)
  clear S E D S1 S2 MP E2 O
  go_enter Try.func10, Try.ntmps10
  go_wp2_with fail
  refine CL.out.mono ?_
  rintro e w2 ⟨rfl, A2, m2⟩
  have M3 : ModP (fun k => k = ar) _ w2 := ModP.of_mod m2 (fun k hk => by simpa using hk)
  have S3 := HS2.out.keepP M3 (fun k hk c => by subst c; exact HD.out.2.2.2.2 hk)
  have E3 : Hid (Env w2 g a b ga ar fs (Arc.clearV xs σ.next n)) := by
    obtain ⟨ms, P, WF⟩ := HE.out.pool
    have ne := HE.out.ne
    exact ⟨⟨ms, P.keep m2 (by simp; omega) (by simp; omega) (by simp; omega), WF⟩, A2, ne⟩
  have HS3 := Lib.hid S3
  have HM3 := Lib.hid (HM.out.trans M3 (fun k _ c => .inr (.inr (.inr c))))
  clear S3 A2 m2 M3 CL HS2 HE HM c1 c8 c9 f8 f9
  go_wp2_with fail
  refine wp_region_any (by kernel_rfl) ?_
  change wpAny _ _ _ _ _ _ _ (World.drew _)
  refine wpAny_take (i := 0) (v := .pointer (some ⟨s, 0, none⟩)) rfl (by kernel_rfl) (by kernel_rfl) (by kernel_rfl) (fun _ _ _ h => h) (Or.inl ⟨by rfl, fun w => by go_simp⟩) ?_
  refine wpAny_take (i := 1) (v := .pointer (some ⟨s, 0, none⟩)) rfl (by kernel_rfl) (by kernel_rfl) (by kernel_rfl) (fun _ _ _ h => h) (Or.inl ⟨by rfl, fun w => by go_simp⟩) ?_
  refine wpAny_take (i := 2) (v := .pointer (some ⟨s, 0, none⟩)) rfl (by kernel_rfl) (by kernel_rfl) (by kernel_rfl) (fun _ _ _ h => h) (Or.inl ⟨by rfl, fun w => by go_simp⟩) ?_
  refine wpAny_take (i := 3) (v := .pointer (some ⟨s, 0, none⟩)) rfl (by kernel_rfl) (by kernel_rfl) (by kernel_rfl) (fun _ _ _ h => h) (Or.inl ⟨by rfl, fun w => by go_simp⟩) ?_
  refine wpAny_take (i := 4) (v := .pointer (some ⟨s, 4, none⟩)) rfl (by kernel_rfl) (by kernel_rfl) (by kernel_rfl) (fun _ _ _ h => h) (Or.inl ⟨by rfl, fun w => by go_simp⟩) ?_
  refine wpAny_take (i := 6) (v := .int .i64 σ.next) rfl (by kernel_rfl) (by kernel_rfl) (by kernel_rfl) (fun _ _ _ h => h) (Or.inl ⟨by rfl, fun w => by go_simp⟩) ?_
  refine wpAny_take (i := 9) (v := .pointer (some ⟨s, 0, none⟩)) rfl (by kernel_rfl) (by kernel_rfl) (by kernel_rfl) (fun _ _ _ h => h) (Or.inl ⟨by rfl, fun w => by go_simp⟩) ?_
  refine wpAny_take (i := 10) (v := .pointer (some ⟨s, 0, none⟩)) rfl (by kernel_rfl) (by kernel_rfl) (by kernel_rfl) (fun _ _ _ h => h) (Or.inl ⟨by rfl, fun w => by go_simp⟩) ?_
  refine wpAny_take (i := 11) (v := .pointer (some ⟨s, 5, none⟩)) rfl (by kernel_rfl) (by kernel_rfl) (by kernel_rfl) (fun _ _ _ h => h) (Or.inl ⟨by rfl, fun w => by go_simp⟩) ?_
  refine wpAny_take (i := 13) (v := .int .i64 n) rfl (by kernel_rfl) (by kernel_rfl) (by kernel_rfl) (fun _ _ _ h => h) (Or.inl ⟨by rfl, fun w => by go_simp⟩) ?_
  refine wp_two_at (s := s) (f1 := 4) (f2 := 5) (X := σ.next) (Y := n) (t0 := 94) (t2 := 96) (t3 := 97) (t4 := 101) (t6 := 103) (t7 := 104) (t10 := 105) (t11 := 106) (t12 := 107) (t13 := 108) (n := 123) (q0 := 93) (q2 := 95) (q4 := 100) (q6 := 102) (q10 := 89) (q12 := 90) [5, 0, 7, 8, 12, 0, 14, 15, 18, 21, 16, 17, 19, 20] (B := B) (va := va) (vb := vm)
    (cs := cells10 g ga m vg va vm { σ with next := σ.next + n, left := σ.left - n }) (T := 70) (k1 := σ.lays.length) (k2 := σ.lays.length) (xs := ints (fI σ.lays)) (ys := ints (sI σ.lays))
    ?a1 ?a2 ?a3 ?a4 ?a5 ?a6 ?a7
    ?p0 ?p2 ?p3 ?p4 ?p6 ?p7 ?p8 ?p9 ?p10 ?p11 ?p12 ?p13 hfa
    ?e1 ?e2 ?e3 ?e4 ?e5 ?e6 (by decide) ?c1 ?c2 ?b1 ?b2 HS3.out.sB.1 HS3.out.sB.2 ?hs HS3.out.oa HS3.out.om HS3.out.dam ?K
  case a1 => kernel_rfl
  case a2 => kernel_rfl
  case a3 => kernel_rfl
  case a4 => kernel_rfl
  case a5 => exact Nat.le_of_ble_eq_true (by kernel_rfl)
  case a6 => kernel_rfl
  case a7 => kernel_rfl
  case p0 => exact ⟨_, rfl, rfl, rfl, rfl⟩
  case p2 => exact ⟨_, rfl, rfl, rfl, rfl⟩
  case p3 => exact ⟨_, rfl, rfl, rfl, rfl⟩
  case p4 => exact ⟨_, rfl, rfl, rfl, rfl⟩
  case p6 => exact ⟨_, rfl, rfl, rfl, rfl⟩
  case p7 => exact ⟨_, rfl, rfl, rfl, rfl⟩
  case p8 => exact ⟨_, rfl, rfl, rfl, rfl⟩
  case p9 => exact ⟨_, rfl, rfl, rfl, rfl⟩
  case p10 => exact ⟨_, rfl, rfl, rfl, rfl⟩
  case p11 => exact ⟨_, rfl, rfl, rfl, rfl⟩
  case p12 => exact ⟨_, rfl, rfl, rfl, rfl⟩
  case p13 => exact ⟨_, rfl, rfl, rfl, rfl⟩
  case e1 => kernel_rfl
  case e2 => kernel_rfl
  case e3 => kernel_rfl
  case e4 => kernel_rfl
  case e5 => kernel_rfl
  case e6 => kernel_rfl
  case c1 => simp [cells10]
  case c2 => simp [cells10]
  case b1 => show σ.lays.length + 1 ≤ 1000000; omega
  case b2 => show σ.lays.length + 1 ≤ 1000000; omega
  case hs => exact HS3.out.obj.trans (by simp [two, cells10])
  case K =>
    intro v w4 va' vm' F4 ob4 oa4 om4 dm4 ka4 km4
    obtain ⟨c6, w5, hrun, c7, f7, K5, S5, hk1, hk2, M5⟩ := sv_lay HS3.out σ.next n F4 ob4 oa4 om4 dm4 ka4 km4 (by simpa using ol1) (by simpa using hat)
    try dsimp only at c7
    have HS5 := Lib.hid S5
    have HM5 := Lib.hid M5
    have HK5 := Lib.hid (And.intro hk1 hk2)
    have s3 : IntKind.i64.wrap ((σ.used : Int) + n) = (σ.used : Int) + n := IntWalk.i64_in _ (by omega)
    clear F4 ob4 oa4 om4 dm4 ka4 km4 S5 M5 hk1 hk2
    simp only [At, chain, pairs10, List.foldl_cons, List.foldl_nil]
    go_wp2_with fail
    go_ret2
    have hz := HM3.out.size
    exact Laid.yes F.out HS5.out (E3.out.keepP HM5.out HD.out) (fun k hk => by
      rcases HK5.out.2 k hk with h | h
      · exact HKK.out.1 k h
      · right; omega) (fun k hk => HK5.out.1 k (HKK.out.2 k hk)) (HM3.out.trans HM5.out (fun k hk c => by
        rcases HKK.out.1 k c with c | c
        · exact .inl c
        · omega))
set_option maxHeartbeats 4000000 in
set_option maxRecDepth 100000 in
theorem lay_new (w : World) (s g a b ga ar m B : Nat) (K : Nat → Prop) (vg va vm : Value) (fs xs : List Int) (σ : Sq) (n : Nat) (S : Sv w s g ga m B K vg va vm σ) (E : Env w g a b ga ar fs xs) (D : Dj K g a b ga ar) (O : Ok σ) (h1 : 1 ≤ n) (h2 : n ≤ 64) (h3 : σ.left < n) :
    Calls Try.prog 10 #[.pointer (some ⟨s, 0, none⟩), .int .i64 n] w (Laid w s g a b ga ar m B K fs xs σ n) := by
  have TI := Lib.hid (take_it w s g a b ga ar m B K vg va vm fs xs σ 1 S E D (by omega) (by omega) (by have := O.groups; omega) (by have := O.blocks; omega))
  obtain ⟨_, _, _, _, c8, c9⟩ := S.cells
  have ol := O.left
  have ol1 := O.lays
  have ou := O.used
  have HD0 := Lib.hid D
  have HE0 := Lib.hid E
  have d1 : decide ((n : Int) < 1) = false := decide_eq_false (by omega)
  have d2 : decide (4096 < (n : Int)) = false := decide_eq_false (by omega)
  have d3 : decide (64 < (n : Int)) = false := decide_eq_false (by omega)
  have d4 : decide ((σ.left : Int) < (n : Int)) = true := decide_eq_true (by omega)
  clear S E D O
  go_enter Try.func10, Try.ntmps10
  go_wp2_with fail
  refine TI.out.mono ?_
  rintro e w1 hT
  cases hT with
  | no hno S1 E1 M1 =>
    have FN := Lib.hid (show layF fs xs.length σ n = none by unfold layF; rw [if_neg (by omega), if_pos (by omega), hno]; rfl)
    have HL := Lib.hid (And.intro S1 (And.intro E1 M1))
    clear hno S1 E1 M1 TI
    go_wp2_with fail
    go_ret2
    exact Laid.no FN.out HL.out.1 HL.out.2.1 HL.out.2.2
  | @yes _ p fs' σ1 vg' K1 hy hp S1 E1 hk1 hk2 M1 =>
    have hlen := E1.arena.small
    have hfl : σ1.lays = σ.lays ∧ σ1.used = σ.used := by
      unfold takeF at hy
      split at hy
      · cases hy
      · split at hy
        · simp only [Option.some.injEq, Prod.mk.injEq] at hy
          obtain ⟨_, _, rfl⟩ := hy
          exact ⟨rfl, rfl⟩
        · cases hy
    have F := Lib.hid (show layF fs xs.length σ n = some (64 * p, fs', fin { σ1 with next := 64 * p + n, left := 64 - n } (64 * p) n) by unfold layF; rw [if_neg (by omega), if_pos (by omega), hy]; rfl)
    have hat : 64 * p ≤ 1000000 := by omega
    have K1D : Dj K1 g a b ga ar := by
      have hd := HD0.out
      obtain ⟨ms, P, WF⟩ := HE0.out.pool
      have l1 := Kit.lt_of P.obj
      have l2 := Kit.lt_of P.one
      have l3 := Kit.lt_of P.two
      have l4 := Kit.lt_of HE0.out.arena.obj
      have l5 := Kit.lt_of HE0.out.arena.row
      have f : ∀ x, ¬ K x → x < w.heap.size → ¬ K1 x := fun x hx hl c => by
        rcases hk1 x c with c | c
        · exact hx c
        · omega
      exact ⟨f g hd.1 l1, f a hd.2.1 l2, f b hd.2.2.1 l3, f ga hd.2.2.2.1 l4, f ar hd.2.2.2.2 l5⟩
    have HKK := Lib.hid (show (∀ k, K1 k → K k ∨ w.heap.size ≤ k) ∧ ∀ k, K k → K1 k from ⟨hk1, hk2⟩)
    have HD := Lib.hid K1D
    generalize 64 * p = q at *
    rw [← hfl.1] at ol1
    rw [← hfl.2] at ou
    clear hfl
    have s1 : IntKind.i64.wrap ((q : Int) + n) = (q : Int) + n := IntWalk.i64_in _ (by omega)
    have s2 : IntKind.i64.wrap ((64 : Int) - n) = (64 : Int) - n := IntWalk.i64_in _ (by omega)
    obtain ⟨_, _, _, _, c8', c9'⟩ := S1.cells
    have f8 := S1.frozen 8
    have f9 := S1.frozen 9
    have T1 := S1.put 8 (.int .i64 ((q : Int) + n)) { σ1 with next := q + n } (by simp [cells10]) rfl rfl
    have T2 := T1.put 9 (.int .i64 ((64 : Int) - n)) { σ1 with next := q + n, left := 64 - n } (by simp [cells10]; omega) rfl rfl
    have MP : ModP K1 w1 ((w1.setCell ⟨s, 8, none⟩ (.int .i64 ((q : Int) + n))).setCell ⟨s, 9, none⟩ (.int .i64 ((64 : Int) - n))) := ((ModP.refl K1 w1).setCell (p := ⟨s, 8, none⟩) (.inl S1.ks.1) _).setCell (p := ⟨s, 9, none⟩) (.inl S1.ks.1) _
    have E2 := E1.keepP MP K1D
    obtain ⟨⟨_, c1, _⟩, _⟩ := T2.cells
    have CL := Lib.hid (Arc.clear_any _ ga ar xs q n E2.arena (by omega) (by omega))
    have HS2 := Lib.hid T2
    have hz1 := M1.size
    have HM := Lib.hid (show ModP (fun k => K k ∨ k = a ∨ k = b ∨ k = ar) w _ from (M1.weaken (K' := fun k => K k ∨ k = a ∨ k = b ∨ k = ar) (fun k _ c => by
      rcases c with c | c | c
      · exact .inl c
      · exact .inr (.inl c)
      · exact .inr (.inr (.inl c)))).trans MP (fun k hk c => by
      rcases hk1 k c with c | c
      · exact .inl c
      · omega))
    have HE := Lib.hid E2
    clear S1 E1 T1 T2 MP E2 K1D hk1 hk2 M1 hy hp c8 c9 TI
    go_wp2_with fail
    refine CL.out.mono ?_
    rintro e w2 ⟨rfl, A2, m2⟩
    have M3 : ModP (fun k => k = ar) _ w2 := ModP.of_mod m2 (fun k hk => by simpa using hk)
    have S3 := HS2.out.keepP M3 (fun k hk c => by subst c; exact HD.out.2.2.2.2 hk)
    have E3 : Hid (Env w2 g a b ga ar fs' (Arc.clearV xs q n)) := by
      obtain ⟨ms, P, WF⟩ := HE.out.pool
      have ne := HE.out.ne
      exact ⟨⟨ms, P.keep m2 (by simp; omega) (by simp; omega) (by simp; omega), WF⟩, A2, ne⟩
    have HS3 := Lib.hid S3
    have HM3 := Lib.hid (HM.out.trans M3 (fun k _ c => .inr (.inr (.inr c))))
    clear S3 A2 m2 M3 CL HS2 HE HM c1 c8' c9' f8 f9
    go_wp2_with fail
    refine wp_region_any (by kernel_rfl) ?_
    change wpAny _ _ _ _ _ _ _ (World.drew _)
    refine wpAny_take (i := 0) (v := .pointer (some ⟨s, 0, none⟩)) rfl (by kernel_rfl) (by kernel_rfl) (by kernel_rfl) (fun _ _ _ h => h) (Or.inl ⟨by rfl, fun w => by go_simp⟩) ?_
    refine wpAny_take (i := 1) (v := .pointer (some ⟨s, 0, none⟩)) rfl (by kernel_rfl) (by kernel_rfl) (by kernel_rfl) (fun _ _ _ h => h) (Or.inl ⟨by rfl, fun w => by go_simp⟩) ?_
    refine wpAny_take (i := 2) (v := .pointer (some ⟨s, 0, none⟩)) rfl (by kernel_rfl) (by kernel_rfl) (by kernel_rfl) (fun _ _ _ h => h) (Or.inl ⟨by rfl, fun w => by go_simp⟩) ?_
    refine wpAny_take (i := 3) (v := .pointer (some ⟨s, 0, none⟩)) rfl (by kernel_rfl) (by kernel_rfl) (by kernel_rfl) (fun _ _ _ h => h) (Or.inl ⟨by rfl, fun w => by go_simp⟩) ?_
    refine wpAny_take (i := 4) (v := .pointer (some ⟨s, 4, none⟩)) rfl (by kernel_rfl) (by kernel_rfl) (by kernel_rfl) (fun _ _ _ h => h) (Or.inl ⟨by rfl, fun w => by go_simp⟩) ?_
    refine wpAny_take (i := 6) (v := .int .i64 q) rfl (by kernel_rfl) (by kernel_rfl) (by kernel_rfl) (fun _ _ _ h => h) (Or.inl ⟨by rfl, fun w => by go_simp⟩) ?_
    refine wpAny_take (i := 9) (v := .pointer (some ⟨s, 0, none⟩)) rfl (by kernel_rfl) (by kernel_rfl) (by kernel_rfl) (fun _ _ _ h => h) (Or.inl ⟨by rfl, fun w => by go_simp⟩) ?_
    refine wpAny_take (i := 10) (v := .pointer (some ⟨s, 0, none⟩)) rfl (by kernel_rfl) (by kernel_rfl) (by kernel_rfl) (fun _ _ _ h => h) (Or.inl ⟨by rfl, fun w => by go_simp⟩) ?_
    refine wpAny_take (i := 11) (v := .pointer (some ⟨s, 5, none⟩)) rfl (by kernel_rfl) (by kernel_rfl) (by kernel_rfl) (fun _ _ _ h => h) (Or.inl ⟨by rfl, fun w => by go_simp⟩) ?_
    refine wpAny_take (i := 13) (v := .int .i64 n) rfl (by kernel_rfl) (by kernel_rfl) (by kernel_rfl) (fun _ _ _ h => h) (Or.inl ⟨by rfl, fun w => by go_simp⟩) ?_
    refine wp_two_at (s := s) (f1 := 4) (f2 := 5) (X := q) (Y := n) (t0 := 94) (t2 := 96) (t3 := 97) (t4 := 101) (t6 := 103) (t7 := 104) (t10 := 105) (t11 := 106) (t12 := 107) (t13 := 108) (n := 123) (q0 := 93) (q2 := 95) (q4 := 100) (q6 := 102) (q10 := 89) (q12 := 90) [5, 0, 7, 8, 12, 0, 14, 15, 18, 21, 16, 17, 19, 20] (B := B) (va := va) (vb := vm)
      (cs := cells10 g ga m vg' va vm { σ1 with next := q + n, left := 64 - n }) (T := 70) (k1 := σ1.lays.length) (k2 := σ1.lays.length) (xs := ints (fI σ1.lays)) (ys := ints (sI σ1.lays))
      ?a1 ?a2 ?a3 ?a4 ?a5 ?a6 ?a7
      ?p0 ?p2 ?p3 ?p4 ?p6 ?p7 ?p8 ?p9 ?p10 ?p11 ?p12 ?p13 hfa
      ?e1 ?e2 ?e3 ?e4 ?e5 ?e6 (by decide) ?c1 ?c2 ?b1 ?b2 HS3.out.sB.1 HS3.out.sB.2 ?hs HS3.out.oa HS3.out.om HS3.out.dam ?K
    case a1 => kernel_rfl
    case a2 => kernel_rfl
    case a3 => kernel_rfl
    case a4 => kernel_rfl
    case a5 => exact Nat.le_of_ble_eq_true (by kernel_rfl)
    case a6 => kernel_rfl
    case a7 => kernel_rfl
    case p0 => exact ⟨_, rfl, rfl, rfl, rfl⟩
    case p2 => exact ⟨_, rfl, rfl, rfl, rfl⟩
    case p3 => exact ⟨_, rfl, rfl, rfl, rfl⟩
    case p4 => exact ⟨_, rfl, rfl, rfl, rfl⟩
    case p6 => exact ⟨_, rfl, rfl, rfl, rfl⟩
    case p7 => exact ⟨_, rfl, rfl, rfl, rfl⟩
    case p8 => exact ⟨_, rfl, rfl, rfl, rfl⟩
    case p9 => exact ⟨_, rfl, rfl, rfl, rfl⟩
    case p10 => exact ⟨_, rfl, rfl, rfl, rfl⟩
    case p11 => exact ⟨_, rfl, rfl, rfl, rfl⟩
    case p12 => exact ⟨_, rfl, rfl, rfl, rfl⟩
    case p13 => exact ⟨_, rfl, rfl, rfl, rfl⟩
    case e1 => kernel_rfl
    case e2 => kernel_rfl
    case e3 => kernel_rfl
    case e4 => kernel_rfl
    case e5 => kernel_rfl
    case e6 => kernel_rfl
    case c1 => simp [cells10]
    case c2 => simp [cells10]
    case b1 => show σ1.lays.length + 1 ≤ 1000000; omega
    case b2 => show σ1.lays.length + 1 ≤ 1000000; omega
    case hs => exact HS3.out.obj.trans (by simp [two, cells10])
    case K =>
      intro v w4 va' vm' F4 ob4 oa4 om4 dm4 ka4 km4
      obtain ⟨c6, w5, hrun, c7, f7, K5, S5, hk1, hk2, M5⟩ := sv_lay HS3.out q n F4 ob4 oa4 om4 dm4 ka4 km4 (by simpa using ol1) (by simpa using hat)
      try dsimp only at c7
      have HS5 := Lib.hid S5
      have HM5 := Lib.hid M5
      have HK5 := Lib.hid (And.intro hk1 hk2)
      have s3 : IntKind.i64.wrap ((σ1.used : Int) + n) = (σ1.used : Int) + n := IntWalk.i64_in _ (by omega)
      clear F4 ob4 oa4 om4 dm4 ka4 km4 S5 M5 hk1 hk2
      simp only [At, chain, pairs10, List.foldl_cons, List.foldl_nil]
      go_wp2_with fail
      go_ret2
      have hz := HM3.out.size
      exact Laid.yes F.out HS5.out (E3.out.keepP HM5.out HD.out) (fun k hk => by
        rcases HK5.out.2 k hk with h | h
        · exact HKK.out.1 k h
        · right; omega) (fun k hk => HK5.out.1 k (HKK.out.2 k hk)) (HM3.out.trans HM5.out (fun k hk c => by
          rcases HKK.out.1 k c with c | c
          · exact .inl c
          · omega))
set_option maxHeartbeats 4000000 in
set_option maxRecDepth 100000 in
theorem lay_big (w : World) (s g a b ga ar m B : Nat) (K : Nat → Prop) (vg va vm : Value) (fs xs : List Int) (σ : Sq) (n : Nat) (S : Sv w s g ga m B K vg va vm σ) (E : Env w g a b ga ar fs xs) (D : Dj K g a b ga ar) (O : Ok σ) (h1 : 64 < n) (h2 : n ≤ 4096) :
    Calls Try.prog 10 #[.pointer (some ⟨s, 0, none⟩), .int .i64 n] w (Laid w s g a b ga ar m B K fs xs σ n) := by
  have TI := Lib.hid (take_it w s g a b ga ar m B K vg va vm fs xs σ ((n + 63) / 64) S E D (by omega) (by omega) (by have := O.groups; omega) (by have := O.blocks; omega))
  obtain ⟨_, _, _, _, c8, c9⟩ := S.cells
  have ol := O.left
  have ol1 := O.lays
  have ou := O.used
  have HD0 := Lib.hid D
  have HE0 := Lib.hid E
  have d1 : decide ((n : Int) < 1) = false := decide_eq_false (by omega)
  have d2 : decide (4096 < (n : Int)) = false := decide_eq_false (by omega)
  have d3 : decide (64 < (n : Int)) = true := decide_eq_true (by omega)
  have s1 : IntKind.i64.wrap ((n : Int) + 64) = (n : Int) + 64 := IntWalk.i64_in _ (by omega)
  have s2 : IntKind.i64.wrap ((n : Int) + 64 - 1) = (n : Int) + 64 - 1 := IntWalk.i64_in _ (by omega)
  have e64 : (((n + 63) / 64 : Nat) : Int) = ((n : Int) + 64 - 1) / 64 := by omega
  rw [e64] at TI
  clear S E D O e64
  go_enter Try.func10, Try.ntmps10
  go_wp2_with fail
  refine TI.out.mono ?_
  rintro e w1 hT
  cases hT with
  | no hno S1 E1 M1 =>
    have FN := Lib.hid (show layF fs xs.length σ n = none by unfold layF; rw [if_pos (by omega), hno]; rfl)
    have HL := Lib.hid (And.intro S1 (And.intro E1 M1))
    clear hno S1 E1 M1 TI
    go_wp2_with fail
    go_ret2
    exact Laid.no FN.out HL.out.1 HL.out.2.1 HL.out.2.2
  | @yes _ p fs' σ1 vg' K1 hy hp S1 E1 hk1 hk2 M1 =>
    have hlen := E1.arena.small
    have hfl : σ1.lays = σ.lays ∧ σ1.used = σ.used := by
      unfold takeF at hy
      split at hy
      · cases hy
      · split at hy
        · simp only [Option.some.injEq, Prod.mk.injEq] at hy
          obtain ⟨_, _, rfl⟩ := hy
          exact ⟨rfl, rfl⟩
        · cases hy
    have F := Lib.hid (show layF fs xs.length σ n = some (64 * p, fs', fin σ1 (64 * p) n) by unfold layF; rw [if_pos (by omega), hy]; rfl)
    have hat : 64 * p ≤ 1000000 := by omega
    have K1D : Dj K1 g a b ga ar := by
      have hd := HD0.out
      obtain ⟨ms, P, WF⟩ := HE0.out.pool
      have l1 := Kit.lt_of P.obj
      have l2 := Kit.lt_of P.one
      have l3 := Kit.lt_of P.two
      have l4 := Kit.lt_of HE0.out.arena.obj
      have l5 := Kit.lt_of HE0.out.arena.row
      have f : ∀ x, ¬ K x → x < w.heap.size → ¬ K1 x := fun x hx hl c => by
        rcases hk1 x c with c | c
        · exact hx c
        · omega
      exact ⟨f g hd.1 l1, f a hd.2.1 l2, f b hd.2.2.1 l3, f ga hd.2.2.2.1 l4, f ar hd.2.2.2.2 l5⟩
    have HKK := Lib.hid (show (∀ k, K1 k → K k ∨ w.heap.size ≤ k) ∧ ∀ k, K k → K1 k from ⟨hk1, hk2⟩)
    have HD := Lib.hid K1D
    generalize 64 * p = q at *
    rw [← hfl.1] at ol1
    rw [← hfl.2] at ou
    clear hfl
    obtain ⟨⟨_, c1, _⟩, _⟩ := S1.cells
    have CL := Lib.hid (Arc.clear_any _ ga ar xs q n E1.arena (by omega) (by omega))
    have HS2 := Lib.hid S1
    have hz1 := M1.size
    have HM := Lib.hid (show ModP (fun k => K k ∨ k = a ∨ k = b ∨ k = ar) w _ from M1.weaken (K' := fun k => K k ∨ k = a ∨ k = b ∨ k = ar) (fun k _ c => by
      rcases c with c | c | c
      · exact .inl c
      · exact .inr (.inl c)
      · exact .inr (.inr (.inl c))))
    have HE := Lib.hid E1
    clear S1 E1 K1D hk1 hk2 M1 hy hp c8 c9 TI s1 s2
    go_wp2_with fail
    refine CL.out.mono ?_
    rintro e w2 ⟨rfl, A2, m2⟩
    have M3 : ModP (fun k => k = ar) _ w2 := ModP.of_mod m2 (fun k hk => by simpa using hk)
    have S3 := HS2.out.keepP M3 (fun k hk c => by subst c; exact HD.out.2.2.2.2 hk)
    have E3 : Hid (Env w2 g a b ga ar fs' (Arc.clearV xs q n)) := by
      obtain ⟨ms, P, WF⟩ := HE.out.pool
      have ne := HE.out.ne
      exact ⟨⟨ms, P.keep m2 (by simp; omega) (by simp; omega) (by simp; omega), WF⟩, A2, ne⟩
    have HS3 := Lib.hid S3
    have HM3 := Lib.hid (HM.out.trans M3 (fun k _ c => .inr (.inr (.inr c))))
    clear S3 A2 m2 M3 CL HS2 HE HM c1
    go_wp2_with fail
    refine wp_region_any (by kernel_rfl) ?_
    change wpAny _ _ _ _ _ _ _ (World.drew _)
    refine wpAny_take (i := 0) (v := .pointer (some ⟨s, 0, none⟩)) rfl (by kernel_rfl) (by kernel_rfl) (by kernel_rfl) (fun _ _ _ h => h) (Or.inl ⟨by rfl, fun w => by go_simp⟩) ?_
    refine wpAny_take (i := 1) (v := .pointer (some ⟨s, 0, none⟩)) rfl (by kernel_rfl) (by kernel_rfl) (by kernel_rfl) (fun _ _ _ h => h) (Or.inl ⟨by rfl, fun w => by go_simp⟩) ?_
    refine wpAny_take (i := 2) (v := .pointer (some ⟨s, 0, none⟩)) rfl (by kernel_rfl) (by kernel_rfl) (by kernel_rfl) (fun _ _ _ h => h) (Or.inl ⟨by rfl, fun w => by go_simp⟩) ?_
    refine wpAny_take (i := 3) (v := .pointer (some ⟨s, 0, none⟩)) rfl (by kernel_rfl) (by kernel_rfl) (by kernel_rfl) (fun _ _ _ h => h) (Or.inl ⟨by rfl, fun w => by go_simp⟩) ?_
    refine wpAny_take (i := 4) (v := .pointer (some ⟨s, 4, none⟩)) rfl (by kernel_rfl) (by kernel_rfl) (by kernel_rfl) (fun _ _ _ h => h) (Or.inl ⟨by rfl, fun w => by go_simp⟩) ?_
    refine wpAny_take (i := 6) (v := .int .i64 q) rfl (by kernel_rfl) (by kernel_rfl) (by kernel_rfl) (fun _ _ _ h => h) (Or.inl ⟨by rfl, fun w => by go_simp⟩) ?_
    refine wpAny_take (i := 9) (v := .pointer (some ⟨s, 0, none⟩)) rfl (by kernel_rfl) (by kernel_rfl) (by kernel_rfl) (fun _ _ _ h => h) (Or.inl ⟨by rfl, fun w => by go_simp⟩) ?_
    refine wpAny_take (i := 10) (v := .pointer (some ⟨s, 0, none⟩)) rfl (by kernel_rfl) (by kernel_rfl) (by kernel_rfl) (fun _ _ _ h => h) (Or.inl ⟨by rfl, fun w => by go_simp⟩) ?_
    refine wpAny_take (i := 11) (v := .pointer (some ⟨s, 5, none⟩)) rfl (by kernel_rfl) (by kernel_rfl) (by kernel_rfl) (fun _ _ _ h => h) (Or.inl ⟨by rfl, fun w => by go_simp⟩) ?_
    refine wpAny_take (i := 13) (v := .int .i64 n) rfl (by kernel_rfl) (by kernel_rfl) (by kernel_rfl) (fun _ _ _ h => h) (Or.inl ⟨by rfl, fun w => by go_simp⟩) ?_
    refine wp_two_at (s := s) (f1 := 4) (f2 := 5) (X := q) (Y := n) (t0 := 94) (t2 := 96) (t3 := 97) (t4 := 101) (t6 := 103) (t7 := 104) (t10 := 105) (t11 := 106) (t12 := 107) (t13 := 108) (n := 123) (q0 := 93) (q2 := 95) (q4 := 100) (q6 := 102) (q10 := 89) (q12 := 90) [5, 0, 7, 8, 12, 0, 14, 15, 18, 21, 16, 17, 19, 20] (B := B) (va := va) (vb := vm)
      (cs := cells10 g ga m vg' va vm σ1) (T := 70) (k1 := σ1.lays.length) (k2 := σ1.lays.length) (xs := ints (fI σ1.lays)) (ys := ints (sI σ1.lays))
      ?a1 ?a2 ?a3 ?a4 ?a5 ?a6 ?a7
      ?p0 ?p2 ?p3 ?p4 ?p6 ?p7 ?p8 ?p9 ?p10 ?p11 ?p12 ?p13 hfa
      ?e1 ?e2 ?e3 ?e4 ?e5 ?e6 (by decide) ?c1 ?c2 ?b1 ?b2 HS3.out.sB.1 HS3.out.sB.2 ?hs HS3.out.oa HS3.out.om HS3.out.dam ?K
    case a1 => kernel_rfl
    case a2 => kernel_rfl
    case a3 => kernel_rfl
    case a4 => kernel_rfl
    case a5 => exact Nat.le_of_ble_eq_true (by kernel_rfl)
    case a6 => kernel_rfl
    case a7 => kernel_rfl
    case p0 => exact ⟨_, rfl, rfl, rfl, rfl⟩
    case p2 => exact ⟨_, rfl, rfl, rfl, rfl⟩
    case p3 => exact ⟨_, rfl, rfl, rfl, rfl⟩
    case p4 => exact ⟨_, rfl, rfl, rfl, rfl⟩
    case p6 => exact ⟨_, rfl, rfl, rfl, rfl⟩
    case p7 => exact ⟨_, rfl, rfl, rfl, rfl⟩
    case p8 => exact ⟨_, rfl, rfl, rfl, rfl⟩
    case p9 => exact ⟨_, rfl, rfl, rfl, rfl⟩
    case p10 => exact ⟨_, rfl, rfl, rfl, rfl⟩
    case p11 => exact ⟨_, rfl, rfl, rfl, rfl⟩
    case p12 => exact ⟨_, rfl, rfl, rfl, rfl⟩
    case p13 => exact ⟨_, rfl, rfl, rfl, rfl⟩
    case e1 => kernel_rfl
    case e2 => kernel_rfl
    case e3 => kernel_rfl
    case e4 => kernel_rfl
    case e5 => kernel_rfl
    case e6 => kernel_rfl
    case c1 => simp [cells10]
    case c2 => simp [cells10]
    case b1 => show σ1.lays.length + 1 ≤ 1000000; omega
    case b2 => show σ1.lays.length + 1 ≤ 1000000; omega
    case hs => exact HS3.out.obj.trans (by simp [two, cells10])
    case K =>
      intro v w4 va' vm' F4 ob4 oa4 om4 dm4 ka4 km4
      obtain ⟨c6, w5, hrun, c7, f7, K5, S5, hk1, hk2, M5⟩ := sv_lay HS3.out q n F4 ob4 oa4 om4 dm4 ka4 km4 (by simpa using ol1) (by simpa using hat)
      try dsimp only at c7
      have HS5 := Lib.hid S5
      have HM5 := Lib.hid M5
      have HK5 := Lib.hid (And.intro hk1 hk2)
      have s3 : IntKind.i64.wrap ((σ1.used : Int) + n) = (σ1.used : Int) + n := IntWalk.i64_in _ (by omega)
      clear F4 ob4 oa4 om4 dm4 ka4 km4 S5 M5 hk1 hk2
      simp only [At, chain, pairs10, List.foldl_cons, List.foldl_nil]
      go_wp2_with fail
      go_ret2
      have hz := HM3.out.size
      exact Laid.yes F.out HS5.out (E3.out.keepP HM5.out HD.out) (fun k hk => by
        rcases HK5.out.2 k hk with h | h
        · exact HKK.out.1 k h
        · right; omega) (fun k hk => HK5.out.1 k (HKK.out.2 k hk)) (HM3.out.trans HM5.out (fun k hk c => by
          rcases HKK.out.1 k c with c | c
          · exact .inl c
          · omega))
end Go.Proofs.Ytladhenjoipfpaa.La
