/- The pool's range over its groups, for every body of a loop that keeps what lay; Groups. No condition. -/
import Derived.Test.YtlhgdcimchmldaaGp
set_option linter.unusedVariables false
set_option linter.unusedSimpArgs false
namespace Go.Proofs.Ytlhgdcimchmldaa.Gs
open Go.RowKit Go.Shelf
open Pl Rn Rs Ov Tw Kp Rc K1 Lf Gp
attribute [local go_sem] Oper.semAt_some
theorem grp_post {fs ms : List Int} (j k : Nat) (h : j ≤ k) : ∃ post, grp fs ms k = grp fs ms j ++ post := by
  induction k with
  | zero => obtain rfl : j = 0 := by omega
            exact ⟨[], by simp⟩
  | succ k ih =>
    by_cases e : j = k + 1
    · subst e; exact ⟨[], by simp⟩
    · obtain ⟨post, hp⟩ := ih (by omega)
      refine ⟨post ++ (if fs.getD k 0 = k then [(k, (ms.getD k 0).toNat)] else []), ?_⟩
      simp only [grp]; rw [hp, List.append_assoc]
set_option maxRecDepth 100000 in
set_option maxHeartbeats 4000000 in
theorem groups2_in (n : Nat) (hn : 1 ≤ n) (l B n₀ g a b : Nat) (fs ms : List Int) (WF : Wf fs ms) (hB : B < n₀ ∧ g < n₀ ∧ a < n₀ ∧ b < n₀) (J Jx : List (Ru fs.length) → World → Prop)
    (hY : ∀ pre x W, J pre W → pre.length < fs.length → YieldAt Fence.wide (n - 1) Try.prog l (encN x) W fun e W' =>
      (e = .returned (.bool true) ∧ J (pre ++ [x]) W' ∧ Below n₀ W W') ∨ (e = .returned (.bool false) ∧ Jx (pre ++ [x]) W'))
    (W : World) (hJ : AbidesFrom W.heap.size J) (P : Pool W g a b fs ms) (hBc : W.cell? ⟨B, 0, none⟩ = some (.pointer (some ⟨g, 0, none⟩))) (h0 : J [] W) :
    CallsIn Fence.wide n Try.prog 27 #[.func (.yield l) #[] #[], .pointer (some ⟨B, 0, none⟩)] W fun e W' => (∃ v, e = .returned v) ∧
      ((∃ ys : List (Ru fs.length), ys.map (·.1) = grp fs ms fs.length ∧ J ys W') ∨ (∃ pre : List (Ru fs.length), (∃ post, grp fs ms fs.length = pre.map (·.1) ++ post) ∧ Jx pre W')) := by
  have hs := P.small
  have HP := Lib.hid P
  have HW := Lib.hid WF
  have HN := Lib.hid hB
  have hlm := P.len
  have c20 := Kit.cells2 P.obj
  clear P WF hJ
  refine callsIn_of_wp Try.func27 rfl trivial ?_ rfl
  simp only [Try.ntmps27, List.size_toArray, List.length_cons, List.length_nil, Nat.reduceAdd, Nat.reduceSub, Array.replicate_succ, Array.replicate_zero, List.push_toArray, List.append_toArray, List.nil_append, List.cons_append]
  gi_wp2
  gi_loopw [10] (fun i wr => ∃ p : Nat, p ≤ fs.length ∧ i = .int .i64 p ∧ Hid ((∃ pre : List (Ru fs.length), grp fs ms p = pre.map (·.1) ∧ J pre wr) ∧ Below n₀ W wr))
    (fun i _ => fs.length - (intOf i).toNat)
  case atStart => exact ⟨0, Nat.zero_le _, rfl, ⟨[], rfl, h0⟩, Below.refl _ _⟩
  case round =>
    obtain ⟨p, hp, rfl, H⟩ := hrel
    obtain ⟨⟨pre, hpre, hJp⟩, bel⟩ := H.out
    have PW : Pool wr g a b fs ms := ⟨(bel.block g HN.out.2.1).trans HP.out.obj, (bel.block a HN.out.2.2.1).trans HP.out.one, (bel.block b HN.out.2.2.2).trans HP.out.two, HP.out.ne, HP.out.len, HP.out.small⟩
    have cB := (bel.cell (p := ⟨B, 0, none⟩) HN.out.1).trans hBc
    have c2 := Kit.cells2 PW.obj
    have HPW := Lib.hid PW
    have HBL := Lib.hid bel
    have HPR := Lib.hid hpre
    clear PW bel hpre H c20
    by_cases hlt : p < fs.length
    · have c1 := Rw.cell HPW.out.one p hlt
      have c3 := Rw.cell HPW.out.two p (by rw [hlm]; exact hlt)
      have d0 : decide ((p : Int) < (fs.length : Int)) = true := decide_eq_true (by omega)
      have s1 : IntKind.i64.wrap ((p : Int) + 1) = p + 1 := IntWalk.i64_in _ (by omega)
      by_cases hf : fs.getD p 0 = p
      · obtain ⟨m, e1, e2, e3, e4⟩ := first_group HW.out p hlt hf
        have hg := Lib.hid (grp_yes (fs := fs) (ms := ms) p hf)
        rw [hf] at c1
        rw [e1] at c3
        have hle := e3
        obtain ⟨fn, tmps, assign, body, hy, hR⟩ := hY pre ⟨(p, m), hle⟩ wr hJp (by have := grp_length (fs := fs) (ms := ms) p; rw [HPR.out] at this; simp at this; omega)
        dsimp only [encN] at hy
        have HR := Lib.hid hR
        have HE := Lib.hid e1
        clear hR e1 e4 hf
        gi_wp2
        refine HR.out.mono ?_
        rintro e W3 (⟨rfl, hJ3, hk3⟩ | ⟨rfl, hJx3⟩)
        · have HK3 := Lib.hid (HBL.out.trans hk3)
          have HJ3 := Lib.hid hJ3
          clear hk3 hJ3
          gi_wp2
          go_roundw
          case rel => exact ⟨p + 1, by omega, by simp, ⟨pre ++ [⟨(p, m), hle⟩], by rw [hg.out, HPR.out, HE.out]; simp, HJ3.out⟩, HK3.out⟩
          case measure => simp [intOf]; omega
        · have HJ3 := Lib.hid hJx3
          clear hJx3
          gi_wp2
          refine bodyPost_ret (results_none rfl _ _ _) rfl ?_
          obtain ⟨post, hpost⟩ := grp_post (fs := fs) (ms := ms) (p + 1) fs.length (by omega)
          exact ⟨⟨_, rfl⟩, .inr ⟨pre ++ [⟨(p, m), hle⟩], ⟨post, by rw [hpost, hg.out, HPR.out, HE.out]; simp⟩, HJ3.out⟩⟩
      · have hg := Lib.hid (grp_no (fs := fs) (ms := ms) p hf)
        generalize fs.getD p 0 = x at c1 hf
        have d1 : (x == (p : Int)) = false := by simpa using hf
        clear hf c3
        gi_wp2
        refine ⟨fun _ h => (by cases h), ?_⟩
        gi_wp2
        go_roundw
        case rel => exact ⟨p + 1, by omega, by simp, ⟨pre, by rw [hg.out, HPR.out], hJp⟩, HBL.out⟩
        case measure => simp [intOf]; omega
    · obtain rfl : p = fs.length := by omega
      have d0 : decide ((fs.length : Int) < (fs.length : Int)) = false := decide_eq_false (by omega)
      gi_wp2
      go_end0
      exact ⟨⟨_, rfl⟩, .inl ⟨_, HPR.out.symm, hJp⟩⟩
theorem groups2_stops (n : Nat) (hn : 1 ≤ n) (B n₀ g a b : Nat) (fs ms : List Int) (WF : Wf fs ms) (hB : B < n₀ ∧ g < n₀ ∧ a < n₀ ∧ b < n₀) (w : World) (hn0 : n₀ ≤ w.heap.size) (P : Pool w g a b fs ms) (hBc : w.cell? ⟨B, 0, none⟩ = some (.pointer (some ⟨g, 0, none⟩))) :
    SeqStopsK Fence.wide n Try.prog 27 #[.pointer (some ⟨B, 0, none⟩)] (encN (N := fs.length)) (Below n₀) (fun ys => ys.map (·.1) = grp fs ms fs.length) (fun pre => ∃ post, grp fs ms fs.length = pre.map (·.1) ++ post) fs.length w := fun l J Jx W hW hJ hJx hY h0 => by
  refine (groups2_in n hn l B n₀ g a b fs ms WF hB J Jx hY W hJ (P.keepB hW) ((hW.cell (p := ⟨B, 0, none⟩) (by simp; omega)).trans hBc) h0).mono ?_
  rintro e W' h
  exact h
set_option maxRecDepth 100000 in
set_option maxHeartbeats 4000000 in
theorem groups_it (w : World) (g a b : Nat) (fs ms : List Int) (WF : Wf fs ms) (P : Pool w g a b fs ms) :
    Calls Try.prog 16 #[.pointer (some ⟨g, 0, none⟩)] w fun e w' => ∃ p q va vb, e = .returned (.func (.func 37) #[] #[.pointer (some ⟨p, 0, none⟩), .pointer (some ⟨q, 0, none⟩)]) ∧ Below w.heap.size w w' ∧ Two w' w.heap.size p q va vb (grp fs ms fs.length) := by
  refine (callsIn_wide (n := 6)).1 ?_
  refine callsIn_of_wp Try.func16 rfl trivial ?_ rfl
  simp only [Try.ntmps16, List.size_toArray, List.length_cons, List.length_nil, Nat.reduceAdd, Nat.reduceSub, Array.replicate_succ, Array.replicate_zero, List.push_toArray, List.append_toArray, List.nil_append, List.cons_append]
  gi_wp2
  have lg := Kit.lt_of P.obj
  have la := Kit.lt_of P.one
  have lb := Kit.lt_of P.two
  have bl : Below w.heap.size w (w.alloc (.cells #[.pointer (some ⟨g, 0, none⟩)] 23)) := Kit.allocB (Below.refl _ _) _
  have sz : (w.alloc (.cells #[.pointer (some ⟨g, 0, none⟩)] 23)).heap.size = w.heap.size + 1 := by simp
  refine ⟨trivial, ?_⟩
  refine (callsIn_wide.2 (kept_in _ 27 (by omega) #[.pointer (some ⟨w.heap.size, 0, none⟩)] fs.length P.small.2 (grp fs ms fs.length) (w.heap.size + 1) (by omega) (enters_of Try.func27 (by kernel_rfl) rfl)
    (fun w' hw' => groups2_stops 5 (by decide) w.heap.size (w.heap.size + 1) g a b fs ms WF (by omega) w' (by have := hw'.size; omega) ((P.keepB bl).keepB hw') (Kit.cells1 (Kit.keepB (Kit.new_blk w _) hw'))))).mono ?_
  rintro e w2 ⟨va, vb, rfl, hB, h1, h2, o1, o2⟩
  rw [sz] at h1 h2 o1 o2
  gi_wp2
  refine bodyPost_ret (v := .func (.func 37) #[] #[.pointer (some ⟨w.heap.size + 1, 0, none⟩), .pointer (some ⟨w.heap.size + 1 + 1, 0, none⟩)]) (by simp [results, Try.f16, go_sem]) rfl ?_
  exact ⟨_, _, va, vb, rfl, Kit.stepB bl hB, h1, h2, own_mono o1 (by omega), own_mono o2 (by omega), by omega⟩
end Go.Proofs.Ytlhgdcimchmldaa.Gs
