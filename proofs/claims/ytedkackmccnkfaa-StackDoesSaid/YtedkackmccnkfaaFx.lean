/- The laws' helper frames: what Frames tells, gathered. No condition. -/
import Derived.Test.YtedkackmccnkfaaFy
set_option linter.unusedVariables false
set_option linter.unusedSimpArgs false
namespace Go.Proofs.Ytedkackmccnkfaa.Fx
open Go.RowKit
open Fr Fs Ft Ar Sk Pu Pv Fa Po Nw Bk Fz Fy
section
variable {B M p q : Nat} {w w' : World} {v v2 : Value} {inn out : List In}
set_option maxHeartbeats 2000000 in
set_option maxRecDepth 100000 in
theorem frames1_it (G : Rws B M q w v2 out) (k a b : Int) (ps : List Int) (pp : Option Addr) (c : Nat) (hx : Mine M w (⟨k, a, b, ps⟩, pp, c)) (hl : out.length ≤ 65536) (hq : B ≤ q) :
    Calls Try.prog 41 #[.agg #[.int .i64 k, .int .i64 a, .int .i64 b, .slice pp ps.length c], .pointer (some ⟨q, 0, none⟩)] w fun e w' => e = .returned (.bool true) ∧ (∃ v2', Rws B M q w' v2' (out ++ [(⟨k, a, b, ps⟩, pp, c)])) ∧ Below B w w' := by
  obtain ⟨i0, hi, hz0, hz1, hz2⟩ := info_parts infoF
  have hsz := G.siz
  have hps := hx.2
  simp only at hps
  have R4 := Lib.hid (G.stepB (Kit.allocB (Below.refl _ _) (.cells #[.int .i64 k, .int .i64 a, .int .i64 b, .slice pp ps.length c] 24 (0, 0))))
  have M4 := Lib.hid (hx.stepB (Kit.allocB (Below.refl _ _) (.cells #[.int .i64 k, .int .i64 a, .int .i64 b, .slice pp ps.length c] 24 (0, 0))))
  have B4 := Lib.hid ((Below.refl B w).alloc hsz (.cells #[.int .i64 k, .int .i64 a, .int .i64 b, .slice pp ps.length c] 24 (0, 0)))
  have c4n := Lib.hid (Kit.cells4 (Kit.new_blk2 w (.cells #[.int .i64 k, .int .i64 a, .int .i64 b, .slice pp ps.length c] 24 (0, 0)) (.cells #[.int .i64 k, .int .i64 a, .int .i64 b, .slice pp ps.length c] 24 (0, 0))))
  obtain ⟨aa, ca, rfl⟩ := shape4 G.own
  have c3 := Kit.cells1 R4.out.box
  clear G hx
  go_enter Try.func41, Try.ntmps41
  go_wp2_with (at_builtin; go_loud (refine wpList_append_own _ rfl _ _ 36 rfl B 24 i0 (.agg #[.int .i64 0, .int .i64 0, .int .i64 0, .slice none 0 0]) 4 48 Try.underlying36 hi hz0 hz1 hz2 rfl (by decide) _ _ _ rfl (own_mod (S := []) R4.out.own ((Kit.Mod.refl _ _).alloc _) (by simp)) ⟨w.heap.size + 1, 0, none⟩ 1 1 (cellsI (⟨k, a, b, ps⟩, pp, c)) rfl rfl (fun q u hq => by
    match q, hq with
    | 0, hq => simp [cellsI] at hq; subst hq; exact c4n.out.1
    | 1, hq => simp [cellsI] at hq; subst hq; exact c4n.out.2.1
    | 2, hq => simp [cellsI] at hq; subst hq; exact c4n.out.2.2.1
    | 3, hq => simp [cellsI] at hq; subst hq; exact c4n.out.2.2.2) (fun x hx => by simp [cellsI] at hx; rcases hx with rfl | rfl | rfl | rfl <;> rfl) (by unfold maxLen; omega) (by omega) (by simp; omega) ?_))
  intro v' w5 hown' hgrow _
  obtain ⟨b5, R5⟩ := R4.out.push (x := (⟨k, a, b, ps⟩, pp, c)) M4.out hown' hgrow
  have h5 : Below B w w5 := (B4.out.alloc (by simp; omega) _).grown hgrow (by simp; omega) (fun q hq => (R4.out.own.lt q hq).1)
  have c5 := Kit.cells1 b5
  have f5 := Kit.frozen_of b5 0
  have BF := Lib.hid (h5.setCell (p := ⟨q, 0, none⟩) hq v')
  have RF := Lib.hid R5
  obtain ⟨aa', ca', rfl⟩ := shape4 hown'
  clear hown' hgrow h5 b5 R5 c3
  go_wp2_with fail
  go_ret
  exact ⟨rfl, ⟨_, RF.out⟩, BF.out⟩
set_option maxHeartbeats 2000000 in
set_option maxRecDepth 100000 in
theorem iter_frames (w0 W : World) (hin : inn.length ≤ 65536) (hB : Below w0.heap.size w0 W) (R : Rws B M p w0 v inn) (hq : w0.heap.size ≤ q) (hM : M ≤ w0.heap.size) (G : Rws w0.heap.size M q W v2 []) :
    Calls Try.prog 42 #[.func (.func 41) #[] #[.pointer (some ⟨q, 0, none⟩)], .pointer (some ⟨p, 0, none⟩)] W fun e W' => e = .returned (.tuple #[]) ∧ Below w0.heap.size w0 W' ∧ ∃ v2', Rws w0.heap.size M q W' v2' inn := by
  have T := R.stepB hB
  have HR := Lib.hid R
  have cp := Kit.cells1 T.box
  obtain ⟨kk, cc, hva, hk0, hcap⟩ := row_shape T
  subst hva
  have S0 : Hid (Below w0.heap.size w0 W ∧ ∃ v2', Rws w0.heap.size M q W v2' (inn.take 0)) := ⟨hB, _, by simpa using G⟩
  clear T R hB G hk0
  go_enter Try.func42, Try.ntmps42
  go_wp2_with fail
  go_loopg [7] inn.length (fun n i wr => ∃ k : Nat, (k ≤ inn.length ∧ n = inn.length - k) ∧ i = .int .i64 k ∧ Hid (Below w0.heap.size w0 wr ∧ ∃ v2', Rws w0.heap.size M q wr v2' (inn.take k)))
  case atStart => exact ⟨0, ⟨Nat.zero_le _, rfl⟩, rfl, S0.out⟩
  case round =>
    obtain ⟨k, ⟨hk, rfl⟩, rfl, H⟩ := hrel
    obtain ⟨bel, v3, G3⟩ := H.out
    have bel2 := HR.out.stepB bel
    have HBL := Lib.hid bel
    have HG3 := Lib.hid G3
    by_cases hlt : k < inn.length
    · have d1 : decide ((k : Int) < (inn.length : Int)) = true := decide_eq_true (by omega)
      obtain ⟨q2, rfl, -, -, c0, c1, c2, c3⟩ := bel2.at_ k hlt (⟨0, 0, 0, []⟩, none, 0)
      have hx1 := bel2.sls (inn.getD k (⟨0, 0, 0, []⟩, none, 0)) (by rw [List.getD_eq_getElem?_getD, List.getElem?_eq_getElem hlt]; exact List.getElem_mem hlt)
      have hxk : inn.take (k + 1) = inn.take k ++ [inn.getD k (⟨0, 0, 0, []⟩, none, 0)] := by rw [List.take_succ_eq_append_getElem hlt, List.getD_eq_getElem?_getD, List.getElem?_eq_getElem hlt]; rfl
      generalize inn.getD k (⟨0, 0, 0, []⟩, none, 0) = x at *
      obtain ⟨⟨fk, fa, fb, ps⟩, px, cx⟩ := x
      simp only at c0 c1 c2 c3
      have HXK := Lib.hid hxk
      have B1 := Lib.hid (Kit.allocB bel (.cells #[.int .i64 fk, .int .i64 fa, .int .i64 fb, .slice px ps.length cx] 24))
      have al := Kit.allocB (Below.refl wr.heap.size wr) (.cells #[.int .i64 fk, .int .i64 fa, .int .i64 fb, .slice px ps.length cx] 24)
      have F1 := Lib.hid (frames1_it (G3.stepB al) fk fa fb ps px cx (hx1.stepB al) (by simp; omega) hq)
      have hlt2 : (k : Int) < inn.length := by omega
      have hk2 : (0 : Int) ≤ (k : Int) := by omega
      clear bel2 bel G3 hx1 hxk al H
      go_wp2_with fail
      refine F1.out.mono ?_
      rintro e W3 ⟨rfl, ⟨v4, G4⟩, b4⟩
      have HG4 := Lib.hid G4
      have B4 := Lib.hid (B1.out.trans b4)
      clear G4 b4 F1
      go_wp2_with fail
      go_roundg (inn.length - (k + 1))
      case measure => omega
      case rel => exact ⟨k + 1, ⟨by omega, rfl⟩, by simp, B4.out, v4, by rw [HXK.out]; exact HG4.out⟩
    · obtain rfl : k = inn.length := by omega
      clear bel2 bel G3
      go_wp2_with fail
      go_end0
      exact ⟨rfl, HBL.out, v3, by have := HG3.out; rw [List.take_length] at this; exact this⟩
set_option maxHeartbeats 1000000 in
set_option maxRecDepth 100000 in
theorem frames_told (w : World) (hin : inn.length ≤ 65536) (R : Rws B M p w v inn) (hM : M ≤ w.heap.size) : Calls Try.prog 27 #[.func (.func 42) #[] #[.pointer (some ⟨p, 0, none⟩)]] w fun e w' =>
    ∃ v2, e = .returned v2 ∧ w'.ownsRow w.heap.size 24 4 v2 inn.length (flat inn) ∧ (∀ x, x ∈ inn → Mine M w' x) ∧ Below w.heap.size w w' := by
  have hnil := hnil
  have IT := Lib.hid (iter_frames (q := w.heap.size) (v2 := .slice none 0 0) w (w.alloc (.cells #[.slice none 0 0] 36)) hin (Kit.allocB (Below.refl _ _) _) R (Nat.le_refl _) hM ⟨Kit.new_blk _ _, World.ownsRow_nil _ _ _ _, by simp, by simp⟩)
  clear R
  go_enter Try.func27, Try.ntmps27
  go_wp2_with fail
  refine IT.out.mono ?_; rintro e w1 ⟨rfl, b1, v2, G⟩
  have HG := Lib.hid G
  have B1 := Lib.hid b1
  obtain ⟨aa, ca, rfl⟩ := shape4 G.own
  have c1 := Kit.cells1 G.box
  clear G b1 IT
  go_wp2_with fail
  go_ret
  exact ⟨_, rfl, HG.out.own, HG.out.sls, B1.out⟩
end
end Go.Proofs.Ytedkackmccnkfaa.Fx
