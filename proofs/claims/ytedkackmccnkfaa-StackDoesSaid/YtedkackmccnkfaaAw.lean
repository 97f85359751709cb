/- What must come at any rate; two frames held against each other. No condition. -/
import Derived.Test.YtedkackmccnkfaaNw
set_option linter.unusedVariables false
set_option linter.unusedSimpArgs false
namespace Go.Proofs.Ytedkackmccnkfaa.Aw
open Go.RowKit
open Fr Fs Ft Ar Sk Pu Pv Fa Po Nw
theorem same_it (w : World) (k a b : Int) (p1 p2 : Option Addr) (c1 c2 : Nat) (ps : List Int) (S1 : Sl w p1 ps) (S2 : Sl w p2 ps) (hl : ps.length ≤ 17592186044416) :
    Calls Try.prog 18 #[frameV k a b p1 ps.length c1, frameV k a b p2 ps.length c2] w fun e w' => e = .returned (.bool true) ∧ Below w.heap.size w w' := by
  unfold frameV
  have A0 := Kit.new_blk w (.cells #[.int .i64 k, .int .i64 a, .int .i64 b, .slice p1 ps.length c1] 24 (0, 0))
  have A1 := Lib.hid (Kit.keep_alloc A0 (.cells #[.int .i64 k, .int .i64 a, .int .i64 b, .slice p2 ps.length c2] 24 (0, 0)))
  have A2 := Lib.hid (Kit.new_blk2 w (.cells #[.int .i64 k, .int .i64 a, .int .i64 b, .slice p1 ps.length c1] 24 (0, 0)) (.cells #[.int .i64 k, .int .i64 a, .int .i64 b, .slice p2 ps.length c2] 24 (0, 0)))
  have BB := Lib.hid (Kit.allocB (Kit.allocB (Below.refl w.heap.size w) (.cells #[.int .i64 k, .int .i64 a, .int .i64 b, .slice p1 ps.length c1] 24 (0, 0))) (.cells #[.int .i64 k, .int .i64 a, .int .i64 b, .slice p2 ps.length c2] 24 (0, 0)))
  have T1 := Lib.hid (S1.keepB BB.out)
  have T2 := Lib.hid (S2.keepB BB.out)
  clear A0 S1 S2
  go_enter Try.func18, Try.ntmps18
  go_wp2_with fail
  generalize hW : (w.alloc _).alloc _ = W at *
  have HW := Lib.hid hW
  clear hW
  go_loopg [5] ps.length (fun n i wr => ∃ j : Nat, (j ≤ ps.length ∧ n = ps.length - j) ∧ i = .int .i64 j ∧ Hid (∃ n, wr = W.drewN n))
  case atStart => exact ⟨0, ⟨Nat.zero_le _, rfl⟩, rfl, ⟨0, rfl⟩⟩
  case round =>
    obtain ⟨j, ⟨hj, rfl⟩, rfl, HN⟩ := hrel
    obtain ⟨nn, hnn⟩ := HN.out
    have x1 := Kit.keep_drewN A1.out nn
    have x2 := Kit.keep_drewN A2.out nn
    rw [← hnn] at x1 x2
    have d1 := Kit.cells4 x1
    have d2 := Kit.cells4 x2
    by_cases hlt : j < ps.length
    · obtain ⟨b1, o1, rfl, hb1, hc1⟩ := T1.out.cells (by omega)
      obtain ⟨b2, o2, rfl, hb2, hc2⟩ := T2.out.cells (by omega)
      have e1 : wr.cell? ⟨b1, o1 + j, none⟩ = some (.int .i64 (ps.getD j 0)) := by rw [hnn]; exact hc1 j hlt
      have e2 : wr.cell? ⟨b2, o2 + j, none⟩ = some (.int .i64 (ps.getD j 0)) := by rw [hnn]; exact hc2 j hlt
      have HNN := Lib.hid hnn
      generalize ps.getD j 0 = y at e1 e2
      clear hc1 hc2 x1 x2 hnn HN
      go_wp2_with fail
      go_quiet (fail)
      go_wp2_with fail
      go_roundg (ps.length - (j + 1))
      case measure => omega
      case rel => exact ⟨j + 1, ⟨by omega, rfl⟩, by simp, ⟨nn + nq, by rw [HNN.out]; simp [World.drewN, Nat.add_assoc]⟩⟩
    · have BX : Hid (Below w.heap.size w wr) := by rw [hnn]; exact Kit.drawB BB.out _
      clear x1 x2 hnn
      go_wp2_with fail
      go_ret
      exact ⟨rfl, BX.out⟩
set_option maxHeartbeats 1000000 in
set_option maxRecDepth 100000 in
theorem awake_it (w : World) : Calls Try.prog 9 #[] w fun e w' => e = .returned (.bool true) ∧ Below w.heap.size w w' := by
  have MD := Lib.hid (made_it w 4 (by decide) (by decide))
  go_enter Try.func9, Try.ntmps9
  go_wp2_with fail
  refine MD.out.mono ?_; rintro e w1 ⟨g, ga, r, rfl, ⟨hg, hga, hr⟩, K1, b1⟩
  have B1 := Lib.hid b1
  have l1 := Kit.lt_of K1.obj
  have l2 := Kit.lt_of K1.own.row
  have hz1 := b1.size
  have K2 := Stk.keepB K1 (Kit.allocB (Below.refl w1.heap.size w1) (Obj.cells #[Value.int IntKind.i64 5, Value.int IntKind.i64 6] 3))
  have X2 := Kit.new_blk w1 (Obj.cells #[Value.int IntKind.i64 5, Value.int IntKind.i64 6] 3)
  have cx := Kit.cells2 X2
  have PU := push_ok K2 3 0 0 (some ⟨w1.heap.size, 0, none⟩) 2 [5, 6] ⟨by decide, fun _ => ⟨_, 0, rfl, by simp, fun i hi => by
    match i, hi with
    | 0, _ => exact cx.1
    | 1, _ => exact cx.2⟩⟩ (fun _ b off e => by simp at e; omega) (by decide) (by decide) (by decide)
  have PU := Lib.hid PU
  have HX := Lib.hid X2
  have BX := Lib.hid (Kit.allocB b1 (Obj.cells #[Value.int IntKind.i64 5, Value.int IntKind.i64 6] 3))
  rename_i PU2
  clear PU2 K1 b1 K2 X2 cx
  go_wp2_with fail
  refine PU.out.mono ?_; rintro e w2 ⟨rfl, m2, K3⟩
  have B2 := Lib.hid (Kit.step BX.out m2 (fun x hx => by simp at hx; omega))
  have US := used_it K3
  rw [show (lay ([] ++ [⟨3, 0, 0, [5, 6]⟩])).length = 3 from rfl] at US
  have US := Lib.hid US
  rename_i US2
  have l3 := Kit.lt_of K3.obj
  have l4 := Kit.lt_of K3.own.row
  have HK3 := Lib.hid K3
  clear US2 m2 K3 PU
  go_wp2_with fail
  refine US.out.mono ?_; rintro e w3 ⟨rfl, rfl⟩
  have K4 := Stk.keepB HK3.out (Kit.allocB (Below.refl w3.heap.size w3) (Obj.cells #[Value.int IntKind.i64 7] 3))
  have X4 := Kit.new_blk w3 (Obj.cells #[Value.int IntKind.i64 7] 3)
  have PF := Lib.hid (push_full K4 2 0 0 (some ⟨w3.heap.size, 0, none⟩) 1 [7] ⟨by decide, fun _ => ⟨_, 0, rfl, by simp, fun i hi => by
    match i, hi with
    | 0, _ => exact Kit.cells1 X4⟩⟩ (by decide) (by decide) (by decide) (by decide))
  have HK4 := Lib.hid K4
  have B4 := Lib.hid (Kit.allocB B2.out (Obj.cells #[Value.int IntKind.i64 7] 3))
  clear K4 X4
  go_wp2_with fail
  refine PF.out.mono ?_; rintro e w5 ⟨rfl, b5⟩
  have K5 := Stk.keepB HK4.out b5
  have PO := Lib.hid (pop_it (L := []) (f := ⟨3, 0, 0, [5, 6]⟩) K5 (by decide))
  have B5 := Lib.hid (Kit.stepB B4.out b5)
  have l5 := Kit.lt_of K5.obj
  clear b5 K5 PF
  unfold frameV at PO
  simp only at PO
  go_wp2_with fail
  refine PO.out.mono ?_; rintro e w6 ⟨p, c, rfl, own, m6, K6⟩
  obtain ⟨-, S6, -⟩ := Sl.of own (by decide)
  obtain ⟨bb, off, rfl, hb, hc⟩ := S6.cells (by decide)
  have c1 := hc 1 (by decide)
  have hlt : bb < w6.heap.size := hb
  have B6 := Lib.hid (Kit.step1 B5.out m6 (by omega))
  rw [show ([5, 6] : List Int).getD 1 0 = 6 from rfl] at c1
  clear own m6 K6 S6 hc hb PO
  go_wp2_with fail
  go_ret
  exact ⟨rfl, Kit.allocB B6.out _⟩
end Go.Proofs.Ytedkackmccnkfaa.Aw
