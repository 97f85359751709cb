/- Push lays a frame that is right and finds room. No condition. -/
import Derived.Test.YtedkackmccnkfaaPu
set_option linter.unusedVariables false
set_option linter.unusedSimpArgs false
namespace Go.Proofs.Ytedkackmccnkfaa.Pv
open Go.RowKit
open Fr Fs Ft Ar Sk Pu
section
variable {w w' : World} {g ga r fr wd : Nat} {xs : List Int} {L : List Fm}
theorem lay_ge (L : List Fm) : L.length ≤ (lay L).length := by
  unfold lay
  induction L with
  | nil => simp
  | cons f L ih => simp [encF] at ih ⊢; omega
theorem over_snoc (xs : List Int) (o : Nat) (ps : List Int) (c : Int) (h : o + (ps.length + 1) ≤ xs.length) : (Rw.over xs o ps).set (o + ps.length) c = Rw.over xs o (ps ++ [c]) := by
  have := over_take xs o (ps ++ [c]) ps.length (by simp; omega) (by simp)
  rw [List.take_left, show (ps ++ [c]).getD ps.length 0 = c by simp [List.getD_eq_getElem?_getD], List.take_of_length_le (by simp)] at this
  exact this
theorem Stk.pushed {f : Fm} (K : Stk w g ga r fr wd xs L) (O : Own 71 w' ga r (Rw.over xs (fr + (lay L).length) (encF f))) (hf : Sk.Good f) (room : (lay L).length + (f.ps.length + 1) ≤ wd)
    (hobj : w'.heap[g]? = some (.cells #[.pointer (some ⟨ga, 0, none⟩), .int .i64 fr, .int .i64 wd, .int .i64 ((lay L).length + (f.ps.length + 1) : Nat), .int .i64 (L.length + 1 : Nat)] 73 (0, 0))) :
    Stk w' g ga r fr wd (Rw.over xs (fr + (lay L).length) (encF f)) (L ++ [f]) := by
  have hfi := K.fits
  have hl : (lay (L ++ [f])).length = (lay L).length + (f.ps.length + 1) := by rw [lay_snoc]; simp [encF]
  have hlen : (Rw.over xs (fr + (lay L).length) (encF f)).length = xs.length := Rw.length_over _ _ _ (by simp [encF]; omega)
  refine ⟨by rw [hl, List.length_append]; exact hobj, O, K.ne, by rw [hl, hlen]; omega, fun i hi => ?_, fun x hx => ?_⟩
  · rw [hl] at hi
    rw [Rw.over_getD _ _ _ (by simp [encF]; omega), lay_snoc]
    have hel : (encF f).length = f.ps.length + 1 := by simp [encF]
    by_cases c : i < (lay L).length
    · rw [if_neg (by omega), K.words i c]
      simp [List.getD_eq_getElem?_getD, List.getElem?_append_left c]
    · rw [if_pos (by omega)]
      simp only [List.getD_eq_getElem?_getD]
      rw [List.getElem?_append_right (by omega)]
      congr 2
      omega
  · rcases List.mem_append.1 hx with h | h
    · exact K.good x h
    · simp at h; subst h; exact hf
set_option maxHeartbeats 2000000 in
set_option maxRecDepth 100000 in
theorem push_ok (K : Stk w g ga r fr wd xs L) (k a b : Int) (p : Option Addr) (c : Nat) (ps : List Int) (S : Sl w p ps) (hp : 0 < ps.length → ∀ b off, p = some ⟨b, off, none⟩ → b ≠ g ∧ b ≠ r) (hw : wd ≤ 65536) (h0 : rightE k a b ps = 0) (room : (lay L).length + (ps.length + 1) ≤ wd) :
    Calls Try.prog 16 #[.pointer (some ⟨g, 0, none⟩), frameV k a b p ps.length c] w fun e w' => e = .returned (.int .i64 0) ∧ Kit.Mod [g, r] w w' ∧ Stk w' g ga r fr wd (Rw.over xs (fr + (lay L).length) (encF ⟨k, a, b, ps⟩)) (L ++ [⟨k, a, b, ps⟩]) := by
  have G : Sk.Good ⟨k, a, b, ps⟩ := h0
  obtain ⟨gk, gA, gB, gn, gp⟩ := Sk.Good.bounds G
  simp only at gk gA gB gn gp
  have RI := right_it (w.alloc (.cells #[.int .i64 k, .int .i64 a, .int .i64 b, .slice p ps.length c] 24 (0, 0))) k a b p c ps (S.keepB (Kit.allocB (Below.refl _ _) _)) (by omega)
  rw [h0] at RI
  have RI := Lib.hid RI
  have BN := Lib.hid (Kit.new_blk w (.cells #[.int .i64 k, .int .i64 a, .int .i64 b, .slice p ps.length c] 24 (0, 0)))
  have BB := Lib.hid (Kit.allocB (Below.refl w.heap.size w) (.cells #[.int .i64 k, .int .i64 a, .int .i64 b, .slice p ps.length c] 24 (0, 0)))
  have HK := Lib.hid K
  have HS := Lib.hid S
  have HP := Lib.hid hp
  have HG := Lib.hid G
  have GP := Lib.hid gp
  have hu := K.fits
  have hsm := K.own.small
  have hlr := Kit.lt_of K.own.row
  have hlg := Kit.lt_of K.obj
  clear K S h0 hp G gp
  rename_i RI2
  clear RI2
  unfold frameV at RI ⊢
  go_enter Try.func16, Try.ntmps16
  go_wp2_with fail
  refine RI.out.mono ?_; rintro e w1 ⟨rfl, b1⟩
  have B1 := Lib.hid (Kit.stepB BB.out b1)
  have K1 := Lib.hid (Stk.keepB HK.out B1.out)
  have N1 := Lib.hid (Kit.keepB BN.out b1)
  have S1 := Lib.hid (HS.out.keepB B1.out)
  have c4 := Kit.cells4 N1.out
  have cs := Stk.cells K1.out
  clear b1 RI BN BB HS
  obtain ⟨ul, hul⟩ : ∃ ul, ul = (lay L).length := ⟨_, rfl⟩
  rw [← hul] at cs hu room
  have HU := Lib.hid hul
  clear hul
  go_wp2_with fail
  go_quiet (fail)
  go_wp2_with fail
  go_quiet (fail)
  go_wp2_with fail
  have O1 : Hid (Own 71 (w1.drewN 0) ga r (Rw.over xs (fr + ul) (ps.take 0))) := by
    rw [List.take_zero, Rw.over_nil]; exact ⟨K1.out.own.obj, K1.out.own.row, K1.out.own.small, K1.out.own.rng⟩
  go_loopg [44] ps.length (fun n i wr => ∃ j : Nat, (j ≤ ps.length ∧ n = ps.length - j) ∧ i = .int .i64 j ∧ Hid (Own 71 wr ga r (Rw.over xs (fr + ul) (ps.take j)) ∧ Kit.Mod [r] w1 wr))
  case atStart => exact ⟨0, ⟨Nat.zero_le _, rfl⟩, rfl, ⟨O1.out.obj, O1.out.row, O1.out.small, O1.out.rng⟩, (Kit.Mod.refl _ _).drewN _⟩
  case round =>
    obtain ⟨j, ⟨hj, rfl⟩, rfl, HO⟩ := hrel
    have B2 := Lib.hid (Kit.keep K1.out.obj HO.out.2 (by simp; exact HK.out.ne.2.1))
    rw [← HU.out] at B2
    have cs := objCells B2.out
    have hne : w.heap.size ≠ r := by omega
    have N2 := Lib.hid (Kit.keep N1.out HO.out.2 (by simp; exact hne))
    have olen : (Rw.over xs (fr + ul) (ps.take j)).length = xs.length := Rw.length_over _ _ _ (by simp; omega)
    have OL := Lib.hid olen
    clear olen c4
    by_cases hlt : j < ps.length
    · obtain ⟨bb, off, rfl, hb, hc⟩ := S1.out.cells (by omega)
      have cj := (World.cell?_of_block (w := w1) (a := ⟨bb, off + j, none⟩) (HO.out.2.block bb hb (by simp; exact (HP.out (by omega) bb off rfl).2))).trans (hc j hlt)
      have pj := GP.out (ps.getD j 0) (by rw [List.getD_eq_getElem?_getD, List.getElem?_eq_getElem hlt]; exact List.getElem_mem hlt)
      have WA := write_any wr ga r _ ((fr : Int) + ul + j) (ps.getD j 0) HO.out.1 (by omega) (by omega)
      unfold atE writeV at WA
      rw [OL.out, if_pos (by omega), if_pos (by omega), show ((fr : Int) + ul + j).toNat = fr + ul + j by omega, over_take xs (fr + ul) ps j (by omega) hlt] at WA
      have WA := Lib.hid WA
      clear hc
      generalize ps.getD j 0 = x at cj pj WA
      rename_i WA2
      clear WA2
      go_wp2_with fail
      refine WA.out.mono ?_; rintro e w3 ⟨rfl, O3, m3⟩
      have HO3 := Lib.hid O3
      have M3 := Lib.hid (HO.out.2.trans m3 (fun x hx => .inl hx))
      clear O3 m3
      go_wp2_with fail
      go_roundg (ps.length - (j + 1))
      case measure => omega
      case rel => exact ⟨j + 1, ⟨by omega, rfl⟩, by simp, HO3.out, M3.out⟩
    · obtain rfl : j = ps.length := by omega
      have c4 := Kit.cells4 N2.out
      have WD := Lib.hid (Bt.word_sum k ps.length b a (by omega) (by omega) (by omega) (by omega))
      have WA : ∀ w', Own 71 w' ga r (Rw.over xs (fr + ul) (ps.take ps.length)) → Calls Try.prog 15 #[.pointer (some ⟨ga, 0, none⟩), .int .i64 ((fr : Int) + ul + ps.length), .int .u64 (code ⟨k, a, b, ps⟩)] w' fun e w'' => e = .returned (.int .i64 0) ∧ Own 71 w'' ga r (Rw.over xs (fr + ul) (ps ++ [code ⟨k, a, b, ps⟩])) ∧ Kit.Mod [r] w' w'' := fun w' O => by
        have WA := write_any w' ga r _ ((fr : Int) + ul + ps.length) (code ⟨k, a, b, ps⟩) O (by unfold code; simp only; omega) (by unfold code; simp only; omega)
        unfold atE writeV at WA
        rw [OL.out, if_pos (by omega), if_pos (by omega), show ((fr : Int) + ul + ps.length).toNat = fr + ul + ps.length by omega, List.take_length, over_snoc xs (fr + ul) ps _ (by omega)] at WA
        exact WA
      have WA := Lib.hid WA
      rename_i WA2
      clear WA2
      have hL : L.length ≤ (lay L).length := lay_ge L
      rw [← HU.out] at hL
      go_wp2_with fail
      go_still_tail 24, (by kernel_rfl)
      go_wp2_with fail
      rw [WD.out]
      refine (WA.out wr.drew ⟨HO.out.1.obj, HO.out.1.row, HO.out.1.small, HO.out.1.rng⟩).mono ?_; rintro e w3 ⟨rfl, O3, m3⟩
      have B3 := Kit.keep (w := wr) B2.out ⟨m3.os, m3.tape, m3.output, m3.size, m3.block⟩ (by simp; exact HK.out.ne.2.1)
      have HB3 := Lib.hid B3
      have cs3 := objCells B3
      have f3 := Kit.frozen_of B3 3
      have f4 := Kit.frozen_of B3 4
      have HO3 := Lib.hid O3
      have M3 : Hid (Kit.Mod [r] w1 w3) := HO.out.2.trans ⟨m3.os, m3.tape, m3.output, m3.size, m3.block⟩ (fun x hx => .inl hx)
      clear O3 m3 c4 cs B3
      go_wp2_with fail
      go_ret
      have MM : Kit.Mod [g, r] w1 ((w3.setCell ⟨g, 3, none⟩ (.int .i64 ((ul : Int) + (ps.length + 1)))).setCell ⟨g, 4, none⟩ (.int .i64 ((L.length : Int) + 1))) := ((M3.out.mono (S' := [g, r]) (fun x hx => .inl (by simp at hx ⊢; omega))).setCell (.inl (by simp)) _).setCell (.inl (by simp)) _
      refine ⟨rfl, (Kit.Mod.of_below B1.out).trans MM (fun x hx => .inl hx), ?_⟩
      have hf := HK.out.ne
      have hobj := Kit.set_blk (Kit.set_blk HB3.out 3 (.int .i64 ((ul : Int) + (ps.length + 1)))) 4 (.int .i64 ((L.length : Int) + 1))
      have mg : Kit.Mod [g] w3 ((w3.setCell ⟨g, 3, none⟩ (.int .i64 ((ul : Int) + (ps.length + 1)))).setCell ⟨g, 4, none⟩ (.int .i64 ((L.length : Int) + 1))) := ((Kit.Mod.refl _ _).setCell (.inl (by simp)) _).setCell (.inl (by simp)) _
      rw [← HU.out]
      have OF := HO3.out.keep mg (by simp; exact fun e => hf.1 e.symm) (by simp; exact fun e => hf.2.1 e.symm)
      have room2 := room
      rw [HU.out] at OF room2 hobj ⊢
      refine Stk.pushed (f := ⟨k, a, b, ps⟩) K1.out OF HG.out room2 ?_
      rw [hobj]
      rfl
end
end Go.Proofs.Ytedkackmccnkfaa.Pv
