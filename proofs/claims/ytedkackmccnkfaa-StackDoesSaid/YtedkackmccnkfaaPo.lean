/- Pop by contracts. No condition. -/
import Derived.Test.YtedkackmccnkfaaFa
set_option linter.unusedVariables false
set_option linter.unusedSimpArgs false
namespace Go.Proofs.Ytedkackmccnkfaa.Po
open Go.RowKit
open Fr Fs Ft Ar Sk Pu Pv Fa
theorem own_mono {w : World} {e : TypeId} {b b' : Nat} {v : Value} {n : Nat} {ys : List Value} (h : w.ownsRow b e 1 v n ys) (hb : b' ≤ b) : w.ownsRow b' e 1 v n ys := by
  refine ⟨h.1, ?_⟩
  rcases h.2 with h2 | ⟨g, cap, cur, rfl, h3, h4⟩
  · exact .inl h2
  · exact .inr ⟨g, cap, cur, rfl, Nat.le_trans hb h3, h4⟩
section
variable {w w' : World} {g ga r fr wd : Nat} {xs : List Int} {L : List Fm}
theorem Stk.popped {f : Fm} (K : Stk w g ga r fr wd xs (L ++ [f])) (O : Own 71 w' ga r xs)
    (hobj : w'.heap[g]? = some (.cells #[.pointer (some ⟨ga, 0, none⟩), .int .i64 fr, .int .i64 wd, .int .i64 (lay L).length, .int .i64 L.length] 73 (0, 0))) : Stk w' g ga r fr wd xs L := by
  have hl : (lay (L ++ [f])).length = (lay L).length + (f.ps.length + 1) := by rw [lay_snoc]; simp [encF]
  have hf := K.fits
  refine ⟨hobj, O, K.ne, by omega, fun i hi => ?_, fun x hx => K.good x (by simp [hx])⟩
  rw [K.words i (by omega), lay_snoc]
  simp [List.getD_eq_getElem?_getD, List.getElem?_append_left hi]
set_option maxHeartbeats 1000000 in
set_option maxRecDepth 100000 in
theorem pop_empty (K : Stk w g ga r fr wd xs []) : Calls Try.prog 17 #[.pointer (some ⟨g, 0, none⟩)] w fun e w' => e = .returned (.tuple #[frameV 0 0 0 none 0 0, .int .i64 4]) ∧ Below w.heap.size w w' := by
  have c4 : w.cell? ⟨g, 4, none⟩ = some (.int .i64 0) := (Stk.cells K).2.2.2.2
  have hg := Kit.lt_of K.obj
  clear K
  unfold frameV
  go_enter Try.func17, Try.ntmps17
  go_wp2_with fail
  exact bodyPost_ret (v := .tuple #[.agg #[.int .i64 0, .int .i64 0, .int .i64 0, .slice none 0 0], .int .i64 4]) (by simp [results, Try.results17, go_sem]) rfl ⟨rfl, Kit.allocB (Below.refl _ _) _⟩
theorem pop_nil (w : World) : Calls Try.prog 17 #[.pointer none] w fun e w' => e = .returned (.tuple #[frameV 0 0 0 none 0 0, .int .i64 1]) ∧ Below w.heap.size w w' := by
  unfold frameV
  go_enter Try.func17, Try.ntmps17
  go_wp2_with fail
  exact bodyPost_ret (v := .tuple #[.agg #[.int .i64 0, .int .i64 0, .int .i64 0, .slice none 0 0], .int .i64 1]) (by simp [results, Try.results17, go_sem]) rfl ⟨rfl, Kit.allocB (Below.refl _ _) _⟩
set_option maxHeartbeats 2000000 in
set_option maxRecDepth 100000 in
theorem pop_it {f : Fm} (K : Stk w g ga r fr wd xs (L ++ [f])) (hw : wd ≤ 65536) :
    Calls Try.prog 17 #[.pointer (some ⟨g, 0, none⟩)] w fun e w' => ∃ p c, e = .returned (.tuple #[frameV f.k f.a f.b p f.ps.length c, .int .i64 0]) ∧ w'.ownsRow w.heap.size 3 1 (.slice p f.ps.length c) f.ps.length (ints f.ps) ∧ Kit.Mod [g] w w' ∧ Stk w' g ga r fr wd xs L := by
  have hl : (lay (L ++ [f])).length = (lay L).length + (f.ps.length + 1) := by rw [lay_snoc]; simp [encF]
  have hLL : (L ++ [f]).length = L.length + 1 := by simp
  have hfit := K.fits
  have hn : f.ps.length ≤ 1000 := (Sk.Good.bounds (K.good f (by simp))).2.2.2.1
  have hL := lay_ge L
  have KA := Stk.keepB K (Kit.allocB (Below.refl w.heap.size w) (Obj.cells #[Value.int IntKind.i64 0, Value.int IntKind.i64 0, Value.int IntKind.i64 0, Value.slice none 0 0] 24))
  have BA := Lib.hid (Kit.new_blk w (Obj.cells #[Value.int IntKind.i64 0, Value.int IntKind.i64 0, Value.int IntKind.i64 0, Value.slice none 0 0] 24))
  have HA := Lib.hid (Kit.allocB (Below.refl w.heap.size w) (Obj.cells #[Value.int IntKind.i64 0, Value.int IntKind.i64 0, Value.int IntKind.i64 0, Value.slice none 0 0] 24))
  have cs := Stk.cells KA
  rw [hl, hLL] at cs
  have FI := Lib.hid (frame_it (L1 := L) (L2 := []) (f := f) KA hw ((lay L).length + (f.ps.length + 1) : Nat) (by omega))
  have HKA := Lib.hid KA
  have hgl := Kit.lt_of K.obj
  have HK := Lib.hid K
  clear KA K
  rw [hl] at hfit
  have HLL := Lib.hid hLL
  have HLY := Lib.hid hl
  clear hl hLL
  obtain ⟨k, a, b, ps⟩ := f
  unfold frameV at FI ⊢
  simp only at *
  go_enter Try.func17, Try.ntmps17
  go_wp2_with fail
  refine FI.out.mono ?_; rintro e w1 ⟨p, c, rfl, own, b1⟩
  have B1 := Lib.hid (Kit.stepB HA.out b1)
  have K1 := Stk.keepB HKA.out b1
  have HO := Lib.hid own
  have N1 := Lib.hid (Kit.keepB BA.out b1)
  have hsz1 := b1.size
  clear own b1 FI cs
  have KB := Stk.keepB K1 (Kit.allocB (Below.refl w1.heap.size w1) (Obj.cells #[Value.int IntKind.i64 k, Value.int IntKind.i64 a, Value.int IntKind.i64 b, Value.slice p ps.length c] 24))
  have cs := Stk.cells KB
  rw [HLY.out, HLL.out] at cs
  have fg := Kit.frozen_of KB.obj 3
  have HKB := Lib.hid KB
  have hgl2 := Kit.lt_of KB.obj
  have N2 := Kit.keep_alloc N1.out (Obj.cells #[Value.int IntKind.i64 k, Value.int IntKind.i64 a, Value.int IntKind.i64 b, Value.slice p ps.length c] 24)
  have X2 := Kit.new_blk w1 (Obj.cells #[Value.int IntKind.i64 k, Value.int IntKind.i64 a, Value.int IntKind.i64 b, Value.slice p ps.length c] 24)
  have B2 := Kit.allocB B1.out (Obj.cells #[Value.int IntKind.i64 k, Value.int IntKind.i64 a, Value.int IntKind.i64 b, Value.slice p ps.length c] 24)
  have O2 := HO.out.alloc (Obj.cells #[Value.int IntKind.i64 k, Value.int IntKind.i64 a, Value.int IntKind.i64 b, Value.slice p ps.length c] 24)
  clear K1 KB
  simp only [World.size_alloc] at hsz1 hgl2 O2
  have hsm := HKB.out.own.small
  go_wp2_with fail
  generalize w1.alloc _ = w2 at *
  have cx := Kit.cells4 X2
  have HX2 := Lib.hid X2
  have HN2 := Lib.hid N2
  have HB2 := Lib.hid B2
  have HO2 := Lib.hid O2
  clear X2 N2 B2 O2
  go_still_tail 11, (by kernel_rfl)
  have f4 := Kit.frozen_of HKB.out.obj 4
  have fw0 := Kit.frozen_of HN2.out 0
  have fw1 := Kit.frozen_of HN2.out 1
  have fw2 := Kit.frozen_of HN2.out 2
  have fw3 := Kit.frozen_of HN2.out 3
  have cn := Kit.cells4 HN2.out
  have hne1 : g ≠ w.heap.size := by omega
  have hne2 : w1.heap.size ≠ g := by omega
  have hne3 : w1.heap.size ≠ w.heap.size := by omega
  go_wp2_with fail
  have m1 : Kit.Mod [g] w2 ((w2.setCell ⟨g, 3, none⟩ (.int .i64 (lay L).length)).setCell ⟨g, 4, none⟩ (.int .i64 L.length)) := ((Kit.Mod.refl _ _).setCell (.inl (by simp)) _).setCell (.inl (by simp)) _
  have E3 := Kit.set_blk (Kit.set_blk HKB.out.obj 3 (.int .i64 (lay L).length)) 4 (.int .i64 L.length)
  have O3 := own_set (own_set HO2.out ⟨g, 3, none⟩ (by simp; omega) (.int .i64 (lay L).length)) ⟨g, 4, none⟩ (by simp; omega) (.int .i64 L.length)
  have N3 := Kit.keep HN2.out m1 (by simp; omega)
  clear cn cx cs f4 fg fw0 fw1 fw2 fw3
  generalize (w2.setCell ⟨g, 3, none⟩ (.int .i64 (lay L).length)).setCell ⟨g, 4, none⟩ (.int .i64 L.length) = w3 at *
  have m2 : Kit.Mod [w.heap.size] w3 ((((w3.setCell ⟨w.heap.size, 0, none⟩ (.int .i64 k)).setCell ⟨w.heap.size, 1, none⟩ (.int .i64 a)).setCell ⟨w.heap.size, 2, none⟩ (.int .i64 b)).setCell ⟨w.heap.size, 3, none⟩ (.slice p ps.length c)).drew := (((((Kit.Mod.refl _ _).setCell (.inl (by simp)) _).setCell (.inl (by simp)) _).setCell (.inl (by simp)) _).setCell (.inl (by simp)) _).drew
  have O4 := own_set (own_set (own_set (own_set O3 ⟨w.heap.size, 0, none⟩ (by simp; omega) (.int .i64 k)) ⟨w.heap.size, 1, none⟩ (by simp; omega) (.int .i64 a)) ⟨w.heap.size, 2, none⟩ (by simp; omega) (.int .i64 b)) ⟨w.heap.size, 3, none⟩ (by simp; omega) (.slice p ps.length c)
  have O5 : ((((w3.setCell ⟨w.heap.size, 0, none⟩ (.int .i64 k)).setCell ⟨w.heap.size, 1, none⟩ (.int .i64 a)).setCell ⟨w.heap.size, 2, none⟩ (.int .i64 b)).setCell ⟨w.heap.size, 3, none⟩ (.slice p ps.length c)).drew.ownsRow w.heap.size 3 1 (.slice p ps.length c) ps.length (ints ps) := own_mono O4 (by omega)
  have E4 : ((((w3.setCell ⟨w.heap.size, 0, none⟩ (.int .i64 k)).setCell ⟨w.heap.size, 1, none⟩ (.int .i64 a)).setCell ⟨w.heap.size, 2, none⟩ (.int .i64 b)).setCell ⟨w.heap.size, 3, none⟩ (.slice p ps.length c)).drew.heap[w.heap.size]? = some (.cells #[.int .i64 k, .int .i64 a, .int .i64 b, .slice p ps.length c] 24 (0, 0)) :=
    (Kit.set_blk (Kit.set_blk (Kit.set_blk (Kit.set_blk N3 0 (.int .i64 k)) 1 (.int .i64 a)) 2 (.int .i64 b)) 3 (.slice p ps.length c)).trans rfl
  clear O4 O3
  generalize ((((w3.setCell _ _).setCell _ _).setCell _ _).setCell _ _).drew = wE at *
  have cE := Kit.cells4 E4
  have nk := HKB.out.ne
  have hlga := Kit.lt_of HK.out.own.obj
  have hlr := Kit.lt_of HK.out.own.row
  refine bodyPost_ret (v := .tuple #[.agg #[.int .i64 k, .int .i64 a, .int .i64 b, .slice p ps.length c], .int .i64 0]) (by simp [results, Try.results17, go_sem, cE]) rfl ⟨p, c, rfl, O5, ?_, ?_⟩
  · exact ((Kit.Mod.of_below HB2.out).trans m1 (fun x hx => .inl hx)).trans m2 (fun x hx => .inr (by simp at hx; omega))
  · refine Stk.popped (f := ⟨k, a, b, ps⟩) HKB.out ((HKB.out.own.keep m1 (by simp; exact fun e => nk.1 e.symm) (by simp; exact fun e => nk.2.1 e.symm)).keep m2 (by simp; omega) (by simp; omega)) ?_
    have := Kit.keep E3 m2 (by simp; omega)
    rw [this]
    rfl
end
end Go.Proofs.Ytedkackmccnkfaa.Po
