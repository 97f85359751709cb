/- A space gives all back: (*Space).Free. No condition. -/
import Derived.Test.YtladhenjoipfpaaFr
import Derived.RegionTactic
import Derived.BigRegion
set_option linter.unusedVariables false
set_option linter.unusedSimpArgs false
namespace Go.Proofs.Ytladhenjoipfpaa.Fs
open Go.RowKit
open Pl Rn Ov Lf Wl Gp Ct Sn Gq Tf Mt Rr Kp Sc Nn Tk La Rp Rq Mb S2 Fr
theorem gI_get {l : List Nat} {i : Nat} {u : Value} (h : (ints (gI l))[i]? = some u) (hi : i < l.length) : u = .int .i64 ((l.getD i 0 : Nat) : Int) := by
  simp [ints, gI, hi] at h
  rw [List.getD_eq_getElem?_getD]
  simp [hi, h]
structure Fl (w0 w : World) (s g a b ga ar m B : Nat) (K : Nat → Prop) (vg va vm : Value) (fs xs : List Int) (σ : Sq) (k : Nat) : Prop where
  sv : Sv w s g ga m B K vg va vm σ
  env : Env w g a b ga ar (freeAll fs (σ.groups.take k)) xs
  mod : ModP (fun k => k = a ∨ k = b) w0 w
theorem Fl.below {w0 w w' : World} {s g a b ga ar m B : Nat} {K : Nat → Prop} {vg va vm : Value} {fs xs : List Int} {σ : Sq} {k : Nat} (h : Fl w0 w s g a b ga ar m B K vg va vm fs xs σ k) (b' : Below w.heap.size w w') : Fl w0 w' s g a b ga ar m B K vg va vm fs xs σ k :=
  ⟨h.sv.keepB b', h.env.keepB b', h.mod.trans (ModP.of_below (K := fun k => k = a ∨ k = b) b') (fun _ _ c => c)⟩
theorem Fl.step {w0 w : World} {s g a b ga ar m B : Nat} {K : Nat → Prop} {vg va vm : Value} {fs xs : List Int} {σ : Sq} {k : Nat} (h : Fl w0 w s g a b ga ar m B K vg va vm fs xs σ k) (D : Dj K g a b ga ar) (hk : k < σ.groups.length) :
    Calls Try.prog 33 #[.pointer (some ⟨g, 0, none⟩), .int .i64 (σ.groups.getD k 0 : Nat)] w fun e w' => ∃ c : Int, e = .returned (.int .i64 c) ∧ Fl w0 w' s g a b ga ar m B K vg va vm fs xs σ (k + 1) := by
  obtain ⟨ms, P, WF⟩ := h.env.pool
  refine (free_all WF P (σ.groups.getD k 0)).mono ?_
  rintro e w' ⟨c, rfl, ⟨ms', P', W'⟩, m'⟩
  rw [freeAll_take fs σ.groups k hk] at P' W'
  have M : ModP (fun k => k = a ∨ k = b) w w' := ModP.of_mod m' (fun k hk => by simpa using hk)
  have ne := h.env.ne
  refine ⟨c, rfl, h.sv.keepP M (fun k hk c => by rcases c with rfl | rfl; exact D.2.1 hk; exact D.2.2.1 hk), ⟨⟨ms', P', W'⟩, h.env.arena.keep m' (by simp; omega) (by simp; omega), ne⟩, h.mod.trans M (fun _ _ c => c)⟩
/-- A space's struct, written anew. -/
theorem reset_sv {w : World} {s g ga m B : Nat} {K : Nat → Prop} {vg va vm : Value} {σ : Sq} (h : Sv w s g ga m B K vg va vm σ) :
    let w' := (((((((((((w.setCell ⟨s, 0, none⟩ (.pointer (some ⟨g, 0, none⟩))).setCell ⟨s, 1, none⟩ (.pointer (some ⟨ga, 0, none⟩))).setCell ⟨s, 2, none⟩ (.slice none 0 0)).setCell ⟨s, 3, none⟩ (.int .i64 0)).setCell ⟨s, 4, none⟩ (.slice none 0 0)).setCell ⟨s, 5, none⟩ (.slice none 0 0)).setCell ⟨s, 6, none⟩ (.map (some w.heap.size))).setCell ⟨s, 7, none⟩ (.int .i64 0)).setCell ⟨s, 8, none⟩ (.int .i64 0)).setCell ⟨s, 9, none⟩ (.int .i64 0)).alloc (.map #[] 0)).drew
    Sv w' s g ga w.heap.size B (fun k => k = s ∨ k = w.heap.size) (.slice none 0 0) (.slice none 0 0) (.slice none 0 0) Sq.new ∧ ModP (fun k => k = s) w w' := by
  intro w'
  have h10 := Kit.set_blk (Kit.set_blk (Kit.set_blk (Kit.set_blk (Kit.set_blk (Kit.set_blk (Kit.set_blk (Kit.set_blk (Kit.set_blk (Kit.set_blk h.obj 0 (.pointer (some ⟨g, 0, none⟩))) 1 (.pointer (some ⟨ga, 0, none⟩))) 2 (.slice none 0 0)) 3 (.int .i64 0)) 4 (.slice none 0 0)) 5 (.slice none 0 0)) 6 (.map (some w.heap.size))) 7 (.int .i64 0)) 8 (.int .i64 0)) 9 (.int .i64 0)
  have hM : ModP (fun k => k = s) w (World.drewN ((((((((((((w.setCell ⟨s, 0, none⟩ (.pointer (some ⟨g, 0, none⟩))).setCell ⟨s, 1, none⟩ (.pointer (some ⟨ga, 0, none⟩))).setCell ⟨s, 2, none⟩ (.slice none 0 0)).setCell ⟨s, 3, none⟩ (.int .i64 0)).setCell ⟨s, 4, none⟩ (.slice none 0 0)).setCell ⟨s, 5, none⟩ (.slice none 0 0)).setCell ⟨s, 6, none⟩ (.map (some w.heap.size))).setCell ⟨s, 7, none⟩ (.int .i64 0)).setCell ⟨s, 8, none⟩ (.int .i64 0)).setCell ⟨s, 9, none⟩ (.int .i64 0))).alloc (.map #[] 0)) 1) := ((((((((((((ModP.refl (fun k => k = s) w).setCell (p := ⟨s, 0, none⟩) (.inl rfl) (.pointer (some ⟨g, 0, none⟩))).setCell (p := ⟨s, 1, none⟩) (.inl rfl) (.pointer (some ⟨ga, 0, none⟩))).setCell (p := ⟨s, 2, none⟩) (.inl rfl) (.slice none 0 0)).setCell (p := ⟨s, 3, none⟩) (.inl rfl) (.int .i64 0)).setCell (p := ⟨s, 4, none⟩) (.inl rfl) (.slice none 0 0)).setCell (p := ⟨s, 5, none⟩) (.inl rfl) (.slice none 0 0)).setCell (p := ⟨s, 6, none⟩) (.inl rfl) (.map (some w.heap.size))).setCell (p := ⟨s, 7, none⟩) (.inl rfl) (.int .i64 0)).setCell (p := ⟨s, 8, none⟩) (.inl rfl) (.int .i64 0)).setCell (p := ⟨s, 9, none⟩) (.inl rfl) (.int .i64 0)).alloc (.map #[] 0)).drewN 1
  obtain ⟨w10, hw⟩ : ∃ w10, w10 = ((((((((((w.setCell ⟨s, 0, none⟩ (.pointer (some ⟨g, 0, none⟩))).setCell ⟨s, 1, none⟩ (.pointer (some ⟨ga, 0, none⟩))).setCell ⟨s, 2, none⟩ (.slice none 0 0)).setCell ⟨s, 3, none⟩ (.int .i64 0)).setCell ⟨s, 4, none⟩ (.slice none 0 0)).setCell ⟨s, 5, none⟩ (.slice none 0 0)).setCell ⟨s, 6, none⟩ (.map (some w.heap.size))).setCell ⟨s, 7, none⟩ (.int .i64 0)).setCell ⟨s, 8, none⟩ (.int .i64 0)).setCell ⟨s, 9, none⟩ (.int .i64 0)) := ⟨_, rfl⟩
  have sz : w10.heap.size = w.heap.size := by rw [hw]; simp [World.setCell]
  have ew : w' = (w10.alloc (.map #[] 0)).drew := by rw [hw]
  rw [← hw] at h10
  have sl := h.low s h.ks.1
  have szw : w'.heap.size = w.heap.size + 1 := by rw [ew]; show (World.alloc _ _).heap.size = _; rw [World.size_alloc, sz]
  refine ⟨⟨?_, World.ownsRow_nil _ _ _ _, World.ownsRow_nil _ _ _ _, World.ownsRow_nil _ _ _ _, fun k e => (by cases e), fun k e => (by cases e), fun k e => (by cases e), .inl rfl, .inl rfl, .inl rfl, ?_, ⟨.inl rfl, .inr rfl⟩, ⟨h.sB.1, by have := h.sB.2; omega⟩, fun k hk => by omega⟩, hM⟩
  · rw [ew]
    refine (Kit.keep_alloc h10 (.map #[] 0)).trans ?_
    simp [cells10, Sq.new]
  · rw [ew, ← sz]
    exact (Marks.made w10).move rfl
set_option maxHeartbeats 4000000 in
set_option maxRecDepth 100000 in
theorem sfree_it (w : World) (s g a b ga ar m B : Nat) (K : Nat → Prop) (vg va vm : Value) (fs xs : List Int) (σ : Sq) (S : Sv w s g ga m B K vg va vm σ) (E : Env w g a b ga ar fs xs) (D : Dj K g a b ga ar) (hl : σ.groups.length ≤ 1000000) :
    Calls Try.prog 21 #[.pointer (some ⟨s, 0, none⟩)] w fun e w' => e = .returned (.int .i64 0) ∧ ∃ m', w.heap.size ≤ m' ∧ Sv w' s g ga m' B (fun k => k = s ∨ k = m') (.slice none 0 0) (.slice none 0 0) (.slice none 0 0) Sq.new ∧ Env w' g a b ga ar (freeAll fs σ.groups) xs ∧ ModP (fun k => k = s ∨ k = a ∨ k = b) w w' := by
  have hmm := @run_makeMap Try.prog
  have HF := Lib.hid (show Fl w w s g a b ga ar m B K vg va vm fs xs σ 0 from ⟨S, E, ModP.refl _ _⟩)
  have HD := Lib.hid D
  obtain ⟨A, cap, hvg⟩ : ∃ A cap, vg = .slice A σ.groups.length cap := by
    rcases S.og.2 with ⟨e, h0⟩ | ⟨q, cap, cur, rfl, _⟩
    · exact ⟨none, 0, by rw [e, h0]⟩
    · exact ⟨_, _, rfl⟩
  subst hvg
  obtain ⟨⟨c0, c1, c2, _, _⟩, _⟩ := S.cells
  obtain ⟨N, hN⟩ : ∃ N, N = σ.groups.length := ⟨_, rfl⟩
  rw [← hN] at c2 hl
  have HN := Lib.hid hN
  clear S E D c0 c1 hN
  go_enter Try.func21, Try.ntmps21
  go_wp2_with fail
  clear c2
  go_loopg [12] N (fun n i wr => ∃ k : Nat, (k ≤ N ∧ n = N - k) ∧ i = .int .i64 k ∧ Hid (Fl w wr s g a b ga ar m B K (.slice A σ.groups.length cap) va vm fs xs σ k))
  case atStart => exact ⟨0, ⟨Nat.zero_le _, rfl⟩, rfl, HF⟩
  case round =>
    obtain ⟨k, ⟨hk, rfl⟩, rfl, H⟩ := hrel
    by_cases hlt : k < N
    · obtain ⟨q, cap', u, e, _, _, hu, hc⟩ := K1.own_at H.out.sv.og k (by rw [← HN.out]; exact hlt)
      have e2 := gI_get hu (by rw [← HN.out]; exact hlt)
      subst e2
      simp only [Value.slice.injEq] at e
      obtain ⟨rfl, _, rfl⟩ := e
      have d1 : decide ((k : Int) < (N : Int)) = true := decide_eq_true (by omega)
      have FI := Lib.hid (H.out.step HD.out (by rw [← HN.out]; exact hlt))
      obtain ⟨⟨c0, _⟩, _⟩ := H.out.sv.cells
      generalize σ.groups.getD k 0 = qq at *
      clear hu H
      go_wp2_with fail
      refine FI.out.mono ?_
      rintro e w1 ⟨c, rfl, H1⟩
      have HH1 := Lib.hid H1
      clear H1 FI c0 hc
      go_wp2_with fail
      go_roundg (N - (k + 1))
      case measure => omega
      case rel => exact ⟨k + 1, ⟨by omega, rfl⟩, by simp, HH1⟩
    · obtain rfl : k = N := by omega
      have d1 : decide ((k : Int) < (k : Int)) = false := decide_eq_false (by omega)
      have SV := Lib.hid (H.out.sv.keepB (Below.refl wr.heap.size wr).drew)
      obtain ⟨⟨c0, c1, c2, c3, c4⟩, c5, c6, c7, c8, c9⟩ := H.out.sv.cells
      have f0 := H.out.sv.frozen 0
      have f1 := H.out.sv.frozen 1
      have f2 := H.out.sv.frozen 2
      have f3 := H.out.sv.frozen 3
      have f4 := H.out.sv.frozen 4
      have f5 := H.out.sv.frozen 5
      have f6 := H.out.sv.frozen 6
      have f7 := H.out.sv.frozen 7
      have f8 := H.out.sv.frozen 8
      have f9 := H.out.sv.frozen 9
      have slt := Kit.lt_of H.out.sv.obj
      have sne : s ≠ wr.heap.size := by omega
      go_wp2_with fail
      have HH := Lib.hid H.out
      clear HF H SV hl
      go_region
      go_wp2_with fail
      go_ret
      obtain ⟨S1, M1⟩ := reset_sv HH.out.sv
      have e : σ.groups.take σ.groups.length = σ.groups := List.take_length
      have E1 := HH.out.env
      rw [HN.out, e] at E1
      refine ⟨rfl, _, HH.out.mod.size, S1, E1.keepP M1 ?_, ?_⟩
      · have ks := HH.out.sv.ks.1
        have D := HD.out
        exact ⟨fun c => D.1 (c ▸ ks), fun c => D.2.1 (c ▸ ks), fun c => D.2.2.1 (c ▸ ks), fun c => D.2.2.2.1 (c ▸ ks), fun c => D.2.2.2.2 (c ▸ ks)⟩
      · exact (HH.out.mod.weaken (fun k _ c => .inr c)).trans M1 (fun k _ c => .inl c)
end Go.Proofs.Ytladhenjoipfpaa.Fs
