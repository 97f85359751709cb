/- The document's space: Lay whole, and Free. No condition. -/
import Derived.Test.YtladhenjoipfpaaRz
set_option linter.unusedVariables false
set_option linter.unusedSimpArgs false
namespace Go.Proofs.Ytladhenjoipfpaa.Ra
open Go.RowKit
open Pl Rn Ov Lf Wl Gp Ct Sn Gq Tf Mt Rr Kp Sc Nn Tk La Rp Rq Mb S2 Fr Xr Rf Ry Rz
section
variable {w w' : World} {x y words B : Nat} {K K' : Nat → Prop} {v : Nat → Value} {l : Nat → List Int} {bl nx en : Nat}
set_option maxHeartbeats 1000000 in
set_option maxRecDepth 100000 in
theorem rlay_bad (x : Nat) (n : Int) (h : n < 1 ∨ 4096 < n) : Calls Try.prog 35 #[.pointer (some ⟨x, 0, none⟩), .int .i64 n] w fun e w' => e = .returned (.tuple #[.int .i64 0, .int .i64 7]) ∧ w' = w := by
  by_cases h0 : n < 1
  · have d1 : decide (n < 1) = true := decide_eq_true h0
    clear h
    go_enter Try.func35, Try.ntmps35
    go_wp2_with fail
    go_ret2
    exact ⟨rfl, rfl⟩
  · have d1 : decide (n < 1) = false := decide_eq_false h0
    have d2 : decide (4096 < n) = true := decide_eq_true (by omega)
    clear h
    go_enter Try.func35, Try.ntmps35
    go_wp2_with fail
    go_ret2
    exact ⟨rfl, rfl⟩
/-- What a call of the document's space leaves. -/
structure Rx (w w' : World) (x y ry cy words : Nat) (K : Nat → Prop) (fs : List Int) (σ : Sq) : Prop where
  ex : ∃ K', Xs w' x y words K' σ ∧ (∀ k, K k → K' k) ∧ ∀ k, K' k → K k ∨ w.heap.size ≤ k
  rp : RP w' y ry cy fs
  mod : ModP (fun k => K k ∨ k = ry) w w'
theorem rlay_it {fs ms : List Int} {ry cy : Nat} {σ : Sq} (X : Xs w x y words K σ) (P : RP w y ry cy fs) (WF : Wf fs ms) (hml : ms.length = fs.length) (kd : ¬ K y ∧ ¬ K ry) (hw : words ≤ 1000000) (O : Ok σ) (n : Int) (hq : ∀ k, K k → K k) (hx : ∀ k, K k → True) :
    Calls Try.prog 35 #[.pointer (some ⟨x, 0, none⟩), .int .i64 n] w fun e w' => e = .returned (.tuple #[.int .i64 ((layA fs words σ n).1 : Nat), .int .i64 ((layA fs words σ n).2.1 : Nat)]) ∧ Rx w w' x y ry cy words K (layA fs words σ n).2.2.1 (layA fs words σ n).2.2.2 := by
  by_cases hb : n < 1 ∨ 4096 < n
  · have e : layA fs words σ n = (0, 7, fs, σ) := by unfold layA; rw [if_pos hb]
    rw [e]
    refine (rlay_bad x n hb).mono ?_
    rintro e w' ⟨rfl, rfl⟩
    exact ⟨rfl, ⟨K, X, fun _ h => h, fun _ h => .inl h⟩, P, ModP.refl _ _⟩
  · obtain ⟨k, rfl⟩ : ∃ k : Nat, n = k := ⟨n.toNat, by omega⟩
    obtain ⟨B, v, l, R, e0, e1, e2⟩ := X.ex
    have a1 := O.lays
    have a2 := O.groups
    have a3 := O.blocks
    have a5 := O.next
    have a6 := O.left
    have q0 : (l 0).length ≤ 1000 := by rw [e0]; simp [gI]; exact a2
    have q1 : (l 1).length ≤ 1000 := by rw [e1]; simp [fI]; exact a1
    have q2 : (l 2).length ≤ 1000 := by rw [e2]; simp [sI]; exact a1
    by_cases c : k ≤ σ.left
    · have e : layA fs words σ k = (σ.next, 0, fs, fin { σ with next := σ.next + k, left := σ.left - k } σ.next k) := by
        unfold layA; rw [if_neg hb, Int.toNat_natCast]; unfold layF; rw [if_neg (by omega), if_neg (by omega)]
      rw [e]
      refine (rlay_fits R k (by omega) (by omega) (by omega) (by omega) q1 q2).mono ?_
      rintro e' w' ⟨rfl, K1, v2, l2, R2, ⟨g0, g1, g2⟩, k1, k2, M⟩
      refine ⟨rfl, ⟨K1, ⟨B, v2, l2, ?_, ?_, ?_, ?_⟩, k1, k2⟩, rp_keepP P M kd.1 kd.2, M.weaken (fun k _ h => .inl h)⟩
      · have : σ.next + k + (σ.left - k) = σ.next + σ.left := by omega
        simp only [fin, this]
        exact R2
      · rw [g0, e0]; rfl
      · rw [g1, e1]; simp [fin, fI]
      · rw [g2, e2]; simp [fin, sI]
    · refine (rlay_more R P WF hml kd k (by omega) (by omega) (by omega) (by omega) (by omega) hw (by omega) q0 q1 q2).mono ?_
      intro e' w' hL
      have eN : 64 < k → layF fs words σ k = (takeF fs words σ ((k + 63) / 64)).map fun x => (64 * x.1, x.2.1, fin x.2.2 (64 * x.1) k) := fun h => by unfold layF; rw [if_pos h]
      have eM : ¬ 64 < k → layF fs words σ k = (takeF fs words σ 1).map fun x => (64 * x.1, x.2.1, fin { x.2.2 with next := 64 * x.1 + k, left := 64 - k } (64 * x.1) k) := fun h => by unfold layF; rw [if_neg h, if_pos (by omega)]
      have e64 : ¬ 64 < k → (k + 63) / 64 = 1 := fun h => by omega
      cases hL with
      | no hno R' P' M =>
        have ht : takeF fs words σ ((k + 63) / 64) = none := by
          unfold takeF
          rcases hf : findR fs ((k + 63) / 64) with _ | p
          · rfl
          · simp only
            rw [if_neg (hno p hf)]
        have e : layA fs words σ k = (0, 5, fs, σ) := by
          unfold layA
          rw [if_neg hb, Int.toNat_natCast]
          by_cases h : 64 < k
          · rw [eN h, ht]; rfl
          · rw [eM h, ← e64 h, ht]; rfl
        rw [e]
        obtain ⟨v', R'⟩ := R'
        exact ⟨rfl, ⟨K, ⟨B, v', l, R', e0, e1, e2⟩, fun _ h => h, fun _ h => .inl h⟩, P', M.weaken (fun k _ h => .inr h)⟩
      | @yes _ p nx' en' q hq' hf hp R' hn he P' M =>
        obtain ⟨K1, v2, l2, R2, ⟨g0, g1, g2⟩, k1, k2⟩ := R'
        have ht : takeF fs words σ ((k + 63) / 64) = some (p, fill fs p ((k + 63) / 64) p, { σ with groups := σ.groups ++ [p], blocks := σ.blocks + (k + 63) / 64 }) := by
          unfold takeF
          rw [hf]
          simp only
          rw [if_pos hp]
        subst hq'
        by_cases h : 64 < k
        · have e : layA fs words σ k = (64 * p, 0, fill fs p ((k + 63) / 64) p, fin { σ with groups := σ.groups ++ [p], blocks := σ.blocks + (k + 63) / 64 } (64 * p) k) := by
            unfold layA; rw [if_neg hb, Int.toNat_natCast, eN h, ht]; rfl
          rw [e]
          rw [if_neg (by omega)] at hn he
          subst hn he
          exact ⟨rfl, ⟨K1, ⟨B, v2, l2, R2, by rw [g0, e0]; simp [fin, gI], by rw [g1, e1]; simp [fin, fI], by rw [g2, e2]; simp [fin, sI]⟩, k1, k2⟩, P', M⟩
        · have e : layA fs words σ k = (64 * p, 0, fill fs p ((k + 63) / 64) p, fin { σ with groups := σ.groups ++ [p], blocks := σ.blocks + (k + 63) / 64, next := 64 * p + k, left := 64 - k } (64 * p) k) := by
            unfold layA; rw [if_neg hb, Int.toNat_natCast, eM h, ← e64 h, ht]; rfl
          rw [e]
          rw [if_pos (by omega)] at hn he
          subst hn he
          have e9 : 64 * p + k + (64 - k) = 64 * p + 64 := by omega
          refine ⟨rfl, ⟨K1, ⟨B, v2, l2, ?_, by rw [g0, e0]; simp [fin, gI], by rw [g1, e1]; simp [fin, fI], by rw [g2, e2]; simp [fin, sI]⟩, k1, k2⟩, P', M⟩
          simp only [fin, e9]
          exact R2
theorem wf_freeG {fs ms : List Int} (WF : Wf fs ms) (hl : ms.length = fs.length) (q : Nat) : ∃ ms', Wf (freeG fs q) ms' ∧ ms'.length = (freeG fs q).length := by
  by_cases c : q < fs.length ∧ fs.getD q 0 = q
  · obtain ⟨m, e1, e2, e3, e4⟩ := first_group WF q c.1 c.2
    have hw := wf_free WF hl q m c.2 e1 e2 e3 e4
    rw [fill_freeG WF q m c.1 c.2 e2 e3 e4 e1] at hw
    exact ⟨_, hw, by rw [List.length_set, hl, freeG_length]⟩
  · have e : freeG fs q = fs := if_neg c
    rw [e]
    exact ⟨ms, WF, hl⟩
theorem wf_freeAll (gs : List Nat) : ∀ {fs ms : List Int}, Wf fs ms → ms.length = fs.length → ∃ ms', Wf (freeAll fs gs) ms' ∧ ms'.length = (freeAll fs gs).length := by
  induction gs with
  | nil => intro fs ms WF hl; exact ⟨ms, WF, hl⟩
  | cons q gs ih =>
    intro fs ms WF hl
    obtain ⟨ms', h1, h2⟩ := wf_freeG WF hl q
    exact ih h1 h2
/-- On the way of the giving back. -/
structure Fw (w wr : World) (x y words ry cy B : Nat) (K : Nat → Prop) (v : Nat → Value) (l : Nat → List Int) (bl nx en : Nat) (fs : List Int) (gs : List Nat) (k : Nat) : Prop where
  r3 : R3 wr x y words B K v l bl nx en
  rp : RP wr y ry cy (freeAll fs (gs.take k))
  mod : ModP (fun k => k = ry) w wr
theorem Fw.draw {wr : World} {ry cy : Nat} {fs : List Int} {gs : List Nat} {k : Nat} (h : Fw w wr x y words ry cy B K v l bl nx en fs gs k) (b : Below wr.heap.size wr w') : Fw w w' x y words ry cy B K v l bl nx en fs gs k :=
  ⟨h.r3.keepB b, h.rp.keepB b, h.mod.trans (ModP.of_below (K := fun k => k = ry) b) (fun _ _ c => c)⟩
theorem Fw.step {wr : World} {ry cy : Nat} {fs ms : List Int} {gs : List Nat} {k : Nat} (h : Fw w wr x y words ry cy B K v l bl nx en fs gs k) (WF : Wf fs ms) (hl : ms.length = fs.length) (kd : ¬ K ry) (hk : k < gs.length) :
    Calls Try.prog 47 #[.pointer (some ⟨y, 0, none⟩), .int .i64 (gs.getD k 0 : Nat)] wr fun e w' => ∃ c : Int, e = .returned (.int .i64 c) ∧ Fw w w' x y words ry cy B K v l bl nx en fs gs (k + 1) := by
  obtain ⟨ms', W', L'⟩ := wf_freeAll (gs.take k) WF hl
  refine (rfree_all W' h.rp (gs.getD k 0)).mono ?_
  rintro e w' ⟨c, rfl, R, m⟩
  rw [freeAll_take fs gs k hk] at R
  have M : ModP (fun k => k = ry) wr w' := ModP.of_mod m (fun k hk => by simpa using hk)
  exact ⟨c, rfl, h.r3.keepP M (fun k hk c => by subst c; exact kd hk), R, h.mod.trans M (fun _ _ c => c)⟩
theorem Fw.done {wr : World} {ry cy : Nat} {fs : List Int} {gs : List Nat} (h : Fw w wr x y words ry cy B K v l bl nx en fs gs gs.length) (kd : ¬ K y ∧ ¬ K ry) :
    Rx w ((((((wr.setCell ⟨x, 2, none⟩ (.slice none 0 0)).setCell ⟨x, 4, none⟩ (.slice none 0 0)).setCell ⟨x, 5, none⟩ (.slice none 0 0)).setCell ⟨x, 3, none⟩ (.int .i64 0)).setCell ⟨x, 6, none⟩ (.int .i64 0)).setCell ⟨x, 7, none⟩ (.int .i64 0)) x y ry cy words K (freeAll fs gs) Sq.new := by
  obtain ⟨R1, M1⟩ := h.r3.nil 0 (by omega)
  obtain ⟨R2, M2⟩ := R1.nil 1 (by omega)
  obtain ⟨R3, M3⟩ := R2.nil 2 (by omega)
  obtain ⟨R4, M4⟩ := R3.put 3 (.int .i64 0) 0 nx en (by simp [refCells])
  obtain ⟨R5, M5⟩ := R4.put 6 (.int .i64 0) 0 0 en (by simp [refCells])
  obtain ⟨R6, M6⟩ := R5.put 7 (.int .i64 0) 0 0 0 (by simp [refCells])
  have M := M1.trans (M2.trans (M3.trans (M4.trans (M5.trans M6 (fun _ _ c => c)) (fun _ _ c => c)) (fun _ _ c => c)) (fun _ _ c => c)) (fun _ _ c => c)
  have rp := h.rp
  rw [List.take_length] at rp
  exact ⟨⟨K, ⟨_, _, _, R6, by simp [upd, Sq.new, gI], by simp [upd, Sq.new, fI], by simp [upd, Sq.new, sI]⟩, fun _ c => c, fun _ c => .inl c⟩, rp_keepP rp M kd.1 kd.2, (h.mod.weaken (fun k _ c => .inr c)).trans M (fun _ _ c => .inl c)⟩
set_option maxHeartbeats 4000000 in
set_option maxRecDepth 100000 in
theorem rsfree_it {fs ms : List Int} {ry cy : Nat} {σ : Sq} (X : Xs w x y words K σ) (P : RP w y ry cy fs) (WF : Wf fs ms) (hml : ms.length = fs.length) (kd : ¬ K y ∧ ¬ K ry) (O : Ok σ) :
    Calls Try.prog 36 #[.pointer (some ⟨x, 0, none⟩)] w fun e w' => e = .returned (.tuple #[]) ∧ Rx w w' x y ry cy words K (freeAll fs σ.groups) Sq.new := by
  obtain ⟨B, v, l, R, e0, e1, e2⟩ := X.ex
  have hlen : (l 0).length = σ.groups.length := by rw [e0]; simp [gI]
  obtain ⟨A, cap, hv⟩ := Rz.shape R 0 (by omega)
  rw [hlen] at hv
  have EL := Lib.hid (show ∀ wr, R3 wr x y words B K v l σ.blocks σ.next (σ.next + σ.left) → ∀ k, k < σ.groups.length → ∃ g, A = some ⟨g, 0, none⟩ ∧ σ.groups.length ≤ cap ∧ cap ≤ maxLen ∧ wr.cell? ⟨g, k, none⟩ = some (.int .i64 ((σ.groups.getD k 0 : Nat) : Int)) from fun wr R k hk => by
    obtain ⟨g, cap', e, q1, q2, q3⟩ := Rz.elem R 0 (by omega) k (by omega)
    rw [hv, hlen] at e
    cases e
    rw [e0] at q3
    refine ⟨g, rfl, by omega, q2, q3.trans ?_⟩
    simp [gI, List.getD_eq_getElem?_getD, hk])
  have CE := Lib.hid (show ∀ wr, R3 wr x y words B K v l σ.blocks σ.next (σ.next + σ.left) → wr.cell? ⟨x, 0, none⟩ = some (.pointer (some ⟨y, 0, none⟩)) ∧ wr.cell? ⟨x, 2, none⟩ = some (.slice A σ.groups.length cap) from fun wr R => ⟨R.cells.1.1, by rw [← hv]; exact R.cells.1.2.2.1⟩)
  have HF := Lib.hid (show Fw w w x y words ry cy B K v l σ.blocks σ.next (σ.next + σ.left) fs σ.groups 0 from ⟨R, P, ModP.refl _ _⟩)
  have ST := Lib.hid (fun (wr : World) (k : Nat) (hk : k < σ.groups.length) (h : Fw w wr x y words ry cy B K v l σ.blocks σ.next (σ.next + σ.left) fs σ.groups k) => h.step WF hml kd.2 hk)
  have DN := Lib.hid (fun (wr : World) (h : Fw w wr x y words ry cy B K v l σ.blocks σ.next (σ.next + σ.left) fs σ.groups σ.groups.length) => h.done kd)
  obtain ⟨N, hN⟩ : ∃ N, N = σ.groups.length := ⟨_, rfl⟩
  have hg := O.groups
  rw [← hN] at EL CE ST DN hg
  clear X P WF hml kd O R e0 e1 e2 hlen hv hN
  go_enter Try.func36, Try.ntmps36
  go_wp2_with fail
  go_loopg [2] N (fun n i wr => ∃ k : Nat, (k ≤ N ∧ n = N - k) ∧ i = .int .i64 k ∧ Hid (Fw w wr x y words ry cy B K v l σ.blocks σ.next (σ.next + σ.left) fs σ.groups k))
  case atStart => exact ⟨0, ⟨Nat.zero_le _, rfl⟩, rfl, HF⟩
  case round =>
    obtain ⟨k, ⟨hk, rfl⟩, rfl, H⟩ := hrel
    by_cases hlt : k < N
    · have HD := Lib.hid (H.out.draw (Below.refl wr.heap.size wr).drew)
      obtain ⟨c0, c2⟩ := CE.out wr.drew HD.out.r3
      obtain ⟨d0, d2⟩ := CE.out wr H.out.r3
      obtain ⟨g, rfl, q1, q2, q3⟩ := EL.out wr.drew HD.out.r3 k hlt
      have SI := Lib.hid (ST.out wr.drew k hlt HD.out)
      generalize hq : σ.groups.getD k 0 = q at *
      have HQ := Lib.hid hq
      clear H hq
      go_wp2_with fail
      go_region_held3 (fun w' => w'.cell? ⟨x, 0, none⟩ = some (.pointer (some ⟨y, 0, none⟩)) ∧ w'.cell? ⟨x, 2, none⟩ = some (.slice (some ⟨g, 0, none⟩) N cap) ∧ w'.cell? ⟨g, k, none⟩ = some (.int .i64 (q : Int)))
        (first | exact ⟨by assumption, by assumption, by assumption⟩ | go_keep)
        (first | (go_at_call 47; refine SI.out.mono ?_; rintro e w3 ⟨c, rfl, R⟩; obtain ⟨c30, c32⟩ := CE.out w3 R.r3; obtain ⟨g', eg, _, _, q33⟩ := EL.out w3 R.r3 k hlt; cases eg; rw [HQ.out] at q33; have HR3 := Lib.hid R; clear R SI))
      go_wp2_with fail
      go_roundg (N - (k + 1))
      case measure => omega
      case rel => exact ⟨k + 1, ⟨by omega, rfl⟩, by simp, HR3⟩
    · obtain rfl : k = N := by omega
      obtain ⟨d0, d2⟩ := CE.out wr H.out.r3
      have HX := Lib.hid (DN.out wr H.out)
      have ob := Kit.frozen_of H.out.r3.obj
      obtain ⟨⟨-, -, -, c3⟩, c4, c5, c6, c7⟩ := H.out.r3.cells
      have f2 := ob 2
      have f3 := ob 3
      have f4 := ob 4
      have f5 := ob 5
      have f6 := ob 6
      have f7 := ob 7
      clear H ob
      go_wp2_with fail
      go_end0
      exact ⟨rfl, HX.out⟩
end
end Go.Proofs.Ytladhenjoipfpaa.Ra
