/- What was laid has words of its own, and all of them 0: the law BumpApart. No condition. -/
import Derived.Test.YtladhenjoipfpaaAp
import Derived.StillTailTactics
import Derived.Deep.RegionHeld3
set_option linter.unusedVariables false
set_option linter.unusedSimpArgs false
namespace Go.Proofs.Ytladhenjoipfpaa.LawApart
open Go.RowKit
open Pl Rn Ov Lf Wl Gp Ct Sn Gq Tf Mt Rr Kp Sc Nn Tk La Rp Rq Mb S2 Ak Ap
theorem layA_apart {n words : Nat} {fs : List Int} {σ0 σ1 : Sq} {M : Nat → Int} (h : Ia n fs σ0 σ1 M) (m : Int) :
    ((layA fs words σ0 m).2.1 ≠ 0 ∧ (layA fs words σ0 m).2.2.1 = fs ∧ (layA fs words σ0 m).2.2.2 = σ0) ∨
    ((layA fs words σ0 m).2.1 = 0 ∧ ∃ k : Nat, m = k ∧ 1 ≤ k ∧ k ≤ 4096 ∧ 64 ≤ (layA fs words σ0 m).1 ∧ (layA fs words σ0 m).1 + k ≤ 64 * n ∧ (∀ j, (layA fs words σ0 m).1 ≤ j → j < (layA fs words σ0 m).1 + k → M j = 0) ∧
      ∀ M' : Nat → Int, (∀ j, M' j = if (layA fs words σ0 m).1 ≤ j ∧ j < (layA fs words σ0 m).1 + k then 1 else M j) → Ia n (layA fs words σ0 m).2.2.1 (layA fs words σ0 m).2.2.2 σ1 M') := by
  by_cases hb : m < 1 ∨ 4096 < m
  · left
    unfold layA
    rw [if_pos hb]
    exact ⟨by simp, rfl, rfl⟩
  · obtain ⟨k, rfl⟩ : ∃ k : Nat, m = k := ⟨m.toNat, by omega⟩
    rcases hl : layF fs words σ0 k with _ | ⟨p, fs', σ'⟩
    · left
      have e : layA fs words σ0 k = (0, 5, fs, σ0) := by unfold layA; rw [if_neg hb, Int.toNat_natCast, hl]
      rw [e]
      exact ⟨by simp, rfl, rfl⟩
    · right
      have e : layA fs words σ0 k = (p, 0, fs', σ') := by unfold layA; rw [if_neg hb, Int.toNat_natCast, hl]
      rw [e]
      obtain ⟨a1, a2, a3, a4⟩ := lay_apart h (by omega) (by omega) hl
      exact ⟨rfl, k, rfl, by omega, by omega, a1, a2, a3, a4⟩
/-- Between two lays: what was met. -/
structure St (W w : World) (Z : Nat → Prop) (g a b ga ar s0 s1 n j : Nat) (M : Nat → Int) : Prop where
  ex : ∃ fs xs σ0 σ1, Sp2 W w Z g a b ga ar s0 s1 fs xs σ0 σ1 ∧ xs.length = 64 * n ∧ (Okn σ0 j ∧ Okn σ1 j) ∧ Ia n fs σ0 σ1 M
theorem St.ext {W w : World} {Z : Nat → Prop} {g a b ga ar s0 s1 n j : Nat} {M M' : Nat → Int} (h : St W w Z g a b ga ar s0 s1 n j M) (e : ∀ i, M' i = M i) : St W w Z g a b ga ar s0 s1 n j M' := by
  have : M' = M := funext e
  rw [this]; exact h
/-- Behind a lay: the words are there, and 0. -/
structure Af (W w : World) (Z : Nat → Prop) (g a b ga ar s0 s1 n j : Nat) (M : Nat → Int) (p k : Nat) : Prop where
  ex : ∃ fs xs σ0 σ1, Sp2 W w Z g a b ga ar s0 s1 fs xs σ0 σ1 ∧ xs.length = 64 * n ∧ (Okn σ0 j ∧ Okn σ1 j) ∧ (∀ i, p ≤ i → i < p + k → Ar.readV xs i = 0) ∧ ∀ M' : Nat → Int, (∀ i, M' i = if p ≤ i ∧ i < p + k then 1 else M i) → Ia n fs σ0 σ1 M'
theorem St.lay {W w : World} {Z : Nat → Prop} {g a b ga ar s0 s1 n j : Nat} {M : Nat → Int} (h : St W w Z g a b ga ar s0 s1 n j M) (hj : j ≤ 800) (t : Bool) (m : Int) :
    Calls Try.prog 10 #[.pointer (some ⟨if t then s1 else s0, 0, none⟩), .int .i64 m] w fun e w' => ∃ p c : Nat, e = .returned (.tuple #[.int .i64 p, .int .i64 c]) ∧ Keep Z w w' ∧
      ((c ≠ 0 ∧ St W w' Z g a b ga ar s0 s1 n (j + 1) M) ∨ (c = 0 ∧ ∃ k : Nat, m = k ∧ 1 ≤ k ∧ k ≤ 4096 ∧ 64 ≤ p ∧ p + k ≤ 64 * n ∧ (∀ i, p ≤ i → i < p + k → M i = 0) ∧ Af W w' Z g a b ga ar s0 s1 n (j + 1) M p k)) := by
  obtain ⟨fs, xs, σ0, σ1, Q, hx, ⟨O0, O1⟩, I⟩ := h.ex
  have hsm := Q.env.small.2
  rcases t with _ | _
  · refine (lay_it Q (O0.ok (by omega)) m).mono ?_
    rintro e w' ⟨rfl, Q', K'⟩
    refine ⟨_, _, rfl, K', ?_⟩
    rcases layA_apart (words := xs.length) I m with ⟨c, e1, e2⟩ | ⟨c, k, rfl, k1, k2, p1, p2, z, nx⟩
    · refine .inl ⟨c, ⟨_, _, _, _, Q', by rw [layX_length]; exact hx, ⟨O0.layA m hsm, O1.mono (by omega)⟩, ?_⟩⟩
      rw [e1, e2]; exact I
    · refine .inr ⟨c, k, rfl, k1, k2, p1, p2, z, ⟨_, _, _, _, Q', by rw [layX_length]; exact hx, ⟨O0.layA _ hsm, O1.mono (by omega)⟩, fun i a b => ?_, nx⟩⟩
      unfold layX
      rw [if_pos c]
      exact read_cleared (by omega) a b
  · refine (lay_it Q.swap (O1.ok (by omega)) m).mono ?_
    rintro e w' ⟨rfl, Q', K'⟩
    refine ⟨_, _, rfl, K', ?_⟩
    rcases layA_apart (words := xs.length) I.swap m with ⟨c, e1, e2⟩ | ⟨c, k, rfl, k1, k2, p1, p2, z, nx⟩
    · refine .inl ⟨c, ⟨_, _, _, _, Q'.swap, by rw [layX_length]; exact hx, ⟨O0.mono (by omega), O1.layA m hsm⟩, ?_⟩⟩
      rw [e1, e2]; exact I
    · refine .inr ⟨c, k, rfl, k1, k2, p1, p2, z, ⟨_, _, _, _, Q'.swap, by rw [layX_length]; exact hx, ⟨O0.mono (by omega), O1.layA _ hsm⟩, fun i a b => ?_, fun M' hM => (nx M' hM).swap⟩⟩
      unfold layX
      rw [if_pos c]
      exact read_cleared (by omega) a b
/-- On the way of the first loop. -/
structure Pre (W w : World) (Z : Nat → Prop) (g a b ga ar s0 s1 wd x0 x1 n N : Nat) : Prop where
  ex : ∃ xs, Sp2 W w Z g a b ga ar s0 s1 (fs0 n) xs Sq.new Sq.new ∧ xs.length = N
  obj : w.heap[wd]? = some (.cells #[.pointer (some ⟨g, 0, none⟩), .pointer (some ⟨ga, 0, none⟩), .pointer (some ⟨s0, 0, none⟩), .pointer (some ⟨s1, 0, none⟩), .pointer (some ⟨x0, 0, none⟩), .pointer (some ⟨x1, 0, none⟩)] 33 (0, 0))
/-- On the way of the second one. -/
structure Mid (W w : World) (Z : Nat → Prop) (g a b ga ar s0 s1 wd x0 x1 n N r j : Nat) : Prop where
  ex : ∃ M : List Int, w.heap[r]? = some (Rw.row .i64 3 M) ∧ M.length = N ∧ St W w Z g a b ga ar s0 s1 n j (fun i => M.getD i 0)
  obj : w.heap[wd]? = some (.cells #[.pointer (some ⟨g, 0, none⟩), .pointer (some ⟨ga, 0, none⟩), .pointer (some ⟨s0, 0, none⟩), .pointer (some ⟨s1, 0, none⟩), .pointer (some ⟨x0, 0, none⟩), .pointer (some ⟨x1, 0, none⟩)] 33 (0, 0))
/-- Behind a lay, where d of its words are met. -/
structure Inn (W w : World) (Z : Nat → Prop) (g a b ga ar s0 s1 wd x0 x1 n N r j p k d : Nat) : Prop where
  ex : ∃ M : List Int, w.heap[r]? = some (Rw.row .i64 3 (fill M p d 1)) ∧ M.length = N ∧ (∀ i, p ≤ i → i < p + k → M.getD i 0 = 0) ∧ Af W w Z g a b ga ar s0 s1 n j (fun i => M.getD i 0) p k
  obj : w.heap[wd]? = some (.cells #[.pointer (some ⟨g, 0, none⟩), .pointer (some ⟨ga, 0, none⟩), .pointer (some ⟨s0, 0, none⟩), .pointer (some ⟨s1, 0, none⟩), .pointer (some ⟨x0, 0, none⟩), .pointer (some ⟨x1, 0, none⟩)] 33 (0, 0))
section
variable {W w w' : World} {Z : Nat → Prop} {g a b ga ar s0 s1 wd x0 x1 n N r j p k d : Nat}
theorem Mid.below (h : Mid W w Z g a b ga ar s0 s1 wd x0 x1 n N r j) (m : Below w.heap.size w w') : Mid W w' Z g a b ga ar s0 s1 wd x0 x1 n N r j := by
  obtain ⟨M, h1, h2, fs, xs, σ0, σ1, Q, hx, O, I⟩ := h.ex
  exact ⟨⟨M, Kit.keepB h1 m, h2, fs, xs, σ0, σ1, Q.below m, hx, O, I⟩, Kit.keepB h.obj m⟩
theorem Inn.below (h : Inn W w Z g a b ga ar s0 s1 wd x0 x1 n N r j p k d) (m : Below w.heap.size w w') : Inn W w' Z g a b ga ar s0 s1 wd x0 x1 n N r j p k d := by
  obtain ⟨M, h1, h2, h3, fs, xs, σ0, σ1, Q, hx, O, I⟩ := h.ex
  exact ⟨⟨M, Kit.keepB h1 m, h2, h3, fs, xs, σ0, σ1, Q.below m, hx, O, I⟩, Kit.keepB h.obj m⟩
theorem Mid.bel (h : Mid W w Z g a b ga ar s0 s1 wd x0 x1 n N r j) : Below W.heap.size W w := by
  obtain ⟨M, h1, h2, fs, xs, σ0, σ1, Q, _⟩ := h.ex
  exact Q.bel
theorem Inn.bel (h : Inn W w Z g a b ga ar s0 s1 wd x0 x1 n N r j p k d) : Below W.heap.size W w := by
  obtain ⟨M, h1, h2, h3, fs, xs, σ0, σ1, Q, _⟩ := h.ex
  exact Q.bel
theorem Mid.lay (h : Mid W w Z g a b ga ar s0 s1 wd x0 x1 n N r j) (hr : Z r) (hwd : Z wd) (hj : j ≤ 800) (t : Bool) (m : Int) :
    Calls Try.prog 10 #[.pointer (some ⟨if t then s1 else s0, 0, none⟩), .int .i64 m] w fun e w' => ∃ p c : Nat, e = .returned (.tuple #[.int .i64 p, .int .i64 c]) ∧ (Below W.heap.size W w' ∧ w'.heap[wd]? = w.heap[wd]?) ∧
      ((c ≠ 0 ∧ Mid W w' Z g a b ga ar s0 s1 wd x0 x1 n N r (j + 1)) ∨ (c = 0 ∧ ∃ k : Nat, m = k ∧ 1 ≤ k ∧ k ≤ 4096 ∧ 64 ≤ p ∧ p + k ≤ 64 * n ∧ Inn W w' Z g a b ga ar s0 s1 wd x0 x1 n N r (j + 1) p k 0)) := by
  obtain ⟨M, h1, h2, S⟩ := h.ex
  refine (S.lay hj t m).mono ?_
  rintro e w' ⟨p, c, rfl, K, H⟩
  refine ⟨p, c, rfl, ⟨?_, K.2 wd hwd⟩, ?_⟩
  · rcases H with ⟨c0, S'⟩ | ⟨c0, k, rfl, k1, k2, p1, p2, z, A⟩
    · obtain ⟨_, _, _, _, Q, _⟩ := S'.ex; exact Q.bel
    · obtain ⟨_, _, _, _, Q, _⟩ := A.ex; exact Q.bel
  rcases H with ⟨c0, S'⟩ | ⟨c0, k, rfl, k1, k2, p1, p2, z, A⟩
  · exact .inl ⟨c0, ⟨M, (K.2 r hr).trans h1, h2, S'⟩, (K.2 wd hwd).trans h.obj⟩
  · exact .inr ⟨c0, k, rfl, k1, k2, p1, p2, ⟨M, by rw [fill_zero]; exact (K.2 r hr).trans h1, h2, z, A⟩, (K.2 wd hwd).trans h.obj⟩
theorem Inn.read (h : Inn W w Z g a b ga ar s0 s1 wd x0 x1 n N r j p k d) (i : Nat) (h1 : p ≤ i) (h2 : i < p + k) :
    Calls Try.prog 14 #[.pointer (some ⟨ga, 0, none⟩), .int .i64 i] w fun e w' => ∃ c : Int, e = .returned (.tuple #[.int .u64 0, .int .i64 c]) ∧ w = w' := by
  obtain ⟨M, e1, e2, e3, fs, xs, σ0, σ1, Q, hx, O, hz, I⟩ := h.ex
  refine (Ar.read_any w ga ar xs i Q.env.arena).mono ?_
  rintro e w' ⟨rfl, rfl⟩
  exact ⟨_, by rw [hz i h1 h2], rfl⟩
theorem Inn.cell (h : Inn W w Z g a b ga ar s0 s1 wd x0 x1 n N r j p k d) (hk : p + k ≤ N) (hd : d < k) : w.cell? ⟨r, p + d, none⟩ = some (.int .i64 0) ∧ w.frozen? ⟨r, p + d, none⟩ = false := by
  obtain ⟨M, e1, e2, e3, _⟩ := h.ex
  have := Rw.cell e1 (p + d) (by rw [fill_length _ _ _ _ (by omega)]; omega)
  rw [fill_get _ _ _ _ (by omega), if_neg (by omega), e3 _ (by omega) (by omega)] at this
  exact ⟨this, Rw.frozen e1 _⟩
theorem Inn.put (h : Inn W w Z g a b ga ar s0 s1 wd x0 x1 n N r j p k d) (hr : Z r) (hg : r ≠ g ∧ r ≠ ga ∧ r ≠ wd ∧ W.heap.size ≤ r) (hk : p + k ≤ N) (hd : d < k) :
    Inn W (w.setCell ⟨r, p + d, none⟩ (.int .i64 1)) Z g a b ga ar s0 s1 wd x0 x1 n N r j p k (d + 1) := by
  obtain ⟨M, e1, e2, e3, fs, xs, σ0, σ1, Q, hx, O, I⟩ := h.ex
  refine ⟨⟨M, ?_, e2, e3, fs, xs, σ0, σ1, Ap.Sp2.put Q hr ⟨hg.1, hg.2.1⟩ hg.2.2.2 ((ModP.refl (fun k => k = r) w).setCell (p := ⟨r, p + d, none⟩) (.inl rfl) _), hx, O, I⟩, Kit.set_far h.obj (fun e => hg.2.2.1 e.symm) _⟩
  rw [← fill_succ _ _ _ _ (by omega)]
  exact Rw.set e1 _ _
theorem Inn.done (h : Inn W w Z g a b ga ar s0 s1 wd x0 x1 n N r j p k k) (hk : p + k ≤ N) : Mid W w Z g a b ga ar s0 s1 wd x0 x1 n N r j := by
  obtain ⟨M, e1, e2, e3, fs, xs, σ0, σ1, Q, hx, O, _, I⟩ := h.ex
  exact ⟨⟨_, e1, by rw [fill_length _ _ _ _ (by omega)]; exact e2, fs, xs, σ0, σ1, Q, hx, O, I _ (fun i => fill_get _ _ _ _ (by omega) i)⟩, h.obj⟩
end
set_option maxHeartbeats 8000000 in
set_option maxRecDepth 100000 in
theorem law (W : World) (u : Nat) (hu : u ≤ 255) (A : Option Addr) (len cap : Nat) (L : Nat → Int × Int × Bool) (R : Ac.Acts W A len L) :
    Calls Try.prog 4 #[.int .u8 u, .slice A len cap] W fun e w => e = .returned (.bool true) ∧ Below W.heap.size W w := by
  obtain ⟨n, hn⟩ : ∃ n, n = u % 40 + 1 := ⟨_, rfl⟩
  obtain ⟨N, hN⟩ : ∃ N, N = 64 * n := ⟨_, rfl⟩
  have MI := Lib.hid (made_it W n N (by omega) (by omega) (by omega) (by omega))
  have AW := Lib.hid awake_it
  have HR := Lib.hid R
  have hmax := R.max
  have s0' : IntKind.i64.wrap (u : Int) = (u : Int) := IntWalk.i64_in _ (by omega)
  have s1' : IntKind.i64.wrap ((u : Int) % 40 + 1) = (n : Int) := by rw [IntWalk.i64_in _ (by omega)]; omega
  have s2' : IntKind.i64.wrap ((n : Int) * 64) = (N : Int) := by rw [IntWalk.i64_in _ (by omega)]; omega
  have n1 : 1 ≤ n := by omega
  have n2 : N ≤ 2560 := by omega
  have HNN := Lib.hid (And.intro hn hN)
  have hmk : ∀ w : World, (Instr.makeSlice 43 (.int .i64 (N : Int)) (.int .i64 (N : Int))).run Try.prog w = .ok (.slice (some ⟨w.heap.size, 0, none⟩) N N) (w.alloc (Rw.row .i64 3 (List.replicate N 0))) := fun w => by
    have := Rw.made Try.prog w 43 3 .i64 8 Try.underlying43 Pl.infoI (N : Int) (by omega) (by omega) (by omega)
    rwa [Int.toNat_natCast] at this
  clear R hn hN
  go_enter Try.func4, Try.ntmps4
  go_wp2_with fail
  refine MI.out.mono ?_
  rintro e w1 ⟨wd, g, a, b, ga, ar, s0, m0, sp1, m1, x0, x1, y, ry, cy, K0, K1, rfl, M⟩
  have HM := Lib.hid M
  clear M MI
  go_wp2_with fail
  refine (AW.out _).mono ?_
  rintro e w2 ⟨rfl, b2⟩
  have HP := Lib.hid (show Pre W w2 (fun k => k = wd ∨ k = x0 ∨ k = x1 ∨ k = y ∨ k = ry) g a b ga ar s0 sp1 wd x0 x1 n N from ⟨⟨_, (Sp2.made HM.out).below b2, by simp⟩, Kit.keepB HM.out.obj b2⟩)
  have HWN := Lib.hid (And.intro HM.out.wn (HM.out.low wd (by simp)))
  clear HM b2 AW
  go_wp2_with fail
  go_loopg [7] N (fun k c wr => ∃ j : Nat, (j ≤ N ∧ k = N - j) ∧ c = .int .i64 j ∧ Hid (Pre W wr (fun k => k = wd ∨ k = x0 ∨ k = x1 ∨ k = y ∨ k = ry) g a b ga ar s0 sp1 wd x0 x1 n N))
  case atStart => exact ⟨0, ⟨Nat.zero_le _, rfl⟩, rfl, HP⟩
  case round =>
    obtain ⟨j, ⟨hj, rfl⟩, rfl, H⟩ := hrel
    by_cases hlt : j < N
    · obtain ⟨xs, Q, hx⟩ := H.out.ex
      have c1 := (Kit.cell_of H.out.obj 1).trans rfl
      have WI := Lib.hid (Ar.write_any wr ga ar xs j 9 Q.env.arena (by omega) (by omega))
      have HQ := Lib.hid (And.intro Q (And.intro hx H.out.obj))
      clear Q hx H
      have d1 : decide ((j : Int) < (N : Int)) = true := decide_eq_true (by omega)
      go_wp2_with fail
      refine WI.out.mono ?_
      rintro e w3 ⟨rfl, A3, m3⟩
      have HP3 := Lib.hid (show Pre W w3 (fun k => k = wd ∨ k = x0 ∨ k = x1 ∨ k = y ∨ k = ry) g a b ga ar s0 sp1 wd x0 x1 n N from ⟨⟨_, Ap.Sp2.arena HQ.out.1 m3 A3, by rw [Ar.writeV_length]; exact HQ.out.2.1⟩, Kit.keep HQ.out.2.2 m3 (by have := HWN.out.1; simp; omega)⟩)
      clear A3 m3 WI c1
      go_wp2_with fail
      go_roundg (N - (j + 1))
      case measure => omega
      case rel => exact ⟨j + 1, ⟨by omega, rfl⟩, by simp, HP3⟩
    · obtain rfl : j = N := by omega
      have d1 : decide ((j : Int) < (j : Int)) = false := decide_eq_false (by omega)
      obtain ⟨xs, Q, hx⟩ := H.out.ex
      obtain ⟨r, hr⟩ : ∃ r, r = wr.heap.size := ⟨_, rfl⟩
      have hmk' := hmk wr
      rw [← hr] at hmk'
      have HMid := Lib.hid (show Mid W (wr.alloc (Rw.row .i64 3 (List.replicate j 0))) (fun k => (k = wd ∨ k = x0 ∨ k = x1 ∨ k = y ∨ k = ry) ∨ k = r) g a b ga ar s0 sp1 wd x0 x1 n j r 0 from by
        refine ⟨⟨_, by rw [hr]; exact Kit.new_blk wr _, by simp, ⟨_, _, _, _, by rw [hr]; exact Ap.Sp2.newZ Q _, ?_, ⟨Okn.new, Okn.new⟩, ?_⟩⟩, Kit.keep_alloc H.out.obj _⟩
        · have := HNN.out; omega
        · have e : (fun i => (List.replicate j (0 : Int)).getD i 0) = fun _ => 0 := by
            funext i
            rw [List.getD_eq_getElem?_getD, List.getElem?_replicate]
            split <;> rfl
          rw [e]
          exact Ia.new n n1)
      have hrw : r ≠ g ∧ r ≠ ga ∧ r ≠ wd ∧ W.heap.size ≤ r := by
        have := Kit.lt_of H.out.obj
        obtain ⟨ms, P, _⟩ := Q.env.pool
        have := Kit.lt_of P.obj
        have := Kit.lt_of Q.env.arena.obj
        have := Q.bel.size
        omega
      have HRW := Lib.hid hrw
      clear Q hx H HP hmk hr hrw
      go_wp2_with fail
      generalize wr.alloc (Rw.row .i64 3 (List.replicate j 0)) = w4 at *
      go_loopg [9] 100 (fun k c wr => ∃ i : Nat, (i ≤ len ∧ i ≤ 100 ∧ k = 100 - i) ∧ c = .int .i64 i ∧ Hid (Mid W wr (fun k => (k = wd ∨ k = x0 ∨ k = x1 ∨ k = y ∨ k = ry) ∨ k = r) g a b ga ar s0 sp1 wd x0 x1 n j r i))
      case atStart => exact ⟨0, by omega, rfl, HMid⟩
      case round =>
        obtain ⟨i, ⟨hi, hi2, rfl⟩, rfl, H⟩ := hrel
        by_cases hlt : i < len ∧ i < 100
        · obtain ⟨l1, l2⟩ := hlt
          obtain ⟨bb, off, rfl, hb, hc⟩ := HR.out.cells (by omega)
          obtain ⟨_, cm, cb, _, w1⟩ := hc i l1
          generalize (L i).2.1 = m at *
          generalize (L i).2.2 = tw at *
          have HC := Lib.hid (show ∀ w : World, Below W.heap.size W w → w.cell? ⟨bb, off + i * 3 + 1, none⟩ = some (.int .i64 m) from fun w q => (q.cell (p := ⟨bb, off + i * 3 + 1, none⟩) hb).trans cm)
          have cb1 := (H.out.bel.cell (p := ⟨bb, off + i * 3 + 2, none⟩) hb).trans cb
          clear hc cm cb hb
          have HD := Lib.hid (H.out.below (Below.refl wr.heap.size wr).drew)
          have cd0 := (Kit.cell_of HD.out.obj 2).trans rfl
          have cd1 := (Kit.cell_of HD.out.obj 3).trans rfl
          have cm1 := HC.out wr.drew HD.out.bel
          have LI := Lib.hid (HD.out.lay (.inr rfl) (.inl (.inl rfl)) (by omega) tw m)
          clear H
          cases tw
          · simp only [if_true, Bool.false_eq_true, if_false] at LI
            go_wp2_with fail
            go_region_held3 (fun w' => w'.cell? ⟨wd, 2, none⟩ = some (.pointer (some ⟨s0, 0, none⟩)) ∧ w'.cell? ⟨bb, off + i * 3 + 1, none⟩ = some (.int .i64 m))
              (first | exact ⟨by assumption, by assumption⟩ | go_keep)
              (first | (go_at_call 10; refine LI.out.mono ?_; rintro e w3 ⟨p, c, rfl, ⟨lb, lo⟩, R⟩; have c3 := (Kit.cell_of (lo.trans HD.out.obj) 2).trans rfl; have cm3 := HC.out w3 lb; have HR3 := Lib.hid R; have HL3 := Lib.hid lo; clear R lo lb LI))
            clear cd0 cd1 cm1 c3 cm3 cb1
            rcases HR3.out with ⟨c0, M5⟩ | ⟨rfl, k, rfl, k1, k2, p1, p2, I0⟩
            · have ec : ((c : Int) != 0) = true := by simpa using c0
              have HM5 := Lib.hid M5
              clear M5 HR3 HD HL3 c0 HC
              go_wp2_with fail
              go_roundg (100 - (i + 1))
              case measure => omega
              case rel => exact ⟨i + 1, ⟨by omega, by omega, rfl⟩, by simp, HM5⟩
            · have HI0 := Lib.hid I0
              clear I0 HR3 HD HL3
              go_wp2_with fail
              go_loopg [13] k (fun q c wr => ∃ d : Nat, (d ≤ k ∧ q = k - d) ∧ c = .int .i64 ((p + d : Nat) : Int) ∧ Hid (Inn W wr (fun k => (k = wd ∨ k = x0 ∨ k = x1 ∨ k = y ∨ k = ry) ∨ k = r) g a b ga ar s0 sp1 wd x0 x1 n j r (i + 1) p k d))
              case atStart => exact ⟨0, ⟨Nat.zero_le _, rfl⟩, by simp, HI0⟩
              case round =>
                obtain ⟨d, ⟨hd, rfl⟩, rfl, H2⟩ := hrel
                have cm5 := HC.out wr H2.out.bel
                have cw5 := (Kit.cell_of H2.out.obj 1).trans rfl
                have s1 : IntKind.i64.wrap ((p : Int) + k) = (p : Int) + k := IntWalk.i64_in _ (by have := HNN.out; omega)
                by_cases hld : d < k
                · have d1 : decide (((p + d : Nat) : Int) < (p : Int) + k) = true := decide_eq_true (by omega)
                  have RI := Lib.hid (H2.out.read (p + d) (by omega) (by omega))
                  obtain ⟨q1, q2⟩ := H2.out.cell (by have := HNN.out; omega) hld
                  have d2 : decide (((p + d : Nat) : Int) < 64) = false := decide_eq_false (by omega)
                  have d3 : decide ((j : Int) ≤ ((p + d : Nat) : Int)) = false := decide_eq_false (by have := HNN.out; omega)
                  have l5 : ((p + d : Nat) : Int) < (j : Int) := by have := HNN.out; omega
                  have HP := Lib.hid (Inn.put H2.out (.inr rfl) ⟨HRW.out.1, HRW.out.2.1, HRW.out.2.2.1, HRW.out.2.2.2⟩ (by have := HNN.out; omega) hld)
                  clear H2
                  go_wp2_with fail
                  refine RI.out.mono ?_
                  rintro e _ ⟨cc, rfl, rfl⟩
                  go_wp2_with fail
                  go_roundg (k - (d + 1))
                  case measure => omega
                  case rel => exact ⟨d + 1, ⟨by omega, rfl⟩, by simp; omega, HP⟩
                · obtain rfl : d = k := by omega
                  have d1 : decide (((p + d : Nat) : Int) < (p : Int) + d) = false := decide_eq_false (by omega)
                  have HM6 := Lib.hid (Inn.done H2.out (by have := HNN.out; omega))
                  clear H2
                  go_wp2_with fail
                  go_roundg (100 - (i + 1))
                  case measure => omega
                  case rel => exact ⟨i + 1, ⟨by omega, by omega, rfl⟩, by simp, HM6⟩
          · simp only [if_true, Bool.false_eq_true, if_false] at LI
            go_wp2_with fail
            go_region_held3 (fun w' => w'.cell? ⟨wd, 3, none⟩ = some (.pointer (some ⟨sp1, 0, none⟩)) ∧ w'.cell? ⟨bb, off + i * 3 + 1, none⟩ = some (.int .i64 m))
              (first | exact ⟨by assumption, by assumption⟩ | go_keep)
              (first | (go_at_call 10; refine LI.out.mono ?_; rintro e w3 ⟨p, c, rfl, ⟨lb, lo⟩, R⟩; have c3 := (Kit.cell_of (lo.trans HD.out.obj) 3).trans rfl; have cm3 := HC.out w3 lb; have HR3 := Lib.hid R; have HL3 := Lib.hid lo; clear R lo lb LI))
            clear cd0 cd1 cm1 c3 cm3 cb1
            rcases HR3.out with ⟨c0, M5⟩ | ⟨rfl, k, rfl, k1, k2, p1, p2, I0⟩
            · have ec : ((c : Int) != 0) = true := by simpa using c0
              have HM5 := Lib.hid M5
              clear M5 HR3 HD HL3 c0 HC
              go_wp2_with fail
              go_roundg (100 - (i + 1))
              case measure => omega
              case rel => exact ⟨i + 1, ⟨by omega, by omega, rfl⟩, by simp, HM5⟩
            · have HI0 := Lib.hid I0
              clear I0 HR3 HD HL3
              go_wp2_with fail
              go_loopg [13] k (fun q c wr => ∃ d : Nat, (d ≤ k ∧ q = k - d) ∧ c = .int .i64 ((p + d : Nat) : Int) ∧ Hid (Inn W wr (fun k => (k = wd ∨ k = x0 ∨ k = x1 ∨ k = y ∨ k = ry) ∨ k = r) g a b ga ar s0 sp1 wd x0 x1 n j r (i + 1) p k d))
              case atStart => exact ⟨0, ⟨Nat.zero_le _, rfl⟩, by simp, HI0⟩
              case round =>
                obtain ⟨d, ⟨hd, rfl⟩, rfl, H2⟩ := hrel
                have cm5 := HC.out wr H2.out.bel
                have cw5 := (Kit.cell_of H2.out.obj 1).trans rfl
                have s1 : IntKind.i64.wrap ((p : Int) + k) = (p : Int) + k := IntWalk.i64_in _ (by have := HNN.out; omega)
                by_cases hld : d < k
                · have d1 : decide (((p + d : Nat) : Int) < (p : Int) + k) = true := decide_eq_true (by omega)
                  have RI := Lib.hid (H2.out.read (p + d) (by omega) (by omega))
                  obtain ⟨q1, q2⟩ := H2.out.cell (by have := HNN.out; omega) hld
                  have d2 : decide (((p + d : Nat) : Int) < 64) = false := decide_eq_false (by omega)
                  have d3 : decide ((j : Int) ≤ ((p + d : Nat) : Int)) = false := decide_eq_false (by have := HNN.out; omega)
                  have l5 : ((p + d : Nat) : Int) < (j : Int) := by have := HNN.out; omega
                  have HP := Lib.hid (Inn.put H2.out (.inr rfl) ⟨HRW.out.1, HRW.out.2.1, HRW.out.2.2.1, HRW.out.2.2.2⟩ (by have := HNN.out; omega) hld)
                  clear H2
                  go_wp2_with fail
                  refine RI.out.mono ?_
                  rintro e _ ⟨cc, rfl, rfl⟩
                  go_wp2_with fail
                  go_roundg (k - (d + 1))
                  case measure => omega
                  case rel => exact ⟨d + 1, ⟨by omega, rfl⟩, by simp; omega, HP⟩
                · obtain rfl : d = k := by omega
                  have d1 : decide (((p + d : Nat) : Int) < (p : Int) + d) = false := decide_eq_false (by omega)
                  have HM6 := Lib.hid (Inn.done H2.out (by have := HNN.out; omega))
                  clear H2
                  go_wp2_with fail
                  go_roundg (100 - (i + 1))
                  case measure => omega
                  case rel => exact ⟨i + 1, ⟨by omega, by omega, rfl⟩, by simp, HM6⟩
        · have HB := Lib.hid H.out.bel
          clear H
          rcases (show (i < len ∧ i = 100) ∨ i = len by omega) with ⟨l1, rfl⟩ | rfl
          all_goals
            clear hlt
            go_wp2_with fail
            go_ret
            exact ⟨rfl, HB.out⟩
end Go.Proofs.Ytladhenjoipfpaa.LawApart
