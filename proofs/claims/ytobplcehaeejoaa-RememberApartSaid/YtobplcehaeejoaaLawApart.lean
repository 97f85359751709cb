/- Lists are apart: the law RememberApart. No condition. -/
import Derived.Test.YtobplcehaeejoaaLq
import Derived.Test.YtobplcehaeejoaaAg
import Derived.Deep.RegionHeld3
set_option linter.unusedVariables false
set_option linter.unusedSimpArgs false
namespace Go.Proofs.Ytobplcehaeejoaa.LawApart
open Go.RowKit Se Mq Sm Ls Nx Lw Ln Lm Lq
/-- On the way: the set u is as it was. -/
structure Sa (W w : World) (s r : Nat) (b : Nat → Nat) (n u : Nat) (m : List Int) : Prop where
  ex : ∃ M, St W w s r 4 b n M ∧ M u = m
section
variable {W w w' : World} {s r n u : Nat} {b : Nat → Nat} {m : List Int}
theorem Sa.below (h : Sa W w s r b n u m) (q : Below w.heap.size w w') : Sa W w' s r b n u m := by
  obtain ⟨M, S, e⟩ := h.ex
  exact ⟨M, S.below q, e⟩
theorem Sa.mono (h : Sa W w s r b n u m) : Sa W w s r b (n + 1) u m := by
  obtain ⟨M, S, e⟩ := h.ex
  exact ⟨M, S.mono (by omega), e⟩
theorem Sa.bel (h : Sa W w s r b n u m) : Below W.heap.size W w := by
  obtain ⟨M, S, e⟩ := h.ex
  exact S.bel
theorem Sa.put (h : Sa W w s r b n u m) (hn : n ≤ 1000000) (gen k : Int) (hg : gen ≠ u) : Calls Try.prog 10 #[.pointer (some ⟨s, 0, none⟩), .int .i64 gen, .int .i64 k] w fun e w' => (∃ c : Nat, e = .returned (.int .i64 c)) ∧ Sa W w' s r b (n + 1) u m := by
  obtain ⟨M, S, e⟩ := h.ex
  refine (S.put hn gen k).mono ?_
  rintro e' w' ⟨rfl, S', _⟩
  refine ⟨⟨_, rfl⟩, _, S', ?_⟩
  unfold putF
  split
  · rename_i hc
    have : gen.toNat ≠ u := by
      rcases wc_cases 4 gen k with h | ⟨_, h, _⟩
      · omega
      · omega
    unfold upd
    rw [if_neg (by omega)]
    exact e
  · exact e
theorem Sa.drop (h : Sa W w s r b n u m) (gen k : Int) (hg : gen ≠ u) : Calls Try.prog 19 #[.pointer (some ⟨s, 0, none⟩), .int .i64 gen, .int .i64 k] w fun e w' => (∃ c : Nat, e = .returned (.int .i64 c)) ∧ Sa W w' s r b (n + 1) u m := by
  obtain ⟨M, S, e⟩ := h.ex
  refine (S.drop gen k).mono ?_
  rintro e' w' ⟨rfl, S', _⟩
  refine ⟨⟨_, rfl⟩, _, S'.mono (by omega), ?_⟩
  unfold dropF
  split
  · rename_i hc
    have : gen.toNat ≠ u := by
      rcases wc_cases 4 gen k with h | ⟨_, h, _⟩
      · omega
      · omega
    unfold upd
    rw [if_neg (by omega)]
    exact e
  · exact e
theorem Sa.take (h : Sa W w s r b n u m) (hn : n ≤ 1000) (gen : Int) (hg : gen ≠ u) : Calls Try.prog 14 #[.pointer (some ⟨s, 0, none⟩), .int .i64 gen] w fun e w' => (∃ v, e = .returned v) ∧ Sa W w' s r b (n + 1) u m := by
  obtain ⟨M, S, e⟩ := h.ex
  refine (S.take hn gen).mono ?_
  rintro e' w' ⟨v, rfl, _, S', _⟩
  refine ⟨⟨_, rfl⟩, _, S'.mono (by omega), ?_⟩
  unfold takeF
  split
  · unfold upd
    rw [if_neg (by omega)]
    exact e
  · exact e
theorem Sa.all (h : Sa W w s r b n u m) (hn : n ≤ 1000) (hu : u < 4) : Calls Try.prog 11 #[.pointer (some ⟨s, 0, none⟩), .int .i64 u] w fun e w' => ∃ p c, e = .returned (.slice p m.length c) ∧ Sl w' p m ∧ Below W.heap.size W w' := by
  obtain ⟨M, S, e⟩ := h.ex
  refine (S.all hn u).mono ?_
  rintro e' w' ⟨v, rfl, o, b1⟩
  have e0 : allF 4 M u = m := by unfold allF; rw [if_pos (by omega), Int.toNat_natCast]; exact e
  rw [e0] at o
  obtain ⟨p, c, rfl, T, _⟩ := Sl.of o rfl
  exact ⟨p, c, rfl, T, Kit.stepB S.bel b1⟩
end
theorem cell_at {W : World} {A : Option Addr} {len : Nat} {L : Nat → List Int} (R : Ag.Rows W A len [.i64, .i64, .i64] L) (i : Nat) (h : i < len) : ∃ bb off k gen x, A = some ⟨bb, off, none⟩ ∧ (Lit.int .i64 x).wf = true ∧ ∀ w : World, Below W.heap.size W w → w.cell? ⟨bb, off + i * 3, none⟩ = some (.int .i64 k) ∧ w.cell? ⟨bb, off + i * 3 + 1, none⟩ = some (.int .i64 gen) ∧ w.cell? ⟨bb, off + i * 3 + 2, none⟩ = some (.int .i64 x) := by
  obtain ⟨bb, off, rfl, hb, hc⟩ := R.cells (by omega)
  obtain ⟨_, hx⟩ := hc i h
  obtain ⟨k, _, c0, _⟩ := hx 0 .i64 rfl
  obtain ⟨gen, _, c1, _⟩ := hx 1 .i64 rfl
  obtain ⟨x, _, c2, w2⟩ := hx 2 .i64 rfl
  exact ⟨bb, off, k, gen, x, rfl, w2, fun w q => ⟨(q.cell (p := ⟨bb, off + i * 3, none⟩) hb).trans c0, (q.cell (p := ⟨bb, off + i * 3 + 1, none⟩) hb).trans c1, (q.cell (p := ⟨bb, off + i * 3 + 2, none⟩) hb).trans c2⟩⟩
set_option maxHeartbeats 8000000 in
set_option maxRecDepth 100000 in
theorem law (W : World) (g : Nat) (hg : g ≤ 255) (A : Option Addr) (len cap : Nat) (L : Nat → List Int) (R : Ag.Rows W A len [.i64, .i64, .i64] L) :
    Calls Try.prog 6 #[.slice A len cap, .int .u8 g] W fun e w => e = .returned (.bool true) ∧ Below W.heap.size W w := by
  have NI := Lib.hid (St.new (W := W) (g := 4) (by omega) (by omega) (Below.refl W.heap.size W))
  have AW := Lib.hid awake_it
  have HR := Lib.hid R
  have hmax := R.max
  have s0 : IntKind.i64.wrap (g : Int) = (g : Int) := IntWalk.i64_in _ (by omega)
  obtain ⟨u, hu⟩ : ∃ u, u = g % 4 := ⟨_, rfl⟩
  have hu4 : u < 4 := by omega
  have s1 : (g : Int) % 4 = (u : Int) := by omega
  have S1 := Lib.hid s1
  clear R hu s1
  go_enter Try.func6, Try.ntmps6
  go_wp2_with fail
  refine NI.out.mono ?_
  rintro e w1 ⟨s, r, b, rfl, S, _, _⟩
  have HS := Lib.hid S
  clear S NI
  go_wp2_with fail
  refine (AW.out _).mono ?_
  rintro e w2 ⟨rfl, b2⟩
  have P1 := (HS.out.below b2).put (by omega) u 7
  rw [← S1.out] at P1
  have P1 := Lib.hid P1
  clear b2 AW HS
  go_wp2_with fail
  refine P1.out.mono ?_
  rintro e w3 ⟨rfl, S3, _⟩
  have P2 := Lib.hid (S3.put (by omega) ((g : Int) % 4) 3)
  clear S3 P1
  go_wp2_with fail
  refine P2.out.mono ?_
  rintro e w4 ⟨rfl, S4, _⟩
  rw [S1.out] at S4
  have HA := Lib.hid (show Sa W w4 s r b 2 u [3, 7] from ⟨_, S4, by
    have e1 : wc 4 (u : Int) 7 = 0 := by unfold wc; rw [if_neg (by omega), if_neg (by omega)]
    have e2 : wc 4 (u : Int) 3 = 0 := by unfold wc; rw [if_neg (by omega), if_neg (by omega)]
    simp [putF, e1, e2, upd, ins]⟩)
  clear S4 P2
  go_wp2_with fail
  go_loopg [8] 300 (fun k c wr => ∃ i : Nat, (i ≤ len ∧ i ≤ 300 ∧ k = 300 - i) ∧ c = .int .i64 i ∧ Hid (Sa W wr s r b (2 + i) u [3, 7]))
  case atStart => exact ⟨0, by omega, rfl, HA⟩
  case round =>
    obtain ⟨i, ⟨hi, hi2, rfl⟩, rfl, H⟩ := hrel
    clear HA
    by_cases hlt : i < len ∧ i < 300
    · obtain ⟨l1, l2⟩ := hlt
      obtain ⟨bb, off, k, gen, x, rfl, _, hc⟩ := cell_at HR.out i l1
      have HC := Lib.hid hc
      obtain ⟨q0, q1, q2⟩ := hc wr H.out.bel
      clear hc
      by_cases hgu : gen = u
      · have e1 : (gen == (g : Int) % 4) = true := by rw [S1.out]; simpa using hgu
        have H2 := Lib.hid H.out.mono
        clear H hgu
        go_wp2_with fail
        go_roundg (300 - (i + 1))
        case measure => omega
        case rel => exact ⟨i + 1, ⟨by omega, by omega, rfl⟩, by simp, H2⟩
      · have e1 : (gen == (g : Int) % 4) = false := by rw [S1.out]; simpa using hgu
        by_cases k0 : k = 0 ∨ k = 1
        · have HD := Lib.hid (H.out.below (Below.refl wr.heap.size wr).drew)
          obtain ⟨r0, r1, r2⟩ := HC.out wr.drew HD.out.bel
          have PI := Lib.hid (HD.out.put (by omega) gen x hgu)
          clear H hgu
          rcases k0 with rfl | rfl
          all_goals
            go_wp2_with fail
            go_region_held3 (fun w' => w'.cell? ⟨bb, off + i * 3 + 1, none⟩ = some (.int .i64 gen) ∧ w'.cell? ⟨bb, off + i * 3 + 2, none⟩ = some (.int .i64 x))
              (first | exact ⟨by assumption, by assumption⟩ | go_keep)
              (first | (go_at_call 10; refine PI.out.mono ?_; rintro e w5 ⟨⟨c, rfl⟩, R⟩; obtain ⟨x0, x1, x2⟩ := HC.out w5 R.bel; have HR5 := Lib.hid R; clear R PI))
            go_wp2_with fail
            go_roundg (300 - (i + 1))
            case measure => omega
            case rel => exact ⟨i + 1, ⟨by omega, by omega, rfl⟩, by simp, HR5⟩
        · have n0 : (k == 0) = false := by simp; omega
          have n1 : (k == 1) = false := by simp; omega
          by_cases k2 : k = 2
          · subst k2
            have HD := Lib.hid (H.out.below (Below.refl wr.heap.size wr).drew)
            obtain ⟨r0, r1, r2⟩ := HC.out wr.drew HD.out.bel
            have PI := Lib.hid (HD.out.drop gen x hgu)
            clear H hgu n0 n1 k0
            go_wp2_with fail
            go_region_held3 (fun w' => w'.cell? ⟨bb, off + i * 3 + 1, none⟩ = some (.int .i64 gen) ∧ w'.cell? ⟨bb, off + i * 3 + 2, none⟩ = some (.int .i64 x))
              (first | exact ⟨by assumption, by assumption⟩ | go_keep)
              (first | (go_at_call 19; refine PI.out.mono ?_; rintro e w5 ⟨⟨c, rfl⟩, R⟩; obtain ⟨x0, x1, x2⟩ := HC.out w5 R.bel; have HR5 := Lib.hid R; clear R PI))
            go_wp2_with fail
            go_roundg (300 - (i + 1))
            case measure => omega
            case rel => exact ⟨i + 1, ⟨by omega, by omega, rfl⟩, by simp, HR5⟩
          · have n2 : (k == 2) = false := by simp; omega
            by_cases k3 : k = 3
            · subst k3
              have PI := Lib.hid (H.out.take (by omega) gen hgu)
              clear H hgu n0 n1 n2 k0 k2
              go_wp2_with fail
              refine PI.out.mono ?_
              rintro e w5 ⟨⟨v, rfl⟩, R⟩
              have HR5 := Lib.hid R
              clear R PI q0 q1 q2
              go_wp2_with fail
              go_roundg (300 - (i + 1))
              case measure => omega
              case rel => exact ⟨i + 1, ⟨by omega, by omega, rfl⟩, by simp, HR5⟩
            · have n3 : (k == 3) = false := by simp; omega
              have H2 := Lib.hid H.out.mono
              clear H hgu k0 k2 k3
              go_wp2_with fail
              go_roundg (300 - (i + 1))
              case measure => omega
              case rel => exact ⟨i + 1, ⟨by omega, by omega, rfl⟩, by simp, H2⟩
    · have AI := H.out.all (by omega) hu4
      rw [← S1.out] at AI
      have AI := Lib.hid AI
      clear H
      rcases (show (i < len ∧ i = 300) ∨ i = len by omega) with ⟨l1, rfl⟩ | rfl
      all_goals
        clear hlt
        go_wp2_with fail
        refine AI.out.mono ?_
        rintro e w5 ⟨p, c, rfl, T, b5⟩
        have B5 := Lib.hid b5
        have ba := Kit.allocB (Below.refl w5.heap.size w5) (.cells #[.int .i64 3, .int .i64 7] 3)
        have nb := Kit.new_blk w5 (.cells #[.int .i64 3, .int .i64 7] 3)
        have T2 : Sl (w5.alloc (.cells #[.int .i64 3, .int .i64 7] 3)) (some ⟨w5.heap.size, 0, none⟩) [3, 7] := ⟨fun _ => ⟨w5.heap.size, 0, rfl, by simp, fun j hj => by
          have c2 := Kit.cells2 nb
          simp at hj
          rcases (show j = 0 ∨ j = 1 by omega) with rfl | rfl
          · exact c2.1
          · exact c2.2⟩⟩
        have Q := Lib.hid (same_it (w5.alloc (.cells #[.int .i64 3, .int .i64 7] 3)) p (some ⟨w5.heap.size, 0, none⟩) c 2 [3, 7] (T.keepB ba) T2 (by simp))
        clear AI T b5 ba nb T2
        go_wp2_with fail
        refine Q.out.mono ?_
        rintro e w6 ⟨rfl, n6, rfl⟩
        go_wp2_with fail
        go_ret
        exact ⟨rfl, Kit.drawB (Kit.allocB B5.out _) n6⟩
end Go.Proofs.Ytobplcehaeejoaa.LawApart
