/- A pool behind some calls: the law's helper made, for every list. No condition. -/
import Derived.Test.YtlhgdcimchmldaaCt
import Derived.Test.YtlhgdcimchmldaaPw
import Derived.Test.YtlhgdcimchmldaaAg
import Derived.BigQuiet
set_option linter.unusedVariables false
set_option linter.unusedSimpArgs false
namespace Go.Proofs.Ytlhgdcimchmldaa.Md
open Go.RowKit
open Pl Rn Ov Lf Wl Ct
/-- A pool of so many blocks, made since W. -/
structure St (W w : World) (g a b N : Nat) : Prop where
  ex : ∃ fs ms, Pool w g a b fs ms ∧ Wf fs ms ∧ fs.length = N
  own : W.heap.size ≤ g ∧ W.heap.size ≤ a ∧ W.heap.size ≤ b
  bel : Below W.heap.size W w
theorem St.step {W w w' : World} {g a b N : Nat} {fs ms : List Int} (h : St W w g a b N) (P : Pool w' g a b fs ms) (WF : Wf fs ms) (hl : fs.length = N) (m : Kit.Mod [a, b] w w') : St W w' g a b N :=
  ⟨⟨fs, ms, P, WF, hl⟩, h.own, Kit.step h.bel m (by have := h.own; simp; omega)⟩
theorem St.drew {W w : World} {g a b N : Nat} (h : St W w g a b N) (q : Nat) : St W (w.drewN q) g a b N := by
  obtain ⟨fs, ms, P, WF, hl⟩ := h.ex
  exact ⟨⟨fs, ms, P.heap rfl, WF, hl⟩, h.own, Kit.drawB h.bel q⟩
theorem st_alloc {W w : World} {g a b N : Nat} (h : St W w g a b N) (n : Int) (hn : n ≤ 9223372036854775807) : Calls Try.prog 12 #[.pointer (some ⟨g, 0, none⟩), .int .i64 n] w fun e w' => ∃ x c : Int, e = .returned (.tuple #[.int .i64 x, .int .i64 c]) ∧ St W w' g a b N := by
  obtain ⟨fs, ms, P, WF, hl⟩ := h.ex
  refine (alloc_keep w g a b WF P n hn).mono ?_
  rintro e w' ⟨x, c, rfl, fs', ms', P', WF', hl', m⟩
  exact ⟨x, c, rfl, h.step P' WF' (hl'.trans hl) m⟩
theorem st_free {W w : World} {g a b N : Nat} (h : St W w g a b N) (n : Int) : Calls Try.prog 14 #[.pointer (some ⟨g, 0, none⟩), .int .i64 n] w fun e w' => ∃ c : Int, e = .returned (.int .i64 c) ∧ St W w' g a b N := by
  obtain ⟨fs, ms, P, WF, hl⟩ := h.ex
  refine (free_keep w g a b WF P n).mono ?_
  rintro e w' ⟨c, rfl, fs', ms', P', WF', hl', m⟩
  exact ⟨c, rfl, h.step P' WF' (hl'.trans hl) m⟩
theorem st_group {W w : World} {g a b N : Nat} (h : St W w g a b N) (n : Int) : Calls Try.prog 13 #[.pointer (some ⟨g, 0, none⟩), .int .i64 n] w fun e w' => ∃ x y c : Int, e = .returned (.tuple #[.int .i64 x, .int .i64 y, .int .i64 c]) ∧ St W w' g a b N := by
  obtain ⟨fs, ms, P, WF, hl⟩ := h.ex
  refine (group_keep w g a b WF P n).mono ?_
  rintro e w' ⟨x, y, c, rfl, q, rfl⟩
  exact ⟨x, y, c, rfl, h.drew q⟩
set_option maxRecDepth 100000 in
set_option maxHeartbeats 4000000 in
theorem made_it (W : World) (n : Nat) (hn : n ≤ 255) (A : Option Addr) (len cap : Nat) (L : Nat → List Int) (R : Ag.Rows W A len [.i64, .i64] L) :
    Calls Try.prog 8 #[.int .u8 n, .slice A len cap] W fun e w' => ∃ g a b, e = .returned (.tuple #[.pointer (some ⟨g, 0, none⟩), .int .i64 ((n + 1 : Nat) : Int)]) ∧ St W w' g a b (n + 1) := by
  have s1 : IntKind.i64.wrap ((n : Int) + 1) = (n : Int) + 1 := IntWalk.i64_in _ (by omega)
  have s0 : IntKind.i64.wrap (n : Int) = (n : Int) := IntWalk.i64_in _ (by omega)
  have NI := Lib.hid (new_it W (n + 1) (by omega) (by omega))
  rw [show ((n + 1 : Nat) : Int) = (n : Int) + 1 by omega] at NI ⊢
  go_enter Try.func8, Try.ntmps8
  go_wp2_with fail
  refine NI.out.mono ?_
  rintro e w1 ⟨g, a, b, rfl, P, hown, hB⟩
  have S0 : Hid (St W w1 g a b (n + 1)) := ⟨⟨_, _, P, wf_new (n + 1), by simp⟩, hown, hB⟩
  clear P hown hB NI
  go_wp2_with fail
  go_loopg [9] 200 (fun k c wr => ∃ j : Nat, (j ≤ len ∧ j ≤ 200 ∧ k = 200 - j) ∧ c = .int .i64 j ∧ Hid (St W wr g a b (n + 1)))
  case atStart => exact ⟨0, by omega, rfl, S0⟩
  case round =>
    obtain ⟨j, ⟨hj, hj2, rfl⟩, rfl, H⟩ := hrel
    by_cases hlt : j < len ∧ j < 200
    · obtain ⟨l1, l2⟩ := hlt
      obtain ⟨bb, off, rfl, hb, hc⟩ := R.cells (by omega)
      obtain ⟨hl, hc⟩ := hc j l1
      obtain ⟨x0, _, c0, _⟩ := hc 0 .i64 rfl
      obtain ⟨x1, _, c1, w1⟩ := hc 1 .i64 rfl
      obtain ⟨b10, b11⟩ := bounds_i64 w1
      replace c0 := (H.out.bel.cell (p := ⟨bb, off + (j * 2 + 0), none⟩) hb).trans c0
      replace c1 := (H.out.bel.cell (p := ⟨bb, off + (j * 2 + 1), none⟩) hb).trans c1
      rw [Nat.add_zero] at c0
      rw [← Nat.add_assoc] at c1
      have SA := Lib.hid (st_alloc H.out x1 b11)
      have SF := Lib.hid (st_free H.out x1)
      have SG := Lib.hid (st_group H.out x1)
      by_cases k0 : x0 = 0 ∨ x0 = 1
      · rcases k0 with rfl | rfl
        all_goals
          go_wp2_with fail
          refine SA.out.mono ?_
          rintro e w2 ⟨x, c, rfl, S2⟩
          have HS2 := Lib.hid S2
          clear S2
          go_wp2_with fail
          go_roundg (200 - (j + 1))
          case measure => omega
          case rel => exact ⟨j + 1, ⟨by omega, by omega, rfl⟩, by simp, HS2⟩
      · by_cases k2 : x0 = 2
        · subst k2
          go_wp2_with fail
          refine SF.out.mono ?_
          rintro e w2 ⟨c, rfl, S2⟩
          have HS2 := Lib.hid S2
          clear S2
          go_wp2_with fail
          go_roundg (200 - (j + 1))
          case measure => omega
          case rel => exact ⟨j + 1, ⟨by omega, by omega, rfl⟩, by simp, HS2⟩
        · by_cases k3 : x0 = 3
          · subst k3
            go_wp2_with fail
            refine SG.out.mono ?_
            rintro e w2 ⟨x, y, c, rfl, S2⟩
            have SF2 := Lib.hid (st_free S2 x)
            clear S2
            go_wp2_with fail
            refine SF2.out.mono ?_
            rintro e w3 ⟨c', rfl, S3⟩
            have HS2 := Lib.hid S3
            clear S3
            go_wp2_with fail
            go_roundg (200 - (j + 1))
            case measure => omega
            case rel => exact ⟨j + 1, ⟨by omega, by omega, rfl⟩, by simp, HS2⟩
          · have z0 : x0 ≠ 0 := fun e => k0 (.inl e)
            have z1 : x0 ≠ 1 := fun e => k0 (.inr e)
            have HS2 := H
            go_wp2_with fail
            go_roundg (200 - (j + 1))
            case measure => omega
            case rel => exact ⟨j + 1, ⟨by omega, by omega, rfl⟩, by simp, HS2⟩
    · have HS2 := H
      by_cases l1 : j < len
      · obtain rfl : j = 200 := by omega
        go_wp2_with fail
        go_ret2
        exact ⟨g, a, b, rfl, HS2.out⟩
      · obtain rfl : j = len := by omega
        go_wp2_with fail
        go_ret2
        exact ⟨g, a, b, rfl, HS2.out⟩
end Go.Proofs.Ytlhgdcimchmldaa.Md
