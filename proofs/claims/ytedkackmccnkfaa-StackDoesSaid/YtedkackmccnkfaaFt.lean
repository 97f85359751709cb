/- The reference's test of a frame. No condition. -/
import Derived.Test.YtedkackmccnkfaaFs
import Derived.Deep.DeepCutAuto
import Derived.Deep.CutBlock
set_option linter.unusedVariables false
set_option linter.unusedSimpArgs false
namespace Go.Proofs.Ytedkackmccnkfaa.Ft
open Go.RowKit
open Fr Fs
set_option maxHeartbeats 1000000 in
set_option maxRecDepth 100000 in
theorem rright_it (w : World) (k a b : Int) (p : Option Addr) (c : Nat) (ps : List Int) (S : Sl w p ps) (hl : ps.length ≤ 17592186044416) :
    Calls Try.prog 11 #[frameV k a b p ps.length c] w fun e w' => e = .returned (.int .i64 (rightE k a b ps)) ∧ Below w.heap.size w w' := by
  have BW := Lib.hid (fun n lo hi (w : World) => between_it n lo hi w)
  have BN := Lib.hid (Kit.new_blk w (.cells #[.int .i64 k, .int .i64 a, .int .i64 b, .slice p ps.length c] 24 (0, 0)))
  have BB := Lib.hid (Kit.allocB (Below.refl w.heap.size w) (.cells #[.int .i64 k, .int .i64 a, .int .i64 b, .slice p ps.length c] 24 (0, 0)))
  have HS := Lib.hid (S.keepB BB.out)
  clear S
  unfold frameV rightE
  cases hm : mostOf k with
  | none =>
    have hk : (k == 1) = false ∧ (k == 2) = false ∧ (k == 3) = false ∧ (k == 4) = false ∧ (k == 5) = false := by
      unfold mostOf at hm
      simp only [beq_eq_false_iff_ne]
      refine ⟨?_, ?_, ?_, ?_, ?_⟩ <;> (intro h; subst h; simp at hm)
    clear hm
    obtain ⟨h1, h2, h3, h4, h5⟩ := hk
    simp only
    go_enter Try.func11, Try.ntmps11
    go_wp2_with fail
    go_ret
    exact ⟨rfl, BB.out⟩
  | some m =>
    obtain ⟨lA, mA, mB, lP, mP⟩ := m
    simp only
    obtain ⟨q, q1, q2, q3, q4⟩ := first_bad ps
    rw [q4]
    have Q2 := Lib.hid q2
    have Q3 := Lib.hid q3
    have HM := Lib.hid hm
    clear q2 q3 q4 hm
    obtain ⟨res, hres⟩ : ∃ res : Int, res = (if lP ≤ ps.length ∧ (ps.length : Int) ≤ mP then (if lA ≤ a ∧ a ≤ mA ∧ 0 ≤ b ∧ b ≤ mB then (if q < ps.length then 4 else 0) else 2) else 7) := ⟨_, rfl⟩
    rw [← hres]
    have HR := Lib.hid hres
    clear hres
    have c4 := Kit.cells4 BN.out
    go_enter Try.func11, Try.ntmps11
    go_upto_block 0 with (fail)
    go_cut [4, 5] (fun s4 s5 w' => ∃ sz ar : Bool, s4 = .bool sz ∧ s5 = .bool ar ∧ Hid ((sz = true ↔ lP ≤ ps.length ∧ (ps.length : Int) ≤ mP) ∧ (ar = true ↔ lA ≤ a ∧ a ≤ mA ∧ 0 ≤ b ∧ b ≤ mB)) ∧ w' = w.alloc (.cells #[.int .i64 k, .int .i64 a, .int .i64 b, .slice p ps.length c] 24 (0, 0)))
    case first =>
      have fin : ∀ (sz ar : Bool) (p1 p2 : Prop), (sz = true ↔ p1) → (ar = true ↔ p2) → Hid ((sz = true ↔ p1) ∧ (ar = true ↔ p2)) := fun _ _ _ _ h1 h2 => ⟨h1, h2⟩
      have hk : (k = 1 ∧ lA = 0 ∧ mA = 1048575 ∧ mB = 0 ∧ lP = 0 ∧ mP = 1000) ∨ (k = 2 ∧ lA = 0 ∧ mA = 0 ∧ mB = 0 ∧ lP = 1 ∧ mP = 1) ∨ (k = 3 ∧ lA = 0 ∧ mA = 0 ∧ mB = 0 ∧ lP = 1 ∧ mP = 8) ∨ (k = 4 ∧ lA = 1 ∧ mA = 16 ∧ mB = 2 ∧ lP = 1 ∧ mP = 3) ∨ (k = 5 ∧ lA = 0 ∧ mA = 1048575 ∧ mB = 7 ∧ lP = 0 ∧ mP = 0) := by
        have hm := HM.out
        unfold mostOf at hm
        split at hm
        · left; simp at hm; omega
        split at hm
        · right; left; simp at hm; omega
        split at hm
        · right; right; left; simp at hm; omega
        split at hm
        · right; right; right; left; simp at hm; omega
        split at hm
        · right; right; right; right; simp at hm; omega
        · simp at hm
      have FIN := Lib.hid fin
      clear fin HM HR
      rcases hk with ⟨rfl, rfl, rfl, rfl, rfl, rfl⟩ | ⟨rfl, rfl, rfl, rfl, rfl, rfl⟩ | ⟨rfl, rfl, rfl, rfl, rfl, rfl⟩ | ⟨rfl, rfl, rfl, rfl, rfl, rfl⟩ | ⟨rfl, rfl, rfl, rfl, rfl, rfl⟩
      · by_cases h : 0 ≤ a ∧ a ≤ 1048575
        · have D : Hid (decide (0 ≤ a ∧ a ≤ 1048575) = true) := decide_eq_true h
          go_wp2_with fail
          refine (BW.out a 0 1048575 _).mono ?_; rintro e w1 ⟨rfl, rfl⟩; rw [D.out]
          go_wp2_with fail
          go_meet
          case rel => exact ⟨_, _, rfl, rfl, FIN.out _ _ _ _ (by simp) (by simp; omega), rfl⟩
        · have D : Hid (decide (0 ≤ a ∧ a ≤ 1048575) = false) := decide_eq_false h
          go_wp2_with fail
          refine (BW.out a 0 1048575 _).mono ?_; rintro e w1 ⟨rfl, rfl⟩; rw [D.out]
          go_wp2_with fail
          go_meet
          case rel => exact ⟨_, _, rfl, rfl, FIN.out _ _ _ _ (by simp) (by simp; omega), rfl⟩
      · by_cases h : a = 0
        · subst h
          go_wp2_with fail
          go_meet
          case rel => exact ⟨_, _, rfl, rfl, FIN.out _ _ _ _ (by simp; omega) (by simp; omega), rfl⟩
        · have d : (a == 0) = false := beq_eq_false_iff_ne.2 h
          go_wp2_with fail
          go_meet
          case rel => exact ⟨_, _, rfl, rfl, FIN.out _ _ _ _ (by simp; omega) (by simp; omega), rfl⟩
      · by_cases h : a = 0
        · subst h
          go_wp2_with fail
          refine (BW.out _ 1 8 _).mono ?_; rintro e w1 ⟨rfl, rfl⟩
          go_wp2_with fail
          go_meet
          case rel => exact ⟨_, _, rfl, rfl, FIN.out _ _ _ _ (by simp) (by simp; omega), rfl⟩
        · have d : (a == 0) = false := beq_eq_false_iff_ne.2 h
          go_wp2_with fail
          refine (BW.out _ 1 8 _).mono ?_; rintro e w1 ⟨rfl, rfl⟩
          go_wp2_with fail
          go_meet
          case rel => exact ⟨_, _, rfl, rfl, FIN.out _ _ _ _ (by simp) (by simp; omega), rfl⟩
      · by_cases h : 1 ≤ a ∧ a ≤ 16
        · have D : Hid (decide (1 ≤ a ∧ a ≤ 16) = true) := decide_eq_true h
          go_wp2_with fail
          refine (BW.out _ 1 3 _).mono ?_; rintro e w1 ⟨rfl, rfl⟩
          go_wp2_with fail
          refine (BW.out a 1 16 _).mono ?_; rintro e w1 ⟨rfl, rfl⟩; rw [D.out]
          go_wp2_with fail
          refine (BW.out b 0 2 _).mono ?_; rintro e w1 ⟨rfl, rfl⟩
          go_wp2_with fail
          go_meet
          case rel => exact ⟨_, _, rfl, rfl, FIN.out _ _ _ _ (by simp) (by simp; omega), rfl⟩
        · have D : Hid (decide (1 ≤ a ∧ a ≤ 16) = false) := decide_eq_false h
          go_wp2_with fail
          refine (BW.out _ 1 3 _).mono ?_; rintro e w1 ⟨rfl, rfl⟩
          go_wp2_with fail
          refine (BW.out a 1 16 _).mono ?_; rintro e w1 ⟨rfl, rfl⟩; rw [D.out]
          go_wp2_with fail
          go_meet
          case rel => exact ⟨_, _, rfl, rfl, FIN.out _ _ _ _ (by simp) (by simp; omega), rfl⟩
      · by_cases h : 0 ≤ a ∧ a ≤ 1048575
        · have D : Hid (decide (0 ≤ a ∧ a ≤ 1048575) = true) := decide_eq_true h
          go_wp2_with fail
          refine (BW.out a 0 1048575 _).mono ?_; rintro e w1 ⟨rfl, rfl⟩; rw [D.out]
          go_wp2_with fail
          refine (BW.out b 0 7 _).mono ?_; rintro e w1 ⟨rfl, rfl⟩
          go_wp2_with fail
          go_meet
          case rel => exact ⟨_, _, rfl, rfl, FIN.out _ _ _ _ (by simp) (by simp; omega), rfl⟩
        · have D : Hid (decide (0 ≤ a ∧ a ≤ 1048575) = false) := decide_eq_false h
          go_wp2_with fail
          refine (BW.out a 0 1048575 _).mono ?_; rintro e w1 ⟨rfl, rfl⟩; rw [D.out]
          go_wp2_with fail
          go_meet
          case rel => exact ⟨_, _, rfl, rfl, FIN.out _ _ _ _ (by simp) (by simp; omega), rfl⟩
    case rest =>
      obtain ⟨sz, ar, rfl, rfl, HB, rfl⟩ := hcut
      have RE : Hid (res = if sz then (if ar then (if q < ps.length then 4 else 0) else 2) else 7) := by
        have h1 := HB.out.1
        have h2 := HB.out.2
        show _ = _
        rw [HR.out]
        simp only [h1, h2]
      clear HM HR HB BW
      cases sz with
      | false =>
        have R' : Hid (res = 7) := RE.out
        go_wp2_with fail
        go_ret
        exact ⟨by rw [R'.out]; rfl, BB.out⟩
      | true =>
        cases ar with
        | false =>
          have R' : Hid (res = 2) := RE.out
          go_wp2_with fail
          go_ret
          exact ⟨by rw [R'.out]; rfl, BB.out⟩
        | true =>
          have R' : Hid (res = if q < ps.length then 4 else 0) := RE.out
          have BW := Lib.hid (fun n lo hi (w : World) => between_it n lo hi w)
          clear RE
          go_wp2_with fail
          clear c4
          have c4 := Kit.cells4 BN.out
          generalize w.alloc _ = w2 at *
          go_loop [6] (fun i => ∃ j : Nat, j ≤ q ∧ i = .int .i64 j) (fun i => ps.length - (intOf i).toNat)
          case atStart => exact ⟨0, Nat.zero_le _, rfl⟩
          case round =>
            obtain ⟨j, hj, rfl⟩ := hrel
            by_cases hlt : j < ps.length
            · obtain ⟨bb, off, rfl, hb, hc⟩ := HS.out.cells (by omega)
              have cj := hc j hlt
              have FB : Hid (j < q → fineP (ps.getD j 0)) := fun h => Q2.out j h
              have FC : Hid (j = q → ¬ fineP (ps.getD j 0)) := fun h => h ▸ Q3.out (by omega)
              clear hc hb
              generalize ps.getD j 0 = x at cj FB FC
              by_cases hjq : j < q
              · have PT : Hid (decide (0 ≤ x ∧ x ≤ 524288) = true) := decide_eq_true (FB.out hjq)
                go_wp2_with fail
                refine (BW.out x 0 524288 _).mono ?_; rintro e w3 ⟨rfl, rfl⟩; rw [PT.out]
                go_wp2_with fail
                go_round
                case rel => exact ⟨j + 1, by omega, by simp⟩
                case measure => simp [intOf]; omega
              · have PT : Hid (decide (0 ≤ x ∧ x ≤ 524288) = false) := decide_eq_false (FC.out (by omega))
                go_wp2_with fail
                refine (BW.out x 0 524288 _).mono ?_; rintro e w3 ⟨rfl, rfl⟩; rw [PT.out]
                go_wp2_with fail
                go_ret
                exact ⟨by rw [R'.out, if_pos (by omega)]; rfl, BB.out⟩
            · go_wp2_with fail
              go_ret
              exact ⟨by rw [R'.out, if_neg (by omega)]; rfl, BB.out⟩
end Go.Proofs.Ytedkackmccnkfaa.Ft
