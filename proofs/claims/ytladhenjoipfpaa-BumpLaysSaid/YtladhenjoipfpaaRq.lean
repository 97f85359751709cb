/- The reference's pool: Alloc, Free, Group, Left by contracts. No condition. -/
import Derived.Test.YtladhenjoipfpaaRp
set_option linter.unusedVariables false
set_option linter.unusedSimpArgs false
namespace Go.Proofs.Ytladhenjoipfpaa.Rq
open Go.RowKit
open Pl Rn Ov Lf Wl Gp Ct Sn Gq Rp
section
variable {w w' : World} {x r cap : Nat} {fs ms : List Int}
theorem ralloc_small (w : World) (x : Nat) (n : Int) (h : n < 1) : Calls Try.prog 27 #[.pointer (some ⟨x, 0, none⟩), .int .i64 n] w fun e w' => e = .returned (.tuple #[.int .i64 0, .int .i64 7]) ∧ w' = w := by
  have d1 : decide (n < 1) = true := decide_eq_true h
  go_enter Try.func27, Try.ntmps27
  go_wp2_with fail
  go_ret2
  exact ⟨rfl, rfl⟩
set_option maxHeartbeats 1000000 in
set_option maxRecDepth 100000 in
theorem ralloc_none (P : RP w x r cap fs) (N : Nat) (h1 : 1 ≤ N) (hN : N ≤ 9223372036854775807) (h : ∀ q, q < fs.length → ¬ Fits fs q N) :
    Calls Try.prog 27 #[.pointer (some ⟨x, 0, none⟩), .int .i64 N] w fun e w' => e = .returned (.tuple #[.int .i64 0, .int .i64 5]) ∧ w' = w := by
  have d1 : decide ((N : Int) < 1) = false := decide_eq_false (by omega)
  have hs := P.small
  have c1 := Kit.cells1 P.obj
  have HP := Lib.hid P
  have HF := Lib.hid h
  clear P h
  go_enter Try.func27, Try.ntmps27
  go_wp2_with fail
  go_loop [6] (fun i => ∃ j : Nat, j ≤ fs.length ∧ i = .int .i64 j) (fun i => fs.length - (intOf i).toNat)
  case atStart => exact ⟨0, Nat.zero_le _, rfl⟩
  case round =>
    obtain ⟨j, hj, rfl⟩ := hrel
    by_cases hlt : j < fs.length
    · have FN := Lib.hid (fits_no HP.out j N hj hN (HF.out j hlt))
      go_wp2_with fail
      refine FN.out.mono ?_
      rintro e w' ⟨rfl, rfl⟩
      clear FN
      go_wp2_with fail
      go_round
      case rel => exact ⟨j + 1, by omega, by simp⟩
      case measure => simp [intOf]; omega
    · obtain rfl : j = fs.length := by omega
      go_wp2_with fail
      go_ret2
      exact ⟨rfl, rfl⟩
set_option maxHeartbeats 1000000 in
set_option maxRecDepth 100000 in
theorem ralloc_it (P : RP w x r cap fs) (p N : Nat) (h1 : 1 ≤ N) (hf : Fits fs p N) (h : ∀ q, q < p → ¬ Fits fs q N) :
    Calls Try.prog 27 #[.pointer (some ⟨x, 0, none⟩), .int .i64 N] w fun e w' => e = .returned (.tuple #[.int .i64 p, .int .i64 0]) ∧ RP w' x r cap (fill fs p N p) ∧ Kit.Mod [r] w w' := by
  have d1 : decide ((N : Int) < 1) = false := decide_eq_false (by omega)
  have hs := P.small
  have c1 := Kit.cells1 P.obj
  have hl := hf.1
  have HP := Lib.hid P
  have HF := Lib.hid h
  have HY := Lib.hid hf
  clear P h hf
  go_enter Try.func27, Try.ntmps27
  go_wp2_with fail
  go_loopg [6] p (fun k i wr => ∃ j : Nat, (j ≤ p ∧ k = p - j) ∧ i = .int .i64 j ∧ Hid (wr = w))
  case atStart => exact ⟨0, ⟨Nat.zero_le _, rfl⟩, rfl, rfl⟩
  case round =>
    obtain ⟨j, ⟨hj, rfl⟩, rfl, H⟩ := hrel
    obtain rfl := H.out
    by_cases hlt : j < p
    · have FN := Lib.hid (fits_no HP.out j N (by omega) (by omega) (HF.out j hlt))
      have lj : (j : Int) < fs.length := by omega
      clear H
      go_wp2_with fail
      refine FN.out.mono ?_
      rintro e w' ⟨rfl, rfl⟩
      clear FN
      go_wp2_with fail
      go_roundg (p - (j + 1))
      case measure => omega
      case rel => exact ⟨j + 1, ⟨by omega, rfl⟩, by simp, rfl⟩
    · obtain rfl : j = p := by omega
      have FY := Lib.hid (fits_yes HP.out j N HY.out)
      have lj : (j : Int) < fs.length := by omega
      clear H
      go_wp2_with fail
      refine FY.out.mono ?_
      rintro e w' ⟨rfl, rfl⟩
      clear FY
      have s2 : IntKind.i64.wrap ((j : Int) + N) = (j : Int) + N := IntWalk.i64_in _ (by omega)
      go_wp2_with fail
      clear c1
      go_loopg [7] N (fun k i wr => ∃ d : Nat, (d ≤ N ∧ k = N - d) ∧ i = .int .i64 ((j + d : Nat) : Int) ∧ Hid (RP wr x r cap (fill fs j d j) ∧ Kit.Mod [r] w' wr))
      case atStart => exact ⟨0, ⟨Nat.zero_le _, rfl⟩, by simp, by rw [fill_zero]; exact HP.out, Kit.Mod.refl _ _⟩
      case round =>
        obtain ⟨d, ⟨hd, rfl⟩, rfl, H⟩ := hrel
        have hfl := fill_length fs j d (j : Int) (by omega)
        have c1 := Kit.cells1 H.out.1.obj
        rw [hfl] at c1
        have HFL := Lib.hid hfl
        clear hfl
        by_cases hld : d < N
        · have c2 := H.out.1.cell (j + d) (by rw [HFL.out]; omega)
          have f2 := H.out.1.frozen (j + d)
          have P1 := H.out.1.put (j + d) j
          rw [fill_succ fs j d j (by omega)] at P1
          have HP1 := Lib.hid P1
          have M1 := Lib.hid (H.out.2.setCell (p := ⟨r, j + d, none⟩) (.inl (by simp)) (.int .i64 j))
          clear P1
          generalize (fill fs j d j).getD (j + d) 0 = y at c2
          have d3 : decide (((j + d : Nat) : Int) < (j : Int) + N) = true := decide_eq_true (by omega)
          have l1 : ((j + d : Nat) : Int) < fs.length := by omega
          go_wp2_with fail
          go_roundg (N - (d + 1))
          case measure => omega
          case rel => exact ⟨d + 1, ⟨by omega, rfl⟩, by simp; omega, HP1.out, M1.out⟩
        · obtain rfl : d = N := by omega
          have d3 : decide (((j + d : Nat) : Int) < (j : Int) + d) = false := decide_eq_false (by omega)
          go_wp2_with fail
          go_ret2
          exact ⟨rfl, H.out.1, H.out.2⟩
theorem rfree_bad (P : RP w x r cap fs) (n : Int) (h : n < 0 ∨ (fs.length : Int) ≤ n ∨ (0 ≤ n ∧ n < fs.length ∧ fs.getD n.toNat 0 ≠ n)) : Calls Try.prog 47 #[.pointer (some ⟨x, 0, none⟩), .int .i64 n] w fun e w' => e = .returned (.int .i64 8) ∧ w' = w := by
  have c1 := Kit.cells1 P.obj
  have hs := P.small
  have HP := Lib.hid P
  clear P
  rcases h with h0 | h0 | ⟨h0, h1, h2⟩
  · have d0 : decide (n < 0) = true := decide_eq_true h0
    go_enter Try.func47, Try.ntmps47
    go_wp2_with fail
    go_ret
    exact ⟨rfl, rfl⟩
  · have d0 : decide (n < 0) = false := decide_eq_false (by omega)
    have d1 : decide ((fs.length : Int) ≤ n) = true := decide_eq_true h0
    go_enter Try.func47, Try.ntmps47
    go_wp2_with fail
    go_ret
    exact ⟨rfl, rfl⟩
  · obtain ⟨k, rfl⟩ := Int.eq_ofNat_of_zero_le h0
    rw [Int.toNat_natCast] at h2
    have c2 := HP.out.cell k (by omega)
    have d0 : decide ((k : Int) < 0) = false := decide_eq_false (by omega)
    have d1 : decide ((fs.length : Int) ≤ k) = false := decide_eq_false (by omega)
    have d1' : decide (fs.length ≤ k) = false := decide_eq_false (by omega)
    generalize fs.getD k 0 = y at c2 h2
    have d2 : (y != (k : Int)) = true := by rw [bne_iff_ne]; exact h2
    clear h2
    go_enter Try.func47, Try.ntmps47
    go_wp2_with fail
    go_ret
    exact ⟨rfl, rfl⟩
/-- What has been freed up to a place. -/
def Part (fs M : List Int) (f j : Nat) : Prop := M.length = fs.length ∧ ∀ k, k < fs.length → M.getD k 0 = if k < j ∧ fs.getD k 0 = f then -1 else fs.getD k 0
theorem Part.yes {M : List Int} {f j : Nat} (h : Part fs M f j) (hj : j < fs.length) (he : fs.getD j 0 = f) : Part fs (M.set j (-1)) f (j + 1) := by
  refine ⟨by rw [List.length_set]; exact h.1, fun k hk => ?_⟩
  rw [set_get M j k (-1) (by rw [h.1]; exact hj)]
  by_cases e : k = j
  · subst e; rw [if_pos rfl, if_pos ⟨by omega, he⟩]
  · rw [if_neg e, h.2 k hk]
    by_cases c : k < j ∧ fs.getD k 0 = f
    · rw [if_pos c, if_pos ⟨by omega, c.2⟩]
    · rw [if_neg c, if_neg (fun c' => c ⟨by omega, c'.2⟩)]
theorem Part.no {M : List Int} {f j : Nat} (h : Part fs M f j) (he : fs.getD j 0 ≠ f) : Part fs M f (j + 1) := by
  refine ⟨h.1, fun k hk => ?_⟩
  rw [h.2 k hk]
  by_cases e : k = j
  · subst e; rw [if_neg (fun c => he c.2), if_neg (fun c => he c.2)]
  · by_cases c : k < j ∧ fs.getD k 0 = f
    · rw [if_pos c, if_pos ⟨by omega, c.2⟩]
    · rw [if_neg c, if_neg (fun c' => c ⟨by omega, c'.2⟩)]
theorem Part.done {M : List Int} {f m : Nat} (h : Part fs M f fs.length) (hl : f + m ≤ fs.length) (hf : ∀ k, k < fs.length → ((f ≤ k ∧ k < f + m) ↔ fs.getD k 0 = f)) : M = fill fs f m (-1) := by
  have L := fill_length fs f m (-1) hl
  apply List.ext_getElem?
  intro i
  by_cases hi : i < fs.length
  · rw [Ov.some_getD M i (by rw [h.1]; exact hi), Ov.some_getD _ i (by omega), h.2 i hi, fill_get fs f m (-1) hl i]
    by_cases c : f ≤ i ∧ i < f + m
    · rw [if_pos ⟨hi, (hf i hi).1 c⟩, if_pos c]
    · rw [if_neg (fun c' => c ((hf i hi).2 c'.2)), if_neg c]
  · rw [List.getElem?_eq_none (by rw [h.1]; omega), List.getElem?_eq_none (by omega)]
set_option maxHeartbeats 1000000 in
set_option maxRecDepth 100000 in
theorem rfree_it (P : RP w x r cap fs) (f m : Nat) (he : fs.getD f 0 = f) (hl : f + m ≤ fs.length) (h1 : 1 ≤ m) (hf : ∀ k, k < fs.length → ((f ≤ k ∧ k < f + m) ↔ fs.getD k 0 = f)) : Calls Try.prog 47 #[.pointer (some ⟨x, 0, none⟩), .int .i64 f] w fun e w' => e = .returned (.int .i64 0) ∧ RP w' x r cap (fill fs f m (-1)) ∧ Kit.Mod [r] w w' := by
  have c1 := Kit.cells1 P.obj
  have c2 := P.cell f (by omega)
  rw [he] at c2
  have hs := P.small
  have HP := Lib.hid P
  have HF := Lib.hid hf
  have d0 : decide ((f : Int) < 0) = false := decide_eq_false (by omega)
  have d1 : decide ((fs.length : Int) ≤ f) = false := decide_eq_false (by omega)
  have d1' : decide (fs.length ≤ f) = false := decide_eq_false (by omega)
  have d2 : ((f : Int) != (f : Int)) = false := by simp
  clear P he hf
  go_enter Try.func47, Try.ntmps47
  go_wp2_with fail
  clear c1 c2 d0 d1 d1' d2
  go_loopg [5] fs.length (fun n i wr => ∃ j : Nat, (j ≤ fs.length ∧ n = fs.length - j) ∧ i = .int .i64 j ∧ Hid (∃ M, RP wr x r cap M ∧ Part fs M f j ∧ Kit.Mod [r] w wr))
  case atStart => exact ⟨0, ⟨Nat.zero_le _, rfl⟩, rfl, fs, HP.out, ⟨rfl, fun k _ => by rw [if_neg (by omega)]⟩, Kit.Mod.refl _ _⟩
  case round =>
    obtain ⟨j, ⟨hj, rfl⟩, rfl, H⟩ := hrel
    obtain ⟨M, PM, PT, MM⟩ := H.out
    have c1 := Kit.cells1 PM.obj
    rw [PT.1] at c1
    have HPM := Lib.hid PM
    have HPT := Lib.hid PT
    have HMM := Lib.hid MM
    clear PM PT MM H
    by_cases hlt : j < fs.length
    · have c2 := HPM.out.cell j (by rw [HPT.out.1]; exact hlt)
      rw [HPT.out.2 j hlt, if_neg (by omega)] at c2
      by_cases he : fs.getD j 0 = f
      · have f2 := HPM.out.frozen j
        have P1 := Lib.hid (HPM.out.put j (-1))
        have T1 := Lib.hid (HPT.out.yes hlt he)
        have M1 := Lib.hid (HMM.out.setCell (p := ⟨r, j, none⟩) (.inl (by simp)) (.int .i64 (-1)))
        rw [he] at c2
        have d3 : ((f : Int) == (f : Int)) = true := by simp
        clear he
        go_wp2_with fail
        go_roundg (fs.length - (j + 1))
        case measure => omega
        case rel => exact ⟨j + 1, ⟨by omega, rfl⟩, by simp, _, P1.out, T1.out, M1.out⟩
      · have T1 := Lib.hid (HPT.out.no he)
        generalize fs.getD j 0 = y at c2 he
        have d3 : (y == (f : Int)) = false := by simpa using he
        clear he
        go_wp2_with fail
        go_roundg (fs.length - (j + 1))
        case measure => omega
        case rel => exact ⟨j + 1, ⟨by omega, rfl⟩, by simp, _, HPM.out, T1.out, HMM.out⟩
    · obtain rfl : j = fs.length := by omega
      go_wp2_with fail
      go_ret
      have e := HPT.out.done hl HF.out
      exact ⟨rfl, e ▸ HPM.out, HMM.out⟩
set_option maxHeartbeats 1000000 in
set_option maxRecDepth 100000 in
theorem rleft_it (P : RP w x r cap fs) : Calls Try.prog 40 #[.pointer (some ⟨x, 0, none⟩)] w fun e w' => e = .returned (.int .i64 (cn fs fs.length : Nat)) ∧ w' = w := by
  have c1 := Kit.cells1 P.obj
  have hs := P.small
  have HP := Lib.hid P
  clear P
  go_enter Try.func40, Try.ntmps40
  go_wp2_with fail
  go_loop [3, 4] (fun c i => ∃ j n : Nat, (j ≤ fs.length ∧ n ≤ j) ∧ i = .int .i64 j ∧ c = .int .i64 n ∧ Hid (n + cn fs (fs.length - j) = cn fs fs.length)) (fun _ i => fs.length - (intOf i).toNat)
  case atStart => exact ⟨0, 0, by omega, rfl, rfl, by simp [Hid]⟩
  case round =>
    obtain ⟨j, n, hj, rfl, rfl, H⟩ := hrel
    by_cases hlt : j < fs.length
    · have c2 := HP.out.cell j hlt
      have e : fs.length - j = (fs.length - (j + 1)) + 1 := by omega
      have e2 : fs.length - (fs.length - (j + 1) + 1) = j := by omega
      by_cases hn : fs.getD j 0 < 0
      · have h2 := H.out
        rw [e, cn, e2, if_pos hn] at h2
        have H2 := Lib.hid (show n + 1 + cn fs (fs.length - (j + 1)) = cn fs fs.length by omega)
        generalize fs.getD j 0 = y at c2 hn
        have d1 : decide (y < 0) = true := decide_eq_true hn
        clear h2 H e e2
        go_wp2_with fail
        go_round
        case rel => exact ⟨j + 1, n + 1, by omega, by simp, by simp, H2⟩
        case measure => simp [intOf]; omega
      · have h2 := H.out
        rw [e, cn, e2, if_neg hn] at h2
        have H2 := Lib.hid (show n + cn fs (fs.length - (j + 1)) = cn fs fs.length by omega)
        generalize fs.getD j 0 = y at c2 hn
        have d1 : decide (y < 0) = false := decide_eq_false hn
        clear h2 H e e2
        go_wp2_with fail
        go_round
        case rel => exact ⟨j + 1, n, by omega, by simp, by simp, H2⟩
        case measure => simp [intOf]; omega
    · obtain rfl : j = fs.length := by omega
      have h2 := H.out
      rw [Nat.sub_self] at h2
      simp only [cn, Nat.add_zero] at h2
      have H2 := Lib.hid h2
      clear h2
      go_wp2_with fail
      go_ret
      exact ⟨by rw [H2.out]; rfl, rfl⟩
end
end Go.Proofs.Ytladhenjoipfpaa.Rq
