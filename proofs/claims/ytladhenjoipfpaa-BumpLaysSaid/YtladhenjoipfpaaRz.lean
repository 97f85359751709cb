/- The document's space: Used, Has, Free. No condition. -/
import Derived.Test.YtladhenjoipfpaaRy
import Derived.Test.YtladhenjoipfpaaEk
import Derived.Deep.RegionHeld3
import Derived.LoopTactic
set_option linter.unusedVariables false
set_option linter.unusedSimpArgs false
namespace Go.Proofs.Ytladhenjoipfpaa.Rz
open Go.RowKit
open Pl Rn Ov Lf Wl Gp Ct Sn Gq Tf Mt Rr Kp Sc Nn Tk La Rp Rq Mb S2 Fr Xr Rf Ry
open Ek (Rds)
section
variable {w w' : World} {x y words B : Nat} {K K' : Nat → Prop} {v : Nat → Value} {l : Nat → List Int} {bl nx en : Nat}
/-- One element of a row. -/
theorem elem (h : R3 w x y words B K v l bl nx en) (i : Nat) (hi : i < 3) (k : Nat) (hk : k < (l i).length) : ∃ g cap, v i = .slice (some ⟨g, 0, none⟩) (l i).length cap ∧ (l i).length ≤ cap ∧ cap ≤ maxLen ∧ w.cell? ⟨g, k, none⟩ = some (.int .i64 ((l i).getD k 0)) := by
  obtain ⟨g, cap, u, e, h1, h2, h3, h4⟩ := (Rds.own (h.own i hi)).at k hk
  rw [ints_get _ _ hk] at h3
  cases h3
  exact ⟨g, cap, e, h1, h2, h4⟩
theorem shape (h : R3 w x y words B K v l bl nx en) (i : Nat) (hi : i < 3) : ∃ A cap, v i = .slice A (l i).length cap := (Rds.own (h.own i hi)).shape
def sumN (rs : List (Nat × Nat)) : Nat := (rs.map (·.2)).sum
theorem sumN_take (rs : List (Nat × Nat)) (k : Nat) (h : k < rs.length) : sumN (rs.take (k + 1)) = sumN (rs.take k) + (rs.getD k (0, 0)).2 := by
  unfold sumN
  rw [List.take_add_one, List.map_append, List.sum_append, List.getD_eq_getElem?_getD]
  simp [h]
theorem sumN_le (rs : List (Nat × Nat)) (h : ∀ r ∈ rs, r.2 ≤ 4096) : sumN rs ≤ 4096 * rs.length := by
  induction rs with
  | nil => simp [sumN]
  | cons r rs ih =>
    have a := ih (fun r hr => h r (List.mem_cons_of_mem _ hr))
    have b := h r (by simp)
    simp only [sumN, List.map_cons, List.sum_cons, List.length_cons] at *
    omega
theorem sI_get (rs : List (Nat × Nat)) (k : Nat) (h : k < rs.length) : (sI rs).getD k 0 = ((rs.getD k (0, 0)).2 : Nat) := by
  simp [sI, List.getD_eq_getElem?_getD, h]
set_option maxHeartbeats 1000000 in
set_option maxRecDepth 100000 in
theorem rused_it (R : R3 w x y words B K v l bl nx en) (rs : List (Nat × Nat)) (hl : l 2 = sI rs) (h1 : rs.length ≤ 1000) (h2 : ∀ r ∈ rs, r.2 ≤ 4096) :
    Calls Try.prog 39 #[.pointer (some ⟨x, 0, none⟩)] w fun e w' => e = .returned (.int .i64 (sumN rs : Nat)) ∧ w' = w := by
  have hlen : (l 2).length = rs.length := by rw [hl]; simp [sI]
  have c5 := R.cells.2.2.1
  obtain ⟨A, cap, hv⟩ := shape R 2 (by omega)
  rw [hlen] at hv
  rw [hv] at c5
  obtain ⟨N, hN⟩ : ∃ N, N = rs.length := ⟨_, rfl⟩
  have EL := Lib.hid (show ∀ k, k < N → ∃ g, A = some ⟨g, 0, none⟩ ∧ N ≤ cap ∧ cap ≤ maxLen ∧ w.cell? ⟨g, k, none⟩ = some (.int .i64 ((rs.getD k (0, 0)).2 : Nat)) from fun k hk => by
    obtain ⟨g, cap', e, q1, q2, q3⟩ := elem R 2 (by omega) k (by omega)
    rw [hv, hlen] at e
    cases e
    rw [hl, sI_get rs k (by omega)] at q3
    exact ⟨g, rfl, by omega, q2, q3⟩)
  have HT := Lib.hid (fun k (hk : k < N) => sumN_take rs k (by omega))
  have HB := Lib.hid (fun k => Nat.le_trans (sumN_le (rs.take k) (fun r hr => h2 r (List.mem_of_mem_take hr))) (show 4096 * (rs.take k).length ≤ 4096 * 1000 by have := List.length_take_le k rs; have := List.length_take_le' k rs; omega))
  have HE := Lib.hid (show sumN (rs.take N) = sumN rs by rw [hN, List.take_length])
  have HM := Lib.hid (fun k (hk : k < N) => h2 (rs.getD k (0, 0)) (by rw [List.getD_eq_getElem?_getD]; simp [show k < rs.length by omega]))
  rw [← hN] at c5 h1
  clear R hl hlen h2 hv hN
  go_enter Try.func39, Try.ntmps39
  go_wp2_with fail
  go_loop [3, 4] (fun c i => ∃ j : Nat, j ≤ N ∧ i = .int .i64 j ∧ c = .int .i64 (sumN (rs.take j) : Nat)) (fun _ i => N - (intOf i).toNat)
  case atStart => exact ⟨0, by omega, rfl, rfl⟩
  case round =>
    obtain ⟨j, hj, rfl, rfl⟩ := hrel
    by_cases hlt : j < N
    · obtain ⟨g, rfl, q1, q2, q3⟩ := EL.out j hlt
      have q4 := HM.out j hlt
      have q5 := HB.out j
      have QT := Lib.hid (HT.out j hlt)
      generalize (rs.getD j (0, 0)).2 = z at *
      generalize sumN (rs.take j) = a at *
      have s1 : IntKind.i64.wrap ((a : Int) + z) = (a : Int) + z := IntWalk.i64_in _ (by omega)
      go_wp2_with fail
      go_round
      case rel => exact ⟨j + 1, by omega, by simp, by rw [QT.out]; simp⟩
      case measure => simp [intOf]; omega
    · obtain rfl : j = N := by omega
      go_wp2_with fail
      go_ret
      exact ⟨by rw [HE.out]; rfl, rfl⟩
theorem fI_get (rs : List (Nat × Nat)) (k : Nat) (h : k < rs.length) : (fI rs).getD k 0 = ((rs.getD k (0, 0)).1 : Nat) := by
  simp [fI, List.getD_eq_getElem?_getD, h]
set_option maxHeartbeats 1000000 in
set_option maxRecDepth 100000 in
theorem rhas_it (R : R3 w x y words B K v l bl nx en) (q : Int) (h1 : (l 1).length ≤ 1000) :
    Calls Try.prog 37 #[.pointer (some ⟨x, 0, none⟩), .int .i64 q] w fun e w' => e = .returned (.bool (decide (q ∈ l 1))) ∧ w' = w := by
  have c5 := R.cells.2.1
  obtain ⟨A, cap, hv⟩ := shape R 1 (by omega)
  rw [hv] at c5
  generalize hll : l 1 = ps at *
  obtain ⟨N, hN⟩ : ∃ N, N = ps.length := ⟨_, rfl⟩
  have EL := Lib.hid (show ∀ k, k < N → ∃ g, A = some ⟨g, 0, none⟩ ∧ N ≤ cap ∧ cap ≤ maxLen ∧ w.cell? ⟨g, k, none⟩ = some (.int .i64 (ps.getD k 0)) from fun k hk => by
    obtain ⟨g, cap', e, q1, q2, q3⟩ := elem R 1 (by omega) k (by rw [hll]; omega)
    rw [hv, hll] at e
    cases e
    rw [hll] at q3 q1
    exact ⟨g, rfl, by omega, q2, q3⟩)
  have HN := Lib.hid hN
  rw [← hN] at c5 h1
  clear R hll hv hN
  go_enter Try.func37, Try.ntmps37
  go_wp2_with fail
  go_loop [5] (fun i => ∃ j : Nat, j ≤ N ∧ i = .int .i64 j ∧ Hid (∀ k, k < j → ps.getD k 0 ≠ q)) (fun i => N - (intOf i).toNat)
  case atStart => exact ⟨0, by omega, rfl, Lib.hid (fun k hk => by omega)⟩
  case round =>
    obtain ⟨j, hj, rfl, H⟩ := hrel
    by_cases hlt : j < N
    · obtain ⟨g, rfl, q1, q2, q3⟩ := EL.out j hlt
      by_cases he : ps.getD j 0 = q
      · have HY := Lib.hid (show decide (q ∈ ps) = true from decide_eq_true (by rw [← he, List.getD_eq_getElem?_getD]; simp [show j < ps.length by rw [← HN.out]; exact hlt]))
        rw [he] at q3
        clear he H
        have e1 : (q == q) = true := by simp
        go_wp2_with fail
        go_ret
        exact ⟨by rw [HY.out]; rfl, rfl⟩
      · have HY := Lib.hid (show ∀ k, k < j + 1 → ps.getD k 0 ≠ q from fun k hk => by
          rcases Nat.lt_or_ge k j with c | c
          · exact H.out k c
          · obtain rfl : k = j := by omega
            exact he)
        generalize ps.getD j 0 = z at *
        have e1 : (z == q) = false := by simpa using he
        clear he H
        go_wp2_with fail
        go_round
        case rel => exact ⟨j + 1, by omega, by simp, HY⟩
        case measure => simp [intOf]; omega
    · obtain rfl : j = N := by omega
      have HY := Lib.hid (show decide (q ∈ ps) = false from decide_eq_false (fun c => by
        obtain ⟨k, hk, e⟩ := List.mem_iff_getElem.1 c
        refine H.out k (by rw [HN.out]; exact hk) ?_
        rw [List.getD_eq_getElem?_getD]
        simp [hk, e]))
      clear H
      go_wp2_with fail
      go_ret
      exact ⟨by rw [HY.out]; rfl, rfl⟩
end
end Go.Proofs.Ytladhenjoipfpaa.Rz
