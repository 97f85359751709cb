/- The table's functions that read, by contracts. No condition. -/
import Derived.Test.YtbjlmhkjlipnmaaTb
set_option linter.unusedVariables false
set_option linter.unusedSimpArgs false
namespace Go.Proofs.Ytbjlmhkjlipnmaa.Tf
open Go.RowKit
open Sr Tb
/-- A handle that is somebody's. -/
def good (xs : List (Int × Int)) (h : Int) : Prop := 0 ≤ h ∧ h % 256 < xs.length ∧ (xs.getD (h % 256).toNat (0, 0)).1 ≠ 0 ∧ (xs.getD (h % 256).toNat (0, 0)).2 = h / 256
instance (xs : List (Int × Int)) (h : Int) : Decidable (good xs h) := by unfold good; infer_instance
section
variable {w : World} {g r : Nat} {xs : List (Int × Int)}
theorem find_good (T : Tab w g r xs) (h : Int) (hm : h ≤ 9223372036854775807) (i : Nat) (hi : h % 256 = i) (hg : good xs h) :
    Calls Try.prog 27 #[.pointer (some ⟨g, 0, none⟩), .int .i64 h] w fun e w' => e = .returned (.tuple #[.int .i64 i, .int .i64 0]) ∧ w' = w := by
  obtain ⟨h0, h1, h2, h3⟩ := hg
  rw [hi] at h1 h2 h3
  rw [Int.toNat_natCast] at h2 h3
  have ct := Kit.cells1 T.tab
  have cc := Sr.cell T.row i (by omega)
  rw [h3] at cc
  obtain ⟨c1, c2⟩ := cc
  have e1 : h.tmod 256 = (i : Int) := by rw [Int.tmod_eq_emod_of_nonneg h0]; exact hi
  have e2 : h.tdiv 256 = h / 256 := Int.tdiv_eq_ediv_of_nonneg h0
  have e3 : ((xs.getD i (0, 0)).1 == 0) = false := by simpa using h2
  have e4 : decide (h < 0) = false := decide_eq_false (by omega)
  have e7 : decide (xs.length ≤ i) = false := decide_eq_false (by omega)
  have e8 : wrap64 (h / 256) = h / 256 := by unfold wrap64; omega
  have e6 : ((h / 256) != (h / 256)) = false := by simp
  generalize (xs.getD i (0, 0)).1 = at1 at c1 e3
  generalize h / 256 = q at c2 e2 e6 e8
  clear h2 h3
  go_enter Try.func27, Try.ntmps27
  go_wp2_with fail
  go_ret2
  exact ⟨rfl, rfl⟩
theorem find_neg (T : Tab w g r xs) (h : Int) (h0 : h < 0) :
    Calls Try.prog 27 #[.pointer (some ⟨g, 0, none⟩), .int .i64 h] w fun e w' => e = .returned (.tuple #[.int .i64 0, .int .i64 60]) ∧ w' = w := by
  have e4 : decide (h < 0) = true := decide_eq_true (by omega)
  go_enter Try.func27, Try.ntmps27
  go_wp2_with fail
  go_ret2
  exact ⟨rfl, rfl⟩
theorem find_far (T : Tab w g r xs) (h : Int) (h0 : 0 ≤ h) (i : Nat) (hi : h % 256 = i) (hg : xs.length ≤ i) :
    Calls Try.prog 27 #[.pointer (some ⟨g, 0, none⟩), .int .i64 h] w fun e w' => e = .returned (.tuple #[.int .i64 0, .int .i64 60]) ∧ w' = w := by
  have ct := Kit.cells1 T.tab
  have e1 : h.tmod 256 = (i : Int) := by rw [Int.tmod_eq_emod_of_nonneg h0]; exact hi
  have e4 : decide (h < 0) = false := decide_eq_false (by omega)
  have e7 : decide (xs.length ≤ i) = true := decide_eq_true hg
  go_enter Try.func27, Try.ntmps27
  go_wp2_with fail
  go_ret2
  exact ⟨rfl, rfl⟩
theorem find_free (T : Tab w g r xs) (h : Int) (h0 : 0 ≤ h) (i : Nat) (hi : h % 256 = i) (hl : i < xs.length) (hz : (xs.getD i (0, 0)).1 = 0) :
    Calls Try.prog 27 #[.pointer (some ⟨g, 0, none⟩), .int .i64 h] w fun e w' => e = .returned (.tuple #[.int .i64 0, .int .i64 60]) ∧ w' = w := by
  have ct := Kit.cells1 T.tab
  obtain ⟨c1, -⟩ := Sr.cell T.row i hl
  rw [hz] at c1
  have e1 : h.tmod 256 = (i : Int) := by rw [Int.tmod_eq_emod_of_nonneg h0]; exact hi
  have e4 : decide (h < 0) = false := decide_eq_false (by omega)
  have e7 : decide (xs.length ≤ i) = false := decide_eq_false (by omega)
  clear hz
  go_enter Try.func27, Try.ntmps27
  go_wp2_with fail
  go_ret2
  exact ⟨rfl, rfl⟩
theorem find_old (T : Tab w g r xs) (h : Int) (hm : h ≤ 9223372036854775807) (h0 : 0 ≤ h) (i : Nat) (hi : h % 256 = i) (hl : i < xs.length) (hz : (xs.getD i (0, 0)).1 ≠ 0) (ht : (xs.getD i (0, 0)).2 ≠ h / 256) :
    Calls Try.prog 27 #[.pointer (some ⟨g, 0, none⟩), .int .i64 h] w fun e w' => e = .returned (.tuple #[.int .i64 0, .int .i64 60]) ∧ w' = w := by
  have ct := Kit.cells1 T.tab
  obtain ⟨c1, c2⟩ := Sr.cell T.row i hl
  have e1 : h.tmod 256 = (i : Int) := by rw [Int.tmod_eq_emod_of_nonneg h0]; exact hi
  have e2 : h.tdiv 256 = h / 256 := Int.tdiv_eq_ediv_of_nonneg h0
  have e3 : ((xs.getD i (0, 0)).1 == 0) = false := by simpa using hz
  have e4 : decide (h < 0) = false := decide_eq_false (by omega)
  have e7 : decide (xs.length ≤ i) = false := decide_eq_false (by omega)
  have e8 : wrap64 (h / 256) = h / 256 := by unfold wrap64; omega
  have e6 : ((xs.getD i (0, 0)).2 != (h / 256)) = true := by simpa using ht
  generalize (xs.getD i (0, 0)).1 = at1 at c1 e3
  generalize (xs.getD i (0, 0)).2 = tn at c2 e6
  generalize h / 256 = q at e2 e6 e8
  clear hz ht
  go_enter Try.func27, Try.ntmps27
  go_wp2_with fail
  go_ret2
  exact ⟨rfl, rfl⟩
theorem find_it (T : Tab w g r xs) (h : Int) (hm : h ≤ 9223372036854775807) :
    Calls Try.prog 27 #[.pointer (some ⟨g, 0, none⟩), .int .i64 h] w fun e w' => e = .returned (.tuple #[.int .i64 (if good xs h then h % 256 else 0), .int .i64 (if good xs h then 0 else 60)]) ∧ w' = w := by
  by_cases hg : good xs h
  · rw [if_pos hg, if_pos hg]
    obtain ⟨i, hi⟩ := Int.eq_ofNat_of_zero_le (show 0 ≤ h % 256 by omega)
    rw [hi]
    exact find_good T h hm i hi hg
  · rw [if_neg hg, if_neg hg]
    by_cases h0 : 0 ≤ h
    · obtain ⟨i, hi⟩ := Int.eq_ofNat_of_zero_le (show 0 ≤ h % 256 by omega)
      by_cases hl : i < xs.length
      · by_cases hz : (xs.getD i (0, 0)).1 = 0
        · exact find_free T h h0 i hi hl hz
        · refine find_old T h hm h0 i hi hl hz (fun ht => hg ⟨h0, by omega, ?_, ?_⟩)
          · rw [hi, Int.toNat_natCast]; exact hz
          · rw [hi, Int.toNat_natCast]; exact ht
      · exact find_far T h h0 i hi (by omega)
    · exact find_neg T h (by omega)
end
end Go.Proofs.Ytbjlmhkjlipnmaa.Tf
