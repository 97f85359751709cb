/- The table's functions, by contracts: Get, Free, what is an address. No condition. -/
import Derived.Test.YtbjlmhkjlipnmaaTf
import Derived.StillTailTactics
set_option linter.unusedVariables false
set_option linter.unusedSimpArgs false
namespace Go.Proofs.Ytbjlmhkjlipnmaa.Tg
open Go.RowKit
open Sr Tb Tf
theorem address_it (w : World) (x : Int) : Calls Try.prog 26 #[.int .i64 x] w fun e w' => e = .returned (.bool (decide (1 ≤ x ∧ x ≤ 524288))) ∧ w' = w := by
  by_cases h1 : 1 ≤ x
  · have e1 : decide (1 ≤ x) = true := decide_eq_true h1
    rw [show decide (1 ≤ x ∧ x ≤ 524288) = decide (x ≤ 524288) by simp [h1]]
    go_enter Try.func26, Try.ntmps26
    go_wp2_with fail
    go_ret
    exact ⟨rfl, rfl⟩
  · have e1 : decide (1 ≤ x) = false := decide_eq_false h1
    rw [show decide (1 ≤ x ∧ x ≤ 524288) = false by simp [h1]]
    go_enter Try.func26, Try.ntmps26
    go_wp2_with fail
    go_ret
    exact ⟨rfl, rfl⟩
section
variable {w : World} {g r : Nat} {xs : List (Int × Int)}
theorem get_it (T : Tab w g r xs) (h : Int) (hm : h ≤ 9223372036854775807) :
    Calls Try.prog 12 #[.pointer (some ⟨g, 0, none⟩), .int .i64 h] w fun e w' => e = .returned (.tuple #[.int .i64 (if good xs h then (xs.getD (h % 256).toNat (0, 0)).1 else 0), .int .i64 (if good xs h then 0 else 60)]) ∧ w' = w := by
  have F := find_it T h hm
  by_cases hg : good xs h
  · rw [if_pos hg, if_pos hg] at F ⊢
    obtain ⟨i, hi⟩ := Int.eq_ofNat_of_zero_le (show 0 ≤ h % 256 by omega)
    rw [hi, Int.toNat_natCast]
    rw [hi] at F
    have hl : i < xs.length := by have := hg.2.1; omega
    have ct := Kit.cells1 T.tab
    obtain ⟨c1, -⟩ := Sr.cell T.row i hl
    have HF := Lib.hid F
    clear F hg
    generalize (xs.getD i (0, 0)).1 = at1 at c1 ⊢
    go_enter Try.func12, Try.ntmps12
    go_wp2_with fail
    refine HF.out.mono ?_; rintro e w' ⟨rfl, rfl⟩
    go_wp2_with fail
    go_ret2
    exact ⟨rfl, rfl⟩
  · rw [if_neg hg, if_neg hg] at F ⊢
    have HF := Lib.hid F
    clear F hg
    go_enter Try.func12, Try.ntmps12
    go_wp2_with fail
    refine HF.out.mono ?_; rintro e w' ⟨rfl, rfl⟩
    go_wp2_with fail
    go_ret2
    exact ⟨rfl, rfl⟩
/-- What a freeing leaves. -/
def freed (xs : List (Int × Int)) (h : Int) : List (Int × Int) := if good xs h then xs.set (h % 256).toNat (0, (xs.getD (h % 256).toNat (0, 0)).2 + 1) else xs
theorem free_it (T : Tab w g r xs) (h : Int) (hm : h ≤ 9223372036854775807) (ht : ∀ j, j < xs.length → 0 ≤ (xs.getD j (0, 0)).2 ∧ (xs.getD j (0, 0)).2 ≤ 1099511627776) :
    Calls Try.prog 11 #[.pointer (some ⟨g, 0, none⟩), .int .i64 h] w fun e w' => e = .returned (.int .i64 (if good xs h then 0 else 60)) ∧ Tab w' g r (freed xs h) ∧ Kit.Mod [r] w w' := by
  have F := find_it T h hm
  by_cases hg : good xs h
  · unfold freed
    rw [if_pos hg] at F ⊢
    rw [if_pos hg] at F ⊢
    obtain ⟨i, hi⟩ := Int.eq_ofNat_of_zero_le (show 0 ≤ h % 256 by omega)
    rw [hi] at F
    rw [hi, Int.toNat_natCast]
    have hl : i < xs.length := by have := hg.2.1; omega
    have ct := Kit.cells1 T.tab
    obtain ⟨c1, c2⟩ := Sr.cell T.row i hl
    have f1 := Sr.frozen T.row (i * 2)
    have f2 := Sr.frozen T.row (i * 2 + 1)
    have b := ht i hl
    have HF := Lib.hid F
    have HT := Lib.hid T
    have HH := Lib.hid ht
    clear F hg T ht
    generalize (xs.getD i (0, 0)).1 = at1 at c1
    obtain ⟨tn, htn⟩ : ∃ tn, tn = (xs.getD i (0, 0)).2 := ⟨_, rfl⟩
    rw [← htn] at c2 b ⊢
    have s1 : IntKind.i64.wrap (tn + 1) = tn + 1 := IntWalk.i64_in _ (by omega)
    have HN := Lib.hid htn
    clear htn
    go_enter Try.func11, Try.ntmps11
    go_wp2_with fail
    refine HF.out.mono ?_; rintro e w' ⟨rfl, rfl⟩
    go_wp2_with fail
    go_still_tail 16, (by kernel_rfl)
    change wpList _ _ _ _ _ w'.drew
    have T2 : Tab w'.drew g r xs := ⟨HT.out.tab, HT.out.row, HT.out.ne, HT.out.short⟩
    have hm : Kit.Mod [r] w' w'.drew := (Kit.Mod.refl _ _).drew
    clear HT ct c1 c2 f1 f2 HF
    generalize w'.drew = w2 at T2 hm ⊢
    have f1 := Sr.frozen T2.row (i * 2)
    have f2 := Sr.frozen T2.row (i * 2 + 1)
    obtain ⟨c1, c2⟩ := Sr.cell T2.row i hl
    have H2 := Lib.hid T2
    have HM := Lib.hid hm
    clear T2 hm s1 b
    go_wp2_with fail
    go_ret
    exact ⟨rfl, H2.out.put12 i hl 0 (tn + 1), (HM.out.setCell (.inl (by simp)) _).setCell (.inl (by simp)) _⟩
  · unfold freed
    rw [if_neg hg] at F ⊢
    rw [if_neg hg] at F ⊢
    have HF := Lib.hid F
    clear F hg
    go_enter Try.func11, Try.ntmps11
    go_wp2_with fail
    refine HF.out.mono ?_; rintro e w' ⟨rfl, rfl⟩
    go_wp2_with fail
    go_ret
    exact ⟨rfl, T, Kit.Mod.refl _ _⟩
end
end Go.Proofs.Ytbjlmhkjlipnmaa.Tg
