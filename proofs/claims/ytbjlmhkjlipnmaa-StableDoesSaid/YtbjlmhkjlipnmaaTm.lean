/- Make: a free slot is taken, if there is one. No condition. -/
import Derived.Test.YtbjlmhkjlipnmaaTg
set_option linter.unusedVariables false
set_option linter.unusedSimpArgs false
namespace Go.Proofs.Ytbjlmhkjlipnmaa.Tm
open Go.RowKit
open Sr Tb Tf Tg
/-- The first free slot. -/
def slot (xs : List (Int × Int)) : Nat := xs.findIdx fun p => p.1 == 0
section
variable {w : World} {g r : Nat} {xs : List (Int × Int)}
theorem make_bad (T : Tab w g r xs) (x : Int) (hx : ¬ (1 ≤ x ∧ x ≤ 524288)) :
    Calls Try.prog 10 #[.pointer (some ⟨g, 0, none⟩), .int .i64 x] w fun e w' => e = .returned (.tuple #[.int .i64 0, .int .i64 4]) ∧ w' = w := by
  have A := address_it w x
  rw [decide_eq_false hx] at A
  have HA := Lib.hid A
  clear A
  go_enter Try.func10, Try.ntmps10
  go_wp2_with fail
  refine HA.out.mono ?_; rintro e w' ⟨rfl, rfl⟩
  go_wp2_with fail
  go_ret2
  exact ⟨rfl, rfl⟩
theorem make_in (T : Tab w g r xs) (x : Int) (hx : 1 ≤ x ∧ x ≤ 524288) (ht : ∀ j, j < xs.length → 0 ≤ (xs.getD j (0, 0)).2 ∧ (xs.getD j (0, 0)).2 ≤ 1099511627776) (k : Nat) (hk : k ≤ xs.length) (hb : ∀ i, i < k → (xs.getD i (0, 0)).1 ≠ 0) (hf : k < xs.length → (xs.getD k (0, 0)).1 = 0) :
    Calls Try.prog 10 #[.pointer (some ⟨g, 0, none⟩), .int .i64 x] w fun e w' => Kit.Mod [r] w w' ∧ if k < xs.length then e = .returned (.tuple #[.int .i64 ((xs.getD k (0, 0)).2 * 256 + k), .int .i64 0]) ∧ Tab w' g r (xs.set k (x, (xs.getD k (0, 0)).2)) else e = .returned (.tuple #[.int .i64 0, .int .i64 5]) ∧ Tab w' g r xs := by
  have A := address_it w x
  rw [decide_eq_true hx] at A
  have HA := Lib.hid A
  have ct := Kit.cells1 T.tab
  have HT := Lib.hid T
  have HH := Lib.hid ht
  have HB := Lib.hid hb
  have HF := Lib.hid hf
  have hs := T.short
  obtain ⟨tn, htn⟩ : ∃ t, t = (xs.getD k (0, 0)).2 := ⟨_, rfl⟩
  rw [← htn]
  have HN := Lib.hid htn
  clear A T ht hb hf htn
  go_enter Try.func10, Try.ntmps10
  go_wp2_with fail
  refine HA.out.mono ?_; rintro e w' ⟨rfl, rfl⟩
  go_wp2_with fail
  go_loopw [18] (fun c wr => ∃ j : Nat, j ≤ k ∧ c = .int .i64 j ∧ Hid (Below w'.heap.size w' wr)) (fun c _ => xs.length - (intOf c).toNat)
  case atStart => exact ⟨0, Nat.zero_le _, rfl, Below.refl _ _⟩
  case round =>
    obtain ⟨j, hj, rfl, H⟩ := hrel
    by_cases hlt : j < xs.length
    · have TR := HT.out.keepB H.out
      have cr := Kit.cells1 TR.tab
      obtain ⟨c1, c2⟩ := Sr.cell TR.row j hlt
      have ff := Sr.frozen TR.row (j * 2)
      have b := HH.out j hlt
      by_cases hjk : j = k
      · subst hjk
        rw [HF.out hlt] at c1
        rw [← HN.out] at c2 b
        have TA := TR.keepB (Kit.allocB (Below.refl wr.heap.size wr) (.cells #[.int .i64 0, .int .i64 tn] 54 (0, 0)))
        have da := Kit.cells1 TA.tab
        have db := (Sr.cell TA.row j hlt).1
        have df := Sr.frozen TA.row (j * 2)
        have HTR := Lib.hid TA
        clear TA
        clear TR
        have s1 : IntKind.i64.wrap (tn * 256) = tn * 256 := IntWalk.i64_in _ (by omega)
        have s2 : IntKind.i64.wrap (tn * 256 + j) = tn * 256 + j := IntWalk.i64_in _ (by omega)
        go_wp2_with fail
        go_ret2
        refine ⟨?_, ?_⟩
        · exact ((Kit.Mod.of_below (Kit.allocB H.out _)).setCell (.inl (by simp)) _)
        · refine ⟨rfl, ?_⟩
          have := HTR.out.put1 j hlt x
          rw [← HN.out] at this
          exact this
      · have hne := HB.out j (by omega)
        have e1 : ((xs.getD j (0, 0)).1 == 0) = false := by simpa using hne
        generalize (xs.getD j (0, 0)).1 = at1 at c1 e1 hne
        generalize (xs.getD j (0, 0)).2 = tj at c2 b
        have e2 : (at1 = 0) = False := eq_false hne
        clear TR
        go_wp2_with fail
        go_roundw
        case rel => exact ⟨j + 1, by omega, by simp, Kit.allocB H.out _⟩
        case measure => simp [intOf]; omega
    · obtain rfl : j = k := by omega
      go_wp2_with fail
      go_ret2
      refine ⟨Kit.Mod.of_below H.out, ?_⟩

      exact ⟨rfl, HT.out.keepB H.out⟩
end
end Go.Proofs.Ytbjlmhkjlipnmaa.Tm
