/- All and Len: the addresses that are taken, in order. No condition. -/
import Derived.Test.YtbjlmhkjlipnmaaTm
set_option linter.unusedVariables false
set_option linter.unusedSimpArgs false
namespace Go.Proofs.Ytbjlmhkjlipnmaa.Ta
open Go.RowKit
open Sr Tb Tf Tg
/-- The addresses that are taken. -/
def live (xs : List (Int × Int)) : List Int := (xs.filter fun p => p.1 != 0).map (·.1)
def ints (l : List Int) : List Value := l.map (Value.int .i64)
theorem live_take (xs : List (Int × Int)) (j : Nat) (h : j < xs.length) : live (xs.take (j + 1)) = live (xs.take j) ++ (if (xs.getD j (0, 0)).1 = 0 then [] else [(xs.getD j (0, 0)).1]) := by
  rw [List.take_succ_eq_append_getElem h]
  unfold live
  rw [List.filter_append, List.map_append]
  simp only [List.getD_eq_getElem?_getD, List.getElem?_eq_getElem h, Option.getD_some]
  by_cases e : xs[j].1 = 0
  · simp [e]
  · simp [e]
theorem live_length (xs : List (Int × Int)) (j : Nat) : (live (xs.take j)).length ≤ j := by
  unfold live
  rw [List.length_map]
  exact Nat.le_trans (List.length_filter_le _ _) (by simp; omega)
section
variable {w : World} {g r : Nat} {xs : List (Int × Int)}
theorem all_it (T : Tab w g r xs) :
    Calls Try.prog 23 #[.pointer (some ⟨g, 0, none⟩)] w fun e w' => ∃ v, e = .returned v ∧ w'.ownsRow w.heap.size 3 1 v (live xs).length (ints (live xs)) ∧ Below w.heap.size w w' := by
  obtain ⟨i0, hi, hz0, hz1, hz2⟩ := info_parts info3
  have ct := Kit.cells1 T.tab
  have HT := Lib.hid T
  have hs := T.short
  clear T
  obtain ⟨L, hL⟩ : ∃ L, L = live xs := ⟨_, rfl⟩
  rw [← hL]
  have HL := Lib.hid hL
  clear hL
  go_enter Try.func23, Try.ntmps23
  go_wp2_with fail
  go_loopw [3, 14] (fun v c wr => ∃ j : Nat, j ≤ xs.length ∧ c = .int .i64 j ∧ Hid (wr.ownsRow w.heap.size 3 1 v (live (xs.take j)).length (ints (live (xs.take j)))) ∧ Hid (Below w.heap.size w wr)) (fun _ c _ => xs.length - (intOf c).toNat)
  case atStart => exact ⟨0, Nat.zero_le _, rfl, Lib.hid (by rw [List.take_zero]; exact World.ownsRow_nil _ _ _ _), Below.refl _ _⟩
  case round =>
    obtain ⟨j, hj, rfl, O, H⟩ := hrel
    by_cases hlt : j < xs.length
    · have TR := HT.out.keepB H.out
      have cr := Kit.cells1 TR.tab
      obtain ⟨c1, c2⟩ := Sr.cell TR.row j hlt
      have hlv := live_take xs j hlt
      have hll := live_length xs j
      have hsz := H.out.size
      generalize (xs.getD j (0, 0)).2 = tn at c2
      generalize (xs.getD j (0, 0)).1 = at1 at c1 hlv
      generalize live (xs.take j) = l at O hlv hll
      clear TR
      by_cases e : at1 = 0
      · subst e
        rw [if_pos rfl, List.append_nil] at hlv
        have HV := Lib.hid hlv
        clear hlv
        go_wp2_with fail
        go_roundw
        case rel => exact ⟨j + 1, by omega, by simp, by rw [HV.out]; exact O.out.alloc _, Kit.allocB H.out _⟩
        case measure => simp [intOf]; omega
      · have e1 : (at1 != 0) = true := by simp [e]
        have e2 : (at1 = 0) = False := eq_false e
        rw [if_neg e] at hlv
        have HV := Lib.hid hlv
        clear hlv
        go_wp2_with (at_builtin; go_loud (refine wpList_append_own _ rfl _ _ 28 rfl w.heap.size 3 i0 (.int .i64 0) 1 8 Try.underlying28 hi hz0 hz1 hz2 rfl (by decide) _ _ _ rfl ((O.out.alloc _).alloc _) ⟨wr.heap.size + 1, 0, none⟩ 1 1 [.int .i64 at1] rfl rfl (fun k u hk => by have := cell_one_new (wr.alloc (.cells #[.int .i64 at1, .int .i64 tn] 54 (0, 0))) (.int .i64 at1) 3 k u hk; simpa using this) (fun x hx => by simp at hx; subst hx; rfl) (by unfold maxLen; omega) (by omega) (by simp; omega) ?_))
        intro v' w2 hown' hgrow _
        have hB : Below w.heap.size w w2 := (Kit.allocB (Kit.allocB H.out _) _).grown hgrow (by simp; omega) (fun k h => (O.out.lt k h).1)
        have hO : w2.ownsRow w.heap.size 3 1 v' (live (xs.take (j + 1))).length (ints (live (xs.take (j + 1)))) := by
          rw [HV.out]
          simpa [ints] using hown'
        have HO := Lib.hid hO
        have HB := Lib.hid hB
        clear hown' hgrow hO hB
        go_wp2_with fail
        go_roundw
        case rel => exact ⟨j + 1, by omega, by simp, HO, HB⟩
        case measure => simp [intOf]; omega
    · obtain rfl : j = xs.length := by omega
      rw [List.take_length, ← HL.out] at O
      go_wp2_with fail
      go_ret
      exact ⟨_, rfl, O.out, H.out⟩
theorem shape_of {w : World} {b : Nat} {v : Value} {c : Nat} {ys : List Value} (h : w.ownsRow b 3 1 v c ys) : ∃ a cp, v = .slice a c cp := by
  rcases h.2 with ⟨rfl, rfl⟩ | ⟨g, cap, cur, rfl, hb, _⟩
  · exact ⟨_, _, rfl⟩
  · exact ⟨_, _, rfl⟩
theorem len_it (T : Tab w g r xs) :
    Calls Try.prog 13 #[.pointer (some ⟨g, 0, none⟩)] w fun e w' => e = .returned (.int .i64 ((live xs).length : Nat)) ∧ Below w.heap.size w w' := by
  have A := Lib.hid (all_it T)
  generalize live xs = L at A ⊢
  go_enter Try.func13, Try.ntmps13
  go_wp2_with fail
  refine A.out.mono ?_; rintro e w1 ⟨v, rfl, ho, hb⟩
  obtain ⟨a, cp, rfl⟩ := shape_of ho
  go_wp2_with fail
  go_ret
  exact ⟨rfl, hb⟩
end
end Go.Proofs.Ytbjlmhkjlipnmaa.Ta
