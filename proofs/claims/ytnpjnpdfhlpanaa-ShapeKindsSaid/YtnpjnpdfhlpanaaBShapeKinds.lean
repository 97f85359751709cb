/- The law ShapeKinds answers true for every number. No condition. -/
import Derived.Test.YtnpjnpdfhlpanaaPShapeKindsx4
import Derived.Test.YtnpjnpdfhlpanaaNPShapeOver
import Derived.Test.YtnpjnpdfhlpanaaPShapeOverx
import Derived.OpenShut
import Derived.Test.YtnpjnpdfhlpanaaKit
set_option linter.unusedVariables false
set_option linter.unusedSimpArgs false
namespace Go.Proofs.Ytnpjnpdfhlpanaa.BShapeKinds
open Go.RowKit Go.WideShapes
def val (k : Int) : Bool := decide (k = 1 ∨ k = 2 ∨ k = 3 ∨ k = 4 ∨ k = 10 ∨ k = 11)
def thunk (k : Int) : Bool := decide (5 ≤ k ∧ k ≤ 7)
theorem val_it (k : Int) : PShapeKinds.shape_Value.f k = some (val k) := by
  unfold PShapeKinds.shape_Value.f val
  by_cases h1 : k = 1
  · simp [h1]
  by_cases h2 : k = 2
  · simp [h2]
  by_cases h3 : k = 3
  · simp [h3]
  by_cases h4 : k = 4
  · simp [h4]
  by_cases h5 : k = 10
  · simp [h5]
  by_cases h6 : k = 11
  · simp [h6]
  · simp [h1, h2, h3, h4, h5, h6]
theorem valRef_it (k : Int) : PShapeKinds.middenref04_Value.f k = some (val k) := by
  unfold PShapeKinds.middenref04_Value.f val
  by_cases h1 : k = 1
  · simp [h1]
  by_cases h2 : k = 2
  · simp [h2]
  by_cases h3 : k = 3
  · simp [h3]
  by_cases h4 : k = 4
  · simp [h4]
  by_cases h5 : k = 10
  · simp [h5]
  by_cases h6 : k = 11
  · simp [h6]
  · simp [h1, h2, h3, h4, h5, h6]
theorem thunk_it (k : Int) : PShapeOver.shape_Thunk.f k = some (thunk k) := by
  unfold PShapeOver.shape_Thunk.f thunk
  by_cases h : k ≥ 5
  · rw [if_pos h]; congr 1; exact decide_eq_decide.2 (by omega)
  · rw [if_neg h]; congr 1; exact (decide_eq_false (by omega)).symm
theorem apart (k : Int) : (val k && thunk k) = false := by
  unfold val thunk
  by_cases h : 5 ≤ k ∧ k ≤ 7
  · rw [decide_eq_false (by omega)]; rfl
  · rw [decide_eq_false h, Bool.and_false]
theorem law (W : World) (k : Int) : Calls Try.prog 4 #[.int .i64 k] W fun e W' => e = .returned (.bool true) ∧ Below W.heap.size W W' := by
  have C8 := fun w => PShapeOver.middenlaw04_awake.calls 20 true w NPShapeOver.awake_true
  have C13 := fun w => PShapeKinds.shape_Value.calls k _ w (val_it k)
  have C14 := fun w => PShapeKinds.middenref04_Value.calls k _ w (valRef_it k)
  have C15 := fun w => PShapeOver.shape_Thunk.calls k _ w (thunk_it k)
  have C16 := fun w => PShapeOver.middenref04_Thunk.calls k _ w (NPShapeOver.refThunk_it k)
  have ap := apart k
  change ∀ w, Calls Try.prog 16 _ w fun e w' => e = .returned (.bool (thunk k)) ∧ _ at C16
  generalize val k = v at C13 C14 ap
  generalize thunk k = t at C15 C16 ap
  go_enter Try.func4, Try.ntmps4
  go_wp2_with fail
  refine (C8 _).mono ?_; rintro e w1 ⟨rfl, b1⟩
  go_wp2_with fail
  refine (C13 _).mono ?_; rintro e w2 ⟨rfl, b2⟩
  have b2' := Kit.stepB b1 b2.below
  go_wp2_with fail
  refine (C14 _).mono ?_; rintro e w3 ⟨rfl, b3⟩
  have b3' := Kit.stepB b2' b3.below
  have vv : (v == v) = true := beq_self_eq_true v
  have tt : (t == t) = true := beq_self_eq_true t
  clear b1 b2 b3 b2'
  go_wp2_with fail
  refine (C15 _).mono ?_; rintro e w4 ⟨rfl, b4⟩
  have b4' := Kit.stepB b3' b4.below
  go_wp2_with fail
  refine (C16 _).mono ?_; rintro e w5 ⟨rfl, b5⟩
  have b5' := Kit.stepB b4' b5.below
  clear b3' b4 b4' b5
  cases v
  · go_wp2_with fail
    refine (C13 _).mono ?_; rintro e w6 ⟨rfl, b6⟩
    have b6' := Kit.stepB b5' b6.below
    go_wp2_with fail
    go_ret
    exact ⟨rfl, b6'⟩
  · obtain rfl : t = false := by simpa using ap
    go_wp2_with fail
    refine (C13 _).mono ?_; rintro e w6 ⟨rfl, b6⟩
    have b6' := Kit.stepB b5' b6.below
    go_wp2_with fail
    refine (C15 _).mono ?_; rintro e w7 ⟨rfl, b7⟩
    have b7' := Kit.stepB b6' b7.below
    go_wp2_with fail
    go_ret
    exact ⟨rfl, b7'⟩
end Go.Proofs.Ytnpjnpdfhlpanaa.BShapeKinds
