/- What must come at any rate. No condition. -/
import Derived.Test.YtbjlmhkjlipnmaaTp
set_option linter.unusedVariables false
set_option linter.unusedSimpArgs false
namespace Go.Proofs.Ytbjlmhkjlipnmaa.Aw
open Go.RowKit
open Sr Tb Tf Tg Tm Ta
theorem awake_it (w : World) : Calls Try.prog 9 #[] w fun e w' => e = .returned (.bool true) ∧ Below w.heap.size w w' := by
  have A := Lib.hid (new_it w 2 (by decide) (by decide))
  go_enter Try.func9, Try.ntmps9
  go_wp2_with fail
  refine A.out.mono ?_; rintro e w1 ⟨g, r, rfl, T1, hg, hr, b1⟩
  have M := Lib.hid (make_in T1 5 (by decide) (by decide) 0 (by decide) (by intro i h; omega) (by intro _; rfl))
  have B1 := Lib.hid b1
  clear T1 b1
  go_wp2_with fail
  refine M.out.mono ?_; rintro e w2 ⟨m2, h2⟩
  rw [if_pos (by decide)] at h2
  obtain ⟨rfl, T2⟩ := h2
  have B2 := Lib.hid (Kit.step1 B1.out m2 hr)
  have G := get_it T2 256 (by decide)
  rw [if_pos (by decide), if_pos (by decide)] at G
  have HG := Lib.hid G
  have L := Lib.hid (len_it T2)
  clear m2 T2 G M A B1
  go_wp2_with fail
  refine HG.out.mono ?_; rintro e w3 ⟨rfl, rfl⟩
  go_wp2_with fail
  refine L.out.mono ?_; rintro e w4 ⟨rfl, b4⟩
  have B4 := Kit.stepB B2.out b4
  clear b4 L HG
  go_wp2_with fail
  go_ret
  exact ⟨by first | rfl | decide, B4⟩
end Go.Proofs.Ytbjlmhkjlipnmaa.Aw
