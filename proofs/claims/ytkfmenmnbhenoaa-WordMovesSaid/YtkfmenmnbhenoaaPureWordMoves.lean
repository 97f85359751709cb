/- For every 64-bit number at and every 64-bit word w, the law WordMoves tells true: every address's word, and the address of every word. No condition. -/
import Derived.Test.YtkfmenmnbhenoaaPWordMovesx2
import Derived.OpenShut
namespace Go.Proofs.Ytkfmenmnbhenoaa.Pure
open Go.RowKit Go.Proofs.Ytkfmenmnbhenoaa.PWordMoves Go.Proofs.YtkfmenmnbhenoaaW.PrintWords Go.Proofs.YtkfmenmnbhenoaaW.PrintLast

theorem awake_true : middenlaw01_awake.f 5 = some true := by decide +kernel
theorem u64_wrap (n : Int) : IntKind.u64.wrap n = n % 18446744073709551616 := by
  simp [IntKind.wrap, IntKind.signed, IntKind.bits]
theorem p64 : (2 : Int) ^ 64 = 18446744073709551616 := by decide +kernel
theorem and_one (x : Int) (h0 : 0 ≤ x) (h1 : x ≤ 18446744073709551615) : Go.bits .and .u64 x 1 = x % 2 := by
  have := bits_mask .u64 64 (by decide) (fun n h0 h1 => by rw [p64] at h1; rw [u64_wrap]; omega) 1 (by decide) x h0 (by rw [p64]; omega)
  simpa using this

/-- What reading an address comes to. -/
def moved (w : Int) : Int × Bool := if w % 2 = 1 ∨ w = 0 ∨ 1048576 < w then (0, false) else (w / 2, true)
theorem moved_it (w : Int) (h0 : 0 ≤ w) (h1 : w ≤ 18446744073709551615) : word_Moved.f w = some (moved w) := by
  unfold word_Moved.f moved
  rw [and_one w h0 h1]
  by_cases c1 : w % 2 = 0
  · rw [if_pos c1]
    by_cases c2 : w = 0
    · rw [if_pos c2, if_pos (by omega)]
    · rw [if_neg c2]
      by_cases c3 : w > 1048576
      · rw [if_pos c3, if_pos (by omega)]
      · rw [if_neg c3, if_neg (by omega), show wrap64 (w / 2) = w / 2 by unfold wrap64; omega]
  · rw [if_neg c1, if_pos (by omega)]
theorem ref_it (w : Int) (h0 : 0 ≤ w) (h1 : w ≤ 18446744073709551615) : middenref01_Moved.f w = some (moved w) := by
  unfold middenref01_Moved.f moved
  rw [Int.tmod_eq_emod_of_nonneg h0, Int.tdiv_eq_ediv_of_nonneg h0]
  by_cases c1 : w % 2 = 1
  · rw [if_pos c1, if_pos (by omega)]
  · rw [if_neg c1]
    by_cases c2 : w < 2
    · rw [if_pos c2, if_pos (by omega)]
    · rw [if_neg c2]
      by_cases c3 : w > 1048576
      · rw [if_pos c3, if_pos (by omega)]
      · rw [if_neg c3, if_neg (by omega), u64_wrap, show wrap64 (w / 2 % 18446744073709551616) = w / 2 by unfold wrap64; omega]

theorem WordMoves : middenlaw01_WordMoves.Pure := by
  intro a w ha hw
  have b0 := bounds_i64 ha
  have b1 := bounds_u64 hw
  refine ⟨5, ?_⟩
  unfold middenlaw01_WordMoves.f word_Forward.f
  by_cases c : a < 1 ∨ 524288 < a
  · have e : (if a < 1 then some ((0 : Int), (4 : Int)) else if a > 524288 then some (0, 4) else some (IntKind.u64.wrap (IntKind.u64.wrap a * 2), 0)) = some (0, 4) := by
      by_cases d : a < 1
      · rw [if_pos d]
      · rw [if_neg d, if_pos (by omega)]
    rw [e, moved_it w b1.1 b1.2, ref_it w b1.1 b1.2, awake_true]
    simp only [Option.bind_some, if_true, bne_self_eq_false, middenlaw01_WordMoves.j0]
    rw [if_neg (by decide)]
    by_cases d : a < 1
    · rw [if_pos d]; rfl
    · rw [if_neg d, if_pos (by omega)]; rfl
  · have e0 : IntKind.u64.wrap a = a := by rw [u64_wrap]; omega
    have e1 : IntKind.u64.wrap (a * 2) = a * 2 := by rw [u64_wrap]; omega
    have e2 : IntKind.u64.wrap (2 * a) = a * 2 := by rw [u64_wrap]; omega
    have e3 : moved (a * 2) = (a, true) := by unfold moved; rw [if_neg (by omega)]; congr 1; omega
    rw [if_neg (by omega), if_neg (by omega), moved_it w b1.1 b1.2, ref_it w b1.1 b1.2, awake_true, e0, e1]
    simp only [Option.bind_some, if_true, bne_self_eq_false, middenlaw01_WordMoves.j0]
    rw [if_neg (by decide), if_neg (by omega), if_neg (by omega), moved_it (a * 2) (by omega) (by omega), e0, e2, e3]
    simp

end Go.Proofs.Ytkfmenmnbhenoaa.Pure
