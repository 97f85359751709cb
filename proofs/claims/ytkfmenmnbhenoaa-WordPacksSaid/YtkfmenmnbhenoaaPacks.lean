/- For every header h (all four fields any 64-bit numbers), the law WordPacks tells true: the program's word of h, or its error, is the document's. No condition. -/
import Derived.Test.YtkfmenmnbhenoaaPWordPacksx
import Derived.OpenShut
import Derived.Lib.SmallJoins
import Derived.ProofKit
namespace Go.Proofs.Ytkfmenmnbhenoaa.Packs
open Go.RowKit Go.Proofs.Ytkfmenmnbhenoaa.PWordPacks Go.Proofs.YtkfmenmnbhenoaaW.PrintWords Go.Proofs.YtkfmenmnbhenoaaW.PrintLast

theorem awake_true : middenlaw01_awake.f 5 = some true := by decide +kernel
theorem u64_wrap (n : Int) : IntKind.u64.wrap n = n % 18446744073709551616 := by
  simp [IntKind.wrap, IntKind.signed, IntKind.bits]
theorem u64_wrap_in (n : Int) (h0 : 0 ≤ n) (h1 : n < 18446744073709551616) : IntKind.u64.wrap n = n := by
  rw [u64_wrap]; omega

theorem p64 : (2 : Int) ^ 64 = 18446744073709551616 := by decide +kernel
theorem or_comm (x y : Int) : Go.bits .or .u64 x y = Go.bits .or .u64 y x := by
  unfold Go.bits
  simp only [BitVec.or_comm]
theorem or_join (i : Nat) (hi : i ≤ 64) (x y : Int) (hx : 0 ≤ x) (hx1 : x < 2 ^ i) (hy : 0 ≤ y) (hy1 : y % 2 ^ i = 0) (hy2 : y < 18446744073709551616) :
    Go.bits .or .u64 x y = x + y := by
  have h2 : (2 : Int) ^ i ≤ 2 ^ 64 := by
    have : (2 : Nat) ^ i ≤ 2 ^ 64 := Nat.pow_le_pow_right (by decide) hi
    exact_mod_cast this
  have h3 := bits_join .u64 64 (by decide) (fun n h0 h1 => u64_wrap_in n h0 (by rw [← p64]; exact h1)) i y x hy hy1 (by rw [p64]; exact hy2) hx hx1 (by omega)
  rw [or_comm, h3]
  omega

/-- What the header's word is. -/
theorem bits_sum (a b c d : Int) (ha : 0 ≤ a) (ha1 : a < 16) (hc : 0 ≤ c) (hc1 : c < 4096) (hd : 0 ≤ d) (hd1 : d < 4096) (hb : 0 ≤ b) (hb1 : b < 1048576) :
    Go.bits .or .u64 (Go.bits .or .u64 (Go.bits .or .u64 (Go.bits .or .u64 1 (IntKind.u64.wrap ((IntKind.u64.wrap a) * 2))) (IntKind.u64.wrap ((IntKind.u64.wrap c) * 32))) (IntKind.u64.wrap ((IntKind.u64.wrap d) * 131072))) (IntKind.u64.wrap ((IntKind.u64.wrap b) * 536870912))
      = 1 + a * 2 + c * 32 + d * 131072 + b * 536870912 := by
  rw [u64_wrap_in a ha (by omega), u64_wrap_in b hb (by omega), u64_wrap_in c hc (by omega), u64_wrap_in d hd (by omega)]
  rw [u64_wrap_in (a * 2) (by omega) (by omega), u64_wrap_in (b * 536870912) (by omega) (by omega), u64_wrap_in (c * 32) (by omega) (by omega), u64_wrap_in (d * 131072) (by omega) (by omega)]
  rw [or_join 1 (by decide) 1 (a * 2) (by omega) (by omega) (by omega) (by omega) (by omega)]
  rw [or_join 5 (by decide) _ (c * 32) (by omega) (by omega) (by omega) (by omega) (by omega)]
  rw [or_join 17 (by decide) _ (d * 131072) (by omega) (by omega) (by omega) (by omega) (by omega)]
  rw [or_join 29 (by decide) _ (b * 536870912) (by omega) (by omega) (by omega) (by omega) (by omega)]
theorem ref_sum (a b c d : Int) (ha : 0 ≤ a) (ha1 : a < 16) (hc : 0 ≤ c) (hc1 : c < 4096) (hd : 0 ≤ d) (hd1 : d < 4096) (hb : 0 ≤ b) (hb1 : b < 1048576) :
    (IntKind.u64.wrap ((IntKind.u64.wrap ((IntKind.u64.wrap ((IntKind.u64.wrap (1 + (IntKind.u64.wrap (2 * (IntKind.u64.wrap a))))) + (IntKind.u64.wrap (32 * (IntKind.u64.wrap c))))) + (IntKind.u64.wrap (131072 * (IntKind.u64.wrap d))))) + (IntKind.u64.wrap (536870912 * (IntKind.u64.wrap b)))))
      = 1 + a * 2 + c * 32 + d * 131072 + b * 536870912 := by
  rw [u64_wrap_in a ha (by omega), u64_wrap_in b hb (by omega), u64_wrap_in c hc (by omega), u64_wrap_in d hd (by omega)]
  rw [u64_wrap_in (2 * a) (by omega) (by omega), u64_wrap_in (536870912 * b) (by omega) (by omega), u64_wrap_in (32 * c) (by omega) (by omega), u64_wrap_in (131072 * d) (by omega) (by omega)]
  rw [u64_wrap_in (1 + 2 * a) (by omega) (by omega), u64_wrap_in (1 + 2 * a + 32 * c) (by omega) (by omega), u64_wrap_in (1 + 2 * a + 32 * c + 131072 * d) (by omega) (by omega), u64_wrap_in _ (by omega) (by omega)]
  omega

/-- What packing comes to, here and there: kind a, info b, pointers c, others d. -/
def pack (a b c d : Int) : Int × Int :=
  if a < 1 ∨ 12 < a then (0, 6) else if c < 0 ∨ d < 0 ∨ 4095 < c ∨ 4095 < c + d then (0, 7) else if b < 0 ∨ 1048575 < b then (0, 2) else (1 + a * 2 + c * 32 + d * 131072 + b * 536870912, 0)

theorem pack_it (a b c d : Int) (ha : -9223372036854775808 ≤ a ∧ a ≤ 9223372036854775807) (hb : -9223372036854775808 ≤ b ∧ b ≤ 9223372036854775807) (hc : -9223372036854775808 ≤ c ∧ c ≤ 9223372036854775807) (hd : -9223372036854775808 ≤ d ∧ d ≤ 9223372036854775807) :
    word_Pack.f 5 a b c d = some (pack a b c d) := by
  unfold word_Pack.f pack
  by_cases c1 : a < 1 ∨ 12 < a
  · rw [if_pos c1]
    by_cases c2 : a < 1
    · rw [if_pos c2]; simp [word_Pack.j0]
    · rw [if_neg c2]; simp [word_Pack.j0]; omega
  · rw [if_neg c1, if_neg (by omega)]
    rw [show decide (a > 12) = false from decide_eq_false (by omega)]
    by_cases c3 : c < 0 ∨ d < 0 ∨ 4095 < c ∨ 4095 < c + d
    · rw [if_pos c3]
      have e1 : ∀ k, word_Pack.j1 (k + 1) true a b c d = some (0, 7) := fun k => by simp [word_Pack.j1]
      simp only [word_Pack.j0]
      rw [if_neg (by decide)]
      by_cases d1 : c < 0
      · rw [if_pos d1, e1]
      · rw [if_neg d1]
        by_cases d2 : d < 0
        · rw [if_pos d2, e1]
        · rw [if_neg d2]
          by_cases d3 : c > 4095
          · rw [if_pos d3, e1]
          · rw [if_neg d3, show wrap64 (4095 - c) = 4095 - c by unfold wrap64; omega, show decide (d > 4095 - c) = true from decide_eq_true (by omega), e1]
    · rw [if_neg c3]
      simp only [word_Pack.j0]
      rw [if_neg (by decide), if_neg (by omega), if_neg (by omega), if_neg (by omega), show wrap64 (4095 - c) = 4095 - c by unfold wrap64; omega, show decide (d > 4095 - c) = false from decide_eq_false (by omega)]
      simp only [word_Pack.j1]
      rw [if_neg (by decide)]
      by_cases c4 : b < 0 ∨ 1048575 < b
      · rw [if_pos c4]
        by_cases d1 : b < 0
        · rw [if_pos d1]
        · rw [if_neg d1, if_pos (by omega)]
      · rw [if_neg c4, if_neg (by omega), if_neg (by omega), bits_sum a b c d (by omega) (by omega) (by omega) (by omega) (by omega) (by omega) (by omega) (by omega)]

theorem ref_it (a b c d : Int) (ha : -9223372036854775808 ≤ a ∧ a ≤ 9223372036854775807) (hb : -9223372036854775808 ≤ b ∧ b ≤ 9223372036854775807) (hc : -9223372036854775808 ≤ c ∧ c ≤ 9223372036854775807) (hd : -9223372036854775808 ≤ d ∧ d ≤ 9223372036854775807) :
    middenref01_Pack.f 5 a b c d = some (pack a b c d) := by
  unfold middenref01_Pack.f pack
  by_cases c1 : a < 1 ∨ 12 < a
  · rw [if_pos c1]
    by_cases c2 : a < 1
    · rw [if_pos c2]; simp [middenref01_Pack.j0]
    · rw [if_neg c2]; simp [middenref01_Pack.j0]; omega
  · rw [if_neg c1, if_neg (by omega)]
    rw [show decide (a > 12) = false from decide_eq_false (by omega)]
    by_cases c3 : c < 0 ∨ d < 0 ∨ 4095 < c ∨ 4095 < c + d
    · rw [if_pos c3]
      have e1 : ∀ k, middenref01_Pack.j1 (k + 1) true a b c d = some (0, 7) := fun k => by simp [middenref01_Pack.j1]
      simp only [middenref01_Pack.j0]
      rw [if_neg (by decide)]
      by_cases d1 : c < 0
      · rw [if_pos d1, e1]
      · rw [if_neg d1]
        by_cases d2 : d < 0
        · rw [if_pos d2, e1]
        · rw [if_neg d2]
          by_cases d3 : c > 4095
          · rw [if_pos d3, e1]
          · rw [if_neg d3]
            by_cases d4 : d > 4095
            · rw [if_pos d4, e1]
            · rw [if_neg d4, show wrap64 (c + d) = c + d by unfold wrap64; omega, show decide (c + d > 4095) = true from decide_eq_true (by omega), e1]
    · rw [if_neg c3]
      simp only [middenref01_Pack.j0]
      rw [if_neg (by decide), if_neg (by omega), if_neg (by omega), if_neg (by omega), if_neg (by omega), show wrap64 (c + d) = c + d by unfold wrap64; omega, show decide (c + d > 4095) = false from decide_eq_false (by omega)]
      simp only [middenref01_Pack.j1]
      rw [if_neg (by decide)]
      by_cases c4 : b < 0 ∨ 1048575 < b
      · rw [if_pos c4]
        by_cases d1 : b < 0
        · rw [if_pos d1]
        · rw [if_neg d1, if_pos (by omega)]
      · rw [if_neg c4, if_neg (by omega), if_neg (by omega), ref_sum a b c d (by omega) (by omega) (by omega) (by omega) (by omega) (by omega) (by omega) (by omega)]

theorem law_it (a b c d : Int) (ha : -9223372036854775808 ≤ a ∧ a ≤ 9223372036854775807) (hb : -9223372036854775808 ≤ b ∧ b ≤ 9223372036854775807) (hc : -9223372036854775808 ≤ c ∧ c ≤ 9223372036854775807) (hd : -9223372036854775808 ≤ d ∧ d ≤ 9223372036854775807) :
    middenlaw01_WordPacks.f 5 a b c d = some true := by
  unfold middenlaw01_WordPacks.f
  rw [pack_it a b c d ha hb hc hd, ref_it a b c d ha hb hc hd, awake_true]
  simp

open Go.ChangeShapes Go.WideShapes Go.Joins
theorem walk {H : Type} {enc : TypeId × Value → H} (W : World) {base : Nat} {v0 : Value} {d0 : DataW H} {p0 : List MemPlace}
    (h0 : DataW.Trod enc Try.prog W 0 (fun _ => true) true 23 v0 d0 p0) (o0 : Value.okWide Try.prog W .any base 23 v0) {hs : Prop} (_ : hs) :
    Calls Try.prog 3 #[v0] W fun e w' => e = .returned (.bool true) ∧ Below W.heap.size W w' := by
  obtain ⟨c0, c1, c2, c3, y0, y1, y2, y3, m, rfl, rfl, rfl, hy0, hy1, hy2, hy3⟩ := open_agg4 Try.underlying23 (by kernel_rfl) (by kernel_rfl) o0 h0
  obtain ⟨a0, e0, rfl, w0⟩ := DataW.trod_int Try.underlying3 hy0
  obtain ⟨a1, e1, rfl, w1⟩ := DataW.trod_int Try.underlying3 hy1
  obtain ⟨a2, e2, rfl, w2⟩ := DataW.trod_int Try.underlying3 hy2
  obtain ⟨a3, e3, rfl, w3⟩ := DataW.trod_int Try.underlying3 hy3
  simp only [List.cons.injEq, and_true] at e0 e1 e2 e3
  subst e0 e1 e2 e3
  exact middenlaw01_WordPacks.calls 5 a0 a1 a2 a3 true W (law_it a0 a1 a2 a3 (bounds_i64 w0) (bounds_i64 w1) (bounds_i64 w2) (bounds_i64 w3))
end Go.Proofs.Ytkfmenmnbhenoaa.Packs
