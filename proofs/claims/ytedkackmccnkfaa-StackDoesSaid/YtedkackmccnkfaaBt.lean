/- Bits of a frame's last word. No condition. -/
import Derived.Laws.BitsLemmas
import Derived.WalkKit
set_option linter.unusedVariables false
namespace Go.Proofs.Ytedkackmccnkfaa.Bt
open Go.RowKit
theorem u64_wrap (n : Int) : IntKind.u64.wrap n = n % 18446744073709551616 := by
  simp [IntKind.wrap, IntKind.signed, IntKind.bits]
theorem u64_wrap_in (n : Int) (h0 : 0 ≤ n) (h1 : n < 18446744073709551616) : IntKind.u64.wrap n = n := by
  rw [u64_wrap]; omega
theorem p64 : (2 : Int) ^ 64 = 18446744073709551616 := by decide +kernel
theorem or_comm (x y : Int) : Go.bits .or .u64 x y = Go.bits .or .u64 y x := by
  unfold Go.bits
  simp only [BitVec.or_comm]
theorem or_join (i : Nat) (hi : i ≤ 64) (x y : Int) (hx : 0 ≤ x) (hx1 : x < 2 ^ i) (hy : 0 ≤ y) (hy1 : y % 2 ^ i = 0) (hy2 : y < 18446744073709551616) :
    Go.bits .or .u64 x y = x + y := by
  have h2 : (2 : Int) ^ i ≤ 2 ^ 64 := by
    have : (2 : Nat) ^ i ≤ 2 ^ 64 := Nat.pow_le_pow_right (by decide) hi
    exact_mod_cast this
  have h3 := bits_join .u64 64 (by decide) (fun n h0 h1 => u64_wrap_in n h0 (by rw [← p64]; exact h1)) i y x hy hy1 (by rw [p64]; exact hy2) hx hx1 (by omega)
  rw [or_comm, h3]
  omega
theorem and_mask (i : Nat) (hi : i ≤ 64) (m : Int) (hm : (2 : Int) ^ i - 1 = m) (x : Int) (h0 : 0 ≤ x) (h1 : x ≤ 18446744073709551615) : Go.bits .and .u64 x m = x % 2 ^ i := by
  have := bits_mask .u64 64 (by decide) (fun n h0 h1 => by rw [p64] at h1; rw [u64_wrap]; omega) i hi x h0 (by rw [p64]; omega)
  rw [← hm]
  exact this
theorem and_15 (x : Int) (h0 : 0 ≤ x) (h1 : x ≤ 18446744073709551615) : Go.bits .and .u64 x 15 = x % 16 := and_mask 4 (by decide) 15 (by decide) x h0 h1
theorem and_4095 (x : Int) (h0 : 0 ≤ x) (h1 : x ≤ 18446744073709551615) : Go.bits .and .u64 x 4095 = x % 4096 := and_mask 12 (by decide) 4095 (by decide) x h0 h1
/-- A frame's last word. -/
theorem word_sum (k n b a : Int) (hk : 0 ≤ k ∧ k < 16) (hn : 0 ≤ n ∧ n < 4096) (hb : 0 ≤ b ∧ b < 16) (ha : 0 ≤ a ∧ a < 1048576) :
    Go.bits .or .u64 (Go.bits .or .u64 (Go.bits .or .u64 k (n * 16)) (b * 65536)) (a * 1048576) = k + n * 16 + b * 65536 + a * 1048576 := by
  rw [or_join 4 (by decide) k (n * 16) (by omega) (by omega) (by omega) (by omega) (by omega)]
  rw [or_join 16 (by decide) _ (b * 65536) (by omega) (by omega) (by omega) (by omega) (by omega)]
  rw [or_join 20 (by decide) _ (a * 1048576) (by omega) (by omega) (by omega) (by omega) (by omega)]
end Go.Proofs.Ytedkackmccnkfaa.Bt
