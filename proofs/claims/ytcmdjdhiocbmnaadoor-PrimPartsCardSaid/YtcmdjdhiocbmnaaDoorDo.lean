/- Numbers of layer 8: what Do comes to, here and there: products by doubling, quotients by sizes and signs. Plain. -/
import Derived.Test.YtcmdjdhiocbmnaaDoorPr
set_option linter.unusedVariables false
namespace Go.Proofs.YtcmdjdhiocbmnaaDoor.Do
open Go.RowKit Go.Proofs.YtcmdjdhiocbmnaaDoorW.PrintWords Go.Proofs.YtcmdjdhiocbmnaaDoorW.PrintLast Go.Proofs.YtcmdjdhiocbmnaaDoorW.PrintMore
open Pr (u64_wrap wrap_wrap wrap_in)
/-- What Do tells. -/
def doV (n a b : Int) : Int × Int :=
  if n = 1 then (wrap64 (a + b), 0) else if n = 2 then (wrap64 (a - b), 0) else if n = 3 then (wrap64 (a * b), 0)
  else if n = 6 then (if a = b then 1 else 0, 0) else if n = 7 then (if a < b then 1 else 0, 0)
  else if n = 4 ∨ n = 5 then (if b = 0 then (0, 40) else if n = 5 then (a.tmod b, 0) else (wrap64 (a.tdiv b), 0))
  else (0, 34)
theorem prim_do (n a b : Int) : PPrimDoes.prim_Do.f 5 n a b = some (doV n a b) := by
  unfold PPrimDoes.prim_Do.f doV
  by_cases h1 : n = 1
  · rw [if_pos h1, if_pos h1]
  rw [if_neg h1, if_neg h1]
  by_cases h2 : n = 2
  · rw [if_pos h2, if_pos h2]
  rw [if_neg h2, if_neg h2]
  by_cases h3 : n = 3
  · rw [if_pos h3, if_pos h3]
  rw [if_neg h3, if_neg h3]
  by_cases h6 : n = 6
  · rw [if_pos h6, if_pos h6]
    unfold PPrimDoes.prim_truth.f
    by_cases e : a = b
    · simp [e]
    · simp [e]
  rw [if_neg h6, if_neg h6]
  by_cases h7 : n = 7
  · rw [if_pos h7, if_pos h7]
    unfold PPrimDoes.prim_truth.f
    by_cases e : a < b
    · simp [e]
    · simp [e]
  rw [if_neg h7, if_neg h7]
  have j : PPrimDoes.prim_Do.j0 5 n a b = some (if b = 0 then (0, 40) else if n = 5 then (a.tmod b, 0) else (wrap64 (a.tdiv b), 0)) := by
    simp only [PPrimDoes.prim_Do.j0]
    by_cases b0 : b = 0
    · rw [if_pos b0, if_pos b0]
    · rw [if_neg b0, if_neg b0]
      by_cases h5 : n = 5
      · rw [if_pos h5, if_pos h5]
      · rw [if_neg h5, if_neg h5]
  by_cases h4 : n = 4
  · rw [if_pos h4, if_pos (Or.inl h4), j]
  · rw [if_neg h4]
    by_cases h5 : n = 5
    · rw [if_pos h5, if_pos (Or.inr h5), j]
    · rw [if_neg h5, if_neg (by omega)]

theorem number (z : Int) (h0 : 0 ≤ z) (h1 : z ≤ 18446744073709551615) : PPrimDoes.middenref01_Number.f z = some (wrap64 z) := by
  unfold PPrimDoes.middenref01_Number.f
  by_cases c : z < 9223372036854775808
  · rw [if_pos c]
  · rw [if_neg c, u64_wrap]; congr 1; unfold wrap64; omega
/-- The product by doubling: modulo 2^64. -/
theorem product_loop (d : Nat) : ∀ (k : Nat) (x y z : Int), 0 ≤ y → y < 18446744073709551616 → y < 2 ^ d → 0 ≤ z → z < 18446744073709551616 → d < k →
    PPrimDoes.middenref08_product.l0 k x y z = some ((z + x * y) % 18446744073709551616) := by
  induction d with
  | zero =>
    intro k x y z h0 p h1 hz hz1 hk
    obtain ⟨k, rfl⟩ : ∃ m, k = m + 1 := ⟨k - 1, by omega⟩
    have : y = 0 := by simp at h1; omega
    subst this
    simp only [PPrimDoes.middenref08_product.l0]
    rw [if_neg (by omega), Int.mul_zero, Int.add_zero, Int.emod_eq_of_lt hz hz1]
  | succ d ih =>
    intro k x y z h0 p h1 hz hz1 hk
    obtain ⟨k, rfl⟩ : ∃ m, k = m + 1 := ⟨k - 1, by omega⟩
    simp only [PPrimDoes.middenref08_product.l0]
    by_cases c : y > 0
    · rw [if_pos c, Int.tmod_eq_emod_of_nonneg h0, Int.tdiv_eq_ediv_of_nonneg h0, u64_wrap, u64_wrap, u64_wrap]
      have hy : y / 2 < 2 ^ d := by rw [Int.pow_succ] at h1; omega
      have hy0 : 0 ≤ y / 2 := by omega
      rw [show y / 2 % 18446744073709551616 = y / 2 by omega]
      have e : y = 2 * (y / 2) + y % 2 := by omega
      by_cases o : y % 2 = 1
      · rw [if_pos o, ih k _ _ _ hy0 (by omega) hy (by omega) (by omega) (by omega)]
        congr 1
        have e1 : z + x * y = z + x + (x + x) * (y / 2) := by
          rw [o] at e
          conv => lhs; rw [e]
          rw [Int.mul_add, Int.mul_one, ← Int.mul_assoc, Int.mul_comm x 2, Int.two_mul]; omega
        rw [e1, Int.add_emod, Int.mul_emod]
        simp only [Int.emod_emod_of_dvd, Int.dvd_refl]
        rw [← Int.mul_emod, ← Int.add_emod]
      · rw [if_neg o, ih k _ _ _ hy0 (by omega) hy hz hz1 (by omega)]
        congr 1
        have e1 : z + x * y = z + (x + x) * (y / 2) := by
          rw [show y % 2 = 0 by omega] at e
          conv => lhs; rw [e]
          rw [Int.add_zero, ← Int.mul_assoc, Int.mul_comm x 2, Int.two_mul]
        rw [e1, Int.add_emod, Int.mul_emod]
        simp only [Int.emod_emod_of_dvd, Int.dvd_refl]
        rw [← Int.mul_emod, ← Int.add_emod]
    · have : y = 0 := by omega
      subst this
      rw [if_neg c, Int.mul_zero, Int.add_zero, Int.emod_eq_of_lt hz hz1]
theorem p64 : (2 : Int) ^ 64 = 18446744073709551616 := by decide +kernel
theorem product (a b : Int) : PPrimDoes.middenref08_product.f 80 (a % 18446744073709551616) (b % 18446744073709551616) = some (a * b % 18446744073709551616) := by
  unfold PPrimDoes.middenref08_product.f
  rw [product_loop 64 80 _ _ 0 (by omega) (by omega) (by rw [p64]; omega) (by omega) (by omega) (by omega)]
  rw [Int.zero_add, ← Int.mul_emod]
theorem size (a : Int) (h0 : -9223372036854775808 ≤ a) (h1 : a ≤ 9223372036854775807) : PPrimDoes.middenref08_size.f a = some (if a < 0 then -a else a) := by
  unfold PPrimDoes.middenref08_size.f
  by_cases c : a < 0
  · rw [if_pos c, if_pos c, u64_wrap, u64_wrap, wrap_in (a + 1) (by omega) (by omega), wrap_in (-(a + 1)) (by omega) (by omega)]
    congr 1; omega
  · rw [if_neg c, if_neg c, u64_wrap]; congr 1; omega
theorem signed (z : Int) (m : Bool) (h0 : 0 ≤ z) (h1 : z ≤ 18446744073709551615) : PPrimDoes.middenref08_signed.f z m = some (wrap64 (if m = true then -z else z)) := by
  unfold PPrimDoes.middenref08_signed.f
  cases m
  · simp [number z h0 h1]
  · rw [if_pos rfl, u64_wrap, number _ (by omega) (by omega)]
    simp [wrap_wrap]
theorem quot (a b : Int) (hb : b ≠ 0) : (if ((decide (a < 0)) != (decide (b < 0))) = true then -((if a < 0 then -a else a) / (if b < 0 then -b else b)) else (if a < 0 then -a else a) / (if b < 0 then -b else b)) = a.tdiv b := by
  by_cases ha : a < 0
  · by_cases hb : b < 0
    · simp only [ha, hb, decide_true, bne_self_eq_false, if_true, Bool.false_eq_true, if_false]
      rw [← Int.tdiv_eq_ediv_of_nonneg (by omega), Int.neg_tdiv, Int.tdiv_neg, Int.neg_neg]
    · simp only [ha, hb, decide_true, decide_false, if_true, if_false, show ((true : Bool) != false) = true from rfl]
      rw [← Int.tdiv_eq_ediv_of_nonneg (by omega), Int.neg_tdiv, Int.neg_neg]
  · by_cases hb : b < 0
    · simp only [ha, hb, decide_true, decide_false, if_true, if_false, show ((false : Bool) != true) = true from rfl]
      rw [← Int.tdiv_eq_ediv_of_nonneg (by omega), Int.tdiv_neg, Int.neg_neg]
    · simp only [ha, hb, decide_false, bne_self_eq_false, Bool.false_eq_true, if_false]
      rw [← Int.tdiv_eq_ediv_of_nonneg (by omega)]
theorem rest (a b : Int) (hb : b ≠ 0) : (if (decide (a < 0)) = true then -((if a < 0 then -a else a).tmod (if b < 0 then -b else b)) else (if a < 0 then -a else a).tmod (if b < 0 then -b else b)) = a.tmod b := by
  have e : ∀ x : Int, x.tmod (if b < 0 then -b else b) = x.tmod b := fun x => by
    by_cases c : b < 0
    · rw [if_pos c, Int.tmod_neg]
    · rw [if_neg c]
  rw [e]
  by_cases ha : a < 0
  · simp only [ha, decide_true, if_true]
    rw [Int.neg_tmod, Int.neg_neg]
  · simp only [ha, decide_false, Bool.false_eq_true, if_false]
theorem tmod_in (a b : Int) (h0 : -9223372036854775808 ≤ a) (h1 : a ≤ 9223372036854775807) : -9223372036854775808 ≤ a.tmod b ∧ a.tmod b ≤ 9223372036854775807 := by
  rcases Int.le_total 0 a with h | h
  · have e1 := Int.tmod_nonneg b h
    have e2 : a.tmod b ≤ a := by
      rw [show a.tmod b = a - b * a.tdiv b by have := Int.tmod_add_mul_tdiv a b; omega]
      have e3 : 0 ≤ b * a.tdiv b := by
        rcases Int.le_total 0 b with hb | hb
        · exact Int.mul_nonneg hb (Int.tdiv_nonneg h hb)
        · exact Int.mul_nonneg_of_nonpos_of_nonpos hb (Int.tdiv_nonpos_of_nonneg_of_nonpos h hb)
      omega
    omega
  · have e : a.tmod b = -((-a).tmod b) := by rw [Int.neg_tmod, Int.neg_neg]
    have e1 := Int.tmod_nonneg b (show 0 ≤ -a by omega)
    have e2 : (-a).tmod b ≤ -a := by
      rw [show (-a).tmod b = -a - b * (-a).tdiv b by have := Int.tmod_add_mul_tdiv (-a) b; omega]
      have e3 : 0 ≤ b * (-a).tdiv b := by
        rcases Int.le_total 0 b with hb | hb
        · exact Int.mul_nonneg hb (Int.tdiv_nonneg (by omega) hb)
        · exact Int.mul_nonneg_of_nonpos_of_nonpos hb (Int.tdiv_nonpos_of_nonneg_of_nonpos (by omega) hb)
      omega
    omega
theorem ref_do (n a b : Int) (a0 : -9223372036854775808 ≤ a) (a1 : a ≤ 9223372036854775807) (b0 : -9223372036854775808 ≤ b) (b1 : b ≤ 9223372036854775807) :
    PPrimDoes.middenref08_Do.f 82 n a b = some (doV n a b) := by
  have out : ∀ m, PPrimDoes.middenref08_Do.j0 (m + 1) n a b true = some (0, 34) := fun m => by simp only [PPrimDoes.middenref08_Do.j0]; rw [if_pos trivial]
  unfold PPrimDoes.middenref08_Do.f
  by_cases c : n < 1 ∨ 7 < n
  · have e : doV n a b = (0, 34) := by
      unfold doV
      rw [if_neg (by omega), if_neg (by omega), if_neg (by omega), if_neg (by omega), if_neg (by omega), if_neg (by omega)]
    rw [e]
    by_cases d : n < 1
    · rw [if_pos d]; exact out 81
    · rw [if_neg d, show decide (n > 7) = true from decide_eq_true (by omega)]; exact out 81
  · rw [if_neg (by omega), show decide (n > 7) = false from decide_eq_false (by omega)]
    simp only [PPrimDoes.middenref08_Do.j0]
    rw [if_neg (by decide)]
    by_cases z : b = 0 ∧ (n = 4 ∨ n = 5)
    · obtain ⟨z0, z1⟩ := z
      have e : doV n a b = (0, 40) := by
        unfold doV
        rw [if_neg (by omega), if_neg (by omega), if_neg (by omega), if_neg (by omega), if_neg (by omega), if_pos z1, if_pos z0]
      have j1 : PPrimDoes.middenref08_Do.j1 81 n a b true = some (0, 40) := by simp only [PPrimDoes.middenref08_Do.j1]; rw [if_pos trivial]
      rw [e, if_pos z0]
      rcases z1 with h | h
      · rw [if_pos h, j1]
      · rw [if_neg (by omega), show (n == 5) = true from beq_iff_eq.2 h, j1]
    · have j : (if b = 0 then (if n = 4 then (PPrimDoes.middenref08_Do.j1 81 n a b true) else (PPrimDoes.middenref08_Do.j1 81 n a b (n == 5))) else (PPrimDoes.middenref08_Do.j1 81 n a b false)) = PPrimDoes.middenref08_Do.j1 81 n a b false := by
        by_cases z0 : b = 0
        · rw [if_pos z0, if_neg (fun h => z ⟨z0, .inl h⟩), show (n == 5) = false from beq_eq_false_iff_ne.2 (fun h => z ⟨z0, .inr h⟩)]
        · rw [if_neg z0]
      rw [j]
      simp only [PPrimDoes.middenref08_Do.j1]
      rw [if_neg (by decide)]
      unfold doV
      have sa := size a a0 a1
      have sb := size b b0 b1
      by_cases h1 : n = 1
      · rw [if_pos h1, if_pos h1, u64_wrap, u64_wrap, u64_wrap, number _ (by omega) (by omega)]
        simp only [Option.bind_some]
        rw [← Int.add_emod, wrap_wrap]
      rw [if_neg h1, if_neg h1]
      by_cases h2 : n = 2
      · rw [if_pos h2, if_pos h2, u64_wrap, u64_wrap, u64_wrap, number _ (by omega) (by omega)]
        simp only [Option.bind_some]
        rw [← Int.sub_emod, wrap_wrap]
      rw [if_neg h2, if_neg h2]
      by_cases h3 : n = 3
      · rw [if_pos h3, if_pos h3, u64_wrap, u64_wrap]
        have e := product a b
        rw [e]
        simp only [Option.bind_some]
        rw [number _ (by omega) (by omega)]
        simp only [Option.bind_some]
        rw [wrap_wrap]
      rw [if_neg h3, if_neg h3]
      by_cases h4 : n = 4
      · have hb : b ≠ 0 := fun h => z ⟨h, .inl h4⟩
        rw [if_pos h4, if_neg (by omega), if_neg (by omega), if_pos (Or.inl h4), if_neg hb, if_neg (by omega), sa, sb]
        simp only [Option.bind_some]
        have nb : (if b < 0 then -b else b) ≠ 0 := by split <;> omega
        have na : 0 ≤ (if a < 0 then -a else a) := by split <;> omega
        have na1 : (if a < 0 then -a else a) ≤ 9223372036854775808 := by split <;> omega
        have pb : 0 ≤ (if b < 0 then -b else b) := by split <;> omega
        have q0 : 0 ≤ (if a < 0 then -a else a) / (if b < 0 then -b else b) := Int.ediv_nonneg na pb
        have q1 : (if a < 0 then -a else a) / (if b < 0 then -b else b) ≤ 9223372036854775808 := Int.le_trans (Int.ediv_le_self _ na) na1
        rw [if_neg nb, Int.tdiv_eq_ediv_of_nonneg na, u64_wrap, Int.emod_eq_of_lt q0 (by omega), signed _ _ q0 (by omega), quot a b hb]
        rfl
      rw [if_neg h4]
      by_cases h5 : n = 5
      · have hb : b ≠ 0 := fun h => z ⟨h, .inr h5⟩
        rw [if_pos h5, if_neg (by omega), if_neg (by omega), if_pos (Or.inr h5), if_neg hb, if_pos h5, sa, sb]
        simp only [Option.bind_some]
        have nb : (if b < 0 then -b else b) ≠ 0 := by split <;> omega
        have na : 0 ≤ (if a < 0 then -a else a) := by split <;> omega
        have na1 : (if a < 0 then -a else a) ≤ 9223372036854775808 := by split <;> omega
        have q0 : 0 ≤ (if a < 0 then -a else a).tmod (if b < 0 then -b else b) := Int.tmod_nonneg _ na
        have q1 : (if a < 0 then -a else a).tmod (if b < 0 then -b else b) ≤ 18446744073709551615 := by
          have := rest a b hb
          have r := tmod_in a b a0 a1
          rw [← this] at r
          by_cases ha : a < 0
          · simp only [ha, decide_true, if_true] at r ⊢; omega
          · simp only [ha, decide_false, Bool.false_eq_true, if_false] at r ⊢; omega
        rw [if_neg nb, signed _ _ q0 q1, rest a b hb]
        have r := tmod_in a b a0 a1
        rw [wrap_in _ r.1 r.2]
        rfl
      rw [if_neg h5]
      by_cases h6 : n = 6
      · rw [if_pos h6, if_pos h6]
        by_cases e : a = b
        · rw [if_pos e, if_pos e]
        · rw [if_neg e, if_neg e]
      · rw [if_neg h6, if_neg h6, if_pos (show n = 7 by omega)]
        by_cases e : a < b
        · rw [if_pos e, if_pos e]
        · rw [if_neg e, if_neg e]
end Go.Proofs.YtcmdjdhiocbmnaaDoor.Do
