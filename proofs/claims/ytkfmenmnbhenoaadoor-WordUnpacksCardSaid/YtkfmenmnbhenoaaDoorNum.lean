/- Numbers of layer 1: what packing and reading a header's word come to, and that one undoes the other. -/
import Derived.Test.YtkfmenmnbhenoaaDoorUnp
namespace Go.Proofs.YtkfmenmnbhenoaaDoor.Num
open Go.RowKit Go.Proofs.YtkfmenmnbhenoaaDoor.PWordUnpacks Go.Proofs.YtkfmenmnbhenoaaDoorW.PrintWords Go.Proofs.YtkfmenmnbhenoaaDoorW.PrintLast Go.Proofs.YtkfmenmnbhenoaaDoorW.PrintMore
open Unp (u64_wrap bad much and_1)
theorem u64_wrap_in (n : Int) (h0 : 0 ≤ n) (h1 : n < 18446744073709551616) : IntKind.u64.wrap n = n := by
  rw [u64_wrap]; omega
theorem awake_true : middenlaw01_awake.f 5 = some true := by decide +kernel
theorem p64 : (2 : Int) ^ 64 = 18446744073709551616 := by decide +kernel
theorem or_comm (x y : Int) : Go.bits .or .u64 x y = Go.bits .or .u64 y x := by
  unfold Go.bits
  simp only [BitVec.or_comm]
theorem or_join (i : Nat) (hi : i ≤ 64) (x y : Int) (hx : 0 ≤ x) (hx1 : x < 2 ^ i) (hy : 0 ≤ y) (hy1 : y % 2 ^ i = 0) (hy2 : y < 18446744073709551616) :
    Go.bits .or .u64 x y = x + y := by
  have h2 : (2 : Int) ^ i ≤ 2 ^ 64 := by
    have : (2 : Nat) ^ i ≤ 2 ^ 64 := Nat.pow_le_pow_right (by decide) hi
    exact_mod_cast this
  have h3 := bits_join .u64 64 (by decide) (fun n h0 h1 => u64_wrap_in n h0 (by rw [← p64]; exact h1)) i y x hy hy1 (by rw [p64]; exact hy2) hx hx1 (by omega)
  rw [or_comm, h3]
  omega

/-- What the header's word is. -/
theorem bits_sum (a b c d : Int) (ha : 0 ≤ a) (ha1 : a < 16) (hc : 0 ≤ c) (hc1 : c < 4096) (hd : 0 ≤ d) (hd1 : d < 4096) (hb : 0 ≤ b) (hb1 : b < 1048576) :
    Go.bits .or .u64 (Go.bits .or .u64 (Go.bits .or .u64 (Go.bits .or .u64 1 (IntKind.u64.wrap ((IntKind.u64.wrap a) * 2))) (IntKind.u64.wrap ((IntKind.u64.wrap c) * 32))) (IntKind.u64.wrap ((IntKind.u64.wrap d) * 131072))) (IntKind.u64.wrap ((IntKind.u64.wrap b) * 536870912))
      = 1 + a * 2 + c * 32 + d * 131072 + b * 536870912 := by
  rw [u64_wrap_in a ha (by omega), u64_wrap_in b hb (by omega), u64_wrap_in c hc (by omega), u64_wrap_in d hd (by omega)]
  rw [u64_wrap_in (a * 2) (by omega) (by omega), u64_wrap_in (b * 536870912) (by omega) (by omega), u64_wrap_in (c * 32) (by omega) (by omega), u64_wrap_in (d * 131072) (by omega) (by omega)]
  rw [or_join 1 (by decide) 1 (a * 2) (by omega) (by omega) (by omega) (by omega) (by omega)]
  rw [or_join 5 (by decide) _ (c * 32) (by omega) (by omega) (by omega) (by omega) (by omega)]
  rw [or_join 17 (by decide) _ (d * 131072) (by omega) (by omega) (by omega) (by omega) (by omega)]
  rw [or_join 29 (by decide) _ (b * 536870912) (by omega) (by omega) (by omega) (by omega) (by omega)]
/-- What packing comes to, here and there: kind a, info b, pointers c, others d. -/
def pack (a b c d : Int) : Int × Int :=
  if a < 1 ∨ 12 < a then (0, 6) else if c < 0 ∨ d < 0 ∨ 4095 < c ∨ 4095 < c + d then (0, 7) else if b < 0 ∨ 1048575 < b then (0, 2) else (1 + a * 2 + c * 32 + d * 131072 + b * 536870912, 0)

theorem pack_it (a b c d : Int) (ha : -9223372036854775808 ≤ a ∧ a ≤ 9223372036854775807) (hb : -9223372036854775808 ≤ b ∧ b ≤ 9223372036854775807) (hc : -9223372036854775808 ≤ c ∧ c ≤ 9223372036854775807) (hd : -9223372036854775808 ≤ d ∧ d ≤ 9223372036854775807) :
    word_Pack.f 5 a b c d = some (pack a b c d) := by
  unfold word_Pack.f pack
  by_cases c1 : a < 1 ∨ 12 < a
  · rw [if_pos c1]
    by_cases c2 : a < 1
    · rw [if_pos c2]; simp [word_Pack.j0]
    · rw [if_neg c2]; simp [word_Pack.j0]; omega
  · rw [if_neg c1, if_neg (by omega)]
    rw [show decide (a > 12) = false from decide_eq_false (by omega)]
    by_cases c3 : c < 0 ∨ d < 0 ∨ 4095 < c ∨ 4095 < c + d
    · rw [if_pos c3]
      have e1 : ∀ k, word_Pack.j1 (k + 1) true a b c d = some (0, 7) := fun k => by simp [word_Pack.j1]
      simp only [word_Pack.j0]
      rw [if_neg (by decide)]
      by_cases d1 : c < 0
      · rw [if_pos d1, e1]
      · rw [if_neg d1]
        by_cases d2 : d < 0
        · rw [if_pos d2, e1]
        · rw [if_neg d2]
          by_cases d3 : c > 4095
          · rw [if_pos d3, e1]
          · rw [if_neg d3, show wrap64 (4095 - c) = 4095 - c by unfold wrap64; omega, show decide (d > 4095 - c) = true from decide_eq_true (by omega), e1]
    · rw [if_neg c3]
      simp only [word_Pack.j0]
      rw [if_neg (by decide), if_neg (by omega), if_neg (by omega), if_neg (by omega), show wrap64 (4095 - c) = 4095 - c by unfold wrap64; omega, show decide (d > 4095 - c) = false from decide_eq_false (by omega)]
      simp only [word_Pack.j1]
      rw [if_neg (by decide)]
      by_cases c4 : b < 0 ∨ 1048575 < b
      · rw [if_pos c4]
        by_cases d1 : b < 0
        · rw [if_pos d1]
        · rw [if_neg d1, if_pos (by omega)]
      · rw [if_neg c4, if_neg (by omega), if_neg (by omega), bits_sum a b c d (by omega) (by omega) (by omega) (by omega) (by omega) (by omega) (by omega) (by omega)]


/-- Some bits of a word, by the reference's loop. -/
theorem pow_pos (i : Nat) : (0 : Int) < 2 ^ i := by
  induction i with
  | zero => decide
  | succ i ih => rw [Int.pow_succ]; omega
theorem part_step (y : Int) (i : Nat) : y % 2 ^ (i + 1) = y % 2 ^ i + (y / 2 ^ i % 2) * 2 ^ i := by
  have hp := pow_pos i
  rw [Int.pow_succ]
  have e1 := Int.emod_add_mul_ediv y (2 ^ i)
  have e2 := Int.emod_add_mul_ediv (y / 2 ^ i) 2
  have r1 := Int.emod_nonneg y (show (2 : Int) ^ i ≠ 0 by omega)
  have r2 := Int.emod_lt_of_pos y hp
  generalize (2 : Int) ^ i = p at *
  generalize hq : y / p = q at *
  generalize hr : y % p = r at *
  generalize hs : q / 2 = s at *
  generalize ht : q % 2 = t at *
  have ht0 : 0 ≤ t ∧ t ≤ 1 := by omega
  have hy : y = r + t * p + (p * 2) * s := by
    rw [← e1, ← e2, Int.mul_add, Int.mul_comm t p, Int.mul_assoc, Int.add_assoc]
  rw [hy, Int.add_mul_emod_self_left, Int.emod_eq_of_lt]
  · have : 0 ≤ t * p := Int.mul_nonneg ht0.1 (by omega)
    omega
  · rcases (show t = 0 ∨ t = 1 by omega) with h | h <;> subst h <;> omega
theorem part_loop (x : Int) (h0 : 0 ≤ x) (h1 : x ≤ 18446744073709551615) (a : Nat) (b : Nat) (hab : a + b ≤ 64) (hb : b ≤ 20) (d : Nat) : ∀ (k : Nat) (i : Nat), i + d = b → d < k →
    middenref01_Part.l0 k x a b (x / 2 ^ a % 2 ^ i) (2 ^ i) i = some (x / 2 ^ a % 2 ^ b) := by
  have small : ∀ j : Nat, j ≤ 20 → (0 : Int) < 2 ^ j ∧ (2 : Int) ^ j ≤ 1048576 := by
    intro j hj
    refine ⟨pow_pos j, ?_⟩
    have h1 : (2 : Nat) ^ j ≤ 2 ^ 20 := Nat.pow_le_pow_right (by decide) hj
    have h2 : (2 : Nat) ^ j ≤ 1048576 := Nat.le_trans h1 (by decide +kernel)
    have h3 : ((2 ^ j : Nat) : Int) ≤ ((1048576 : Nat) : Int) := Int.ofNat_le.2 h2
    rw [Int.natCast_pow] at h3
    exact h3
  have hx0 : 0 ≤ x / 2 ^ a := Int.ediv_nonneg h0 (by have := pow_pos a; omega)
  induction d with
  | zero =>
    intro k i hi hk
    obtain ⟨k, rfl⟩ : ∃ m, k = m + 1 := ⟨k - 1, by omega⟩
    obtain rfl : i = b := by omega
    simp only [middenref01_Part.l0]
    rw [if_neg (by omega)]
  | succ d ih =>
    intro k i hi hk
    obtain ⟨k, rfl⟩ : ∃ m, k = m + 1 := ⟨k - 1, by omega⟩
    have g1 : (i : Int) < (b : Int) := by omega
    have g2 : (0 : Int) ≤ ((a + i : Nat) : Int) := Int.natCast_nonneg _
    have hw : wrap64 ((a : Int) + i) = ((a + i : Nat) : Int) := by unfold wrap64; omega
    have hs : shr .u64 x ((a + i : Nat) : Int) = x / 2 ^ a / 2 ^ i := by
      unfold shr
      rw [Int.toNat_natCast, Nat.min_eq_left (show a + i ≤ IntKind.u64.bits by simp [IntKind.bits]; omega), Int.pow_add, Int.ediv_ediv_of_nonneg (Int.le_of_lt (pow_pos a))]
    have hz0 : 0 ≤ x / 2 ^ a / 2 ^ i := Int.ediv_nonneg hx0 (Int.le_of_lt (pow_pos i))
    have hz1 : x / 2 ^ a / 2 ^ i ≤ 18446744073709551615 := Int.le_trans (Int.le_trans (Int.ediv_le_self _ hx0) (Int.ediv_le_self _ h0)) h1
    have s1 := small i (by omega)
    have m0 : 0 ≤ x / 2 ^ a % 2 ^ i := Int.emod_nonneg _ (Int.ne_of_gt s1.1)
    have m1 : x / 2 ^ a % 2 ^ i < 2 ^ i := Int.emod_lt_of_pos _ s1.1
    have e3 : wrap64 ((2 : Int) ^ i * 2) = 2 ^ (i + 1) := by
      rw [Int.pow_succ]
      generalize (2 : Int) ^ i = q at s1 ⊢
      unfold wrap64; omega
    have e4 : wrap64 ((i : Int) + 1) = ((i + 1 : Nat) : Int) := by unfold wrap64; omega
    have st := part_step (x / 2 ^ a) i
    have next := ih k (i + 1) (by omega) (by omega)
    have tail : (if x / 2 ^ a / 2 ^ i % 2 = 1 then wrap64 (x / 2 ^ a % 2 ^ i + 2 ^ i) else x / 2 ^ a % 2 ^ i) = x / 2 ^ a % 2 ^ (i + 1) := by
      rw [st]
      have hu : 0 ≤ x / 2 ^ a / 2 ^ i % 2 ∧ x / 2 ^ a / 2 ^ i % 2 < 2 := ⟨Int.emod_nonneg _ (by decide), Int.emod_lt_of_pos _ (by decide)⟩
      generalize x / 2 ^ a / 2 ^ i % 2 = u at *
      generalize x / 2 ^ a % 2 ^ i = v at *
      generalize (2 : Int) ^ i = q at *
      by_cases c : u = 1
      · rw [if_pos c, c]; unfold wrap64; omega
      · rw [if_neg c]
        rcases (show u = 0 ∨ u = 1 by omega) with d | d
        · rw [d]; omega
        · exact absurd d c
    simp only [middenref01_Part.l0]
    rw [if_pos g1, hw, if_pos g2, hs, and_1 _ hz0 hz1, e3, e4]
    by_cases c : x / 2 ^ a / 2 ^ i % 2 = 1
    · rw [if_pos c] at tail ⊢
      rw [tail]
      exact next
    · rw [if_neg c] at tail ⊢
      rw [tail]
      exact next
theorem part (x : Int) (h0 : 0 ≤ x) (h1 : x ≤ 18446744073709551615) (a b : Nat) (hab : a + b ≤ 64) (hb : b ≤ 20) (A B p q : Int) (hA : A = a) (hB : B = b) (hp : p = 2 ^ a) (hq : q = 2 ^ b) : middenref01_Part.f 30 x A B = some (x / p % q) := by
  have h := part_loop x h0 h1 a b hab hb b 30 0 (by omega) (by omega)
  subst hA hB hp hq
  unfold middenref01_Part.f
  rw [← h, Int.pow_zero, Int.emod_one]
  rfl

def unp5 (x : Int) : Int × Int × Int × Int × Int :=
  if bad x then (0, 0, 0, 0, 6) else if much x then (0, 0, 0, 0, 7) else (x / 2 % 16, x / 536870912 % 1048576, x / 32 % 4096, x / 131072 % 4096, 0)
theorem unp_eq (x : Int) : Unp.unp x = Unp.vHead (unp5 x).1 (unp5 x).2.1 (unp5 x).2.2.1 (unp5 x).2.2.2.1 (unp5 x).2.2.2.2 := by
  unfold Unp.unp unp5
  by_cases c : bad x
  · rw [if_pos c, if_pos c]
  · rw [if_neg c, if_neg c]
    by_cases d : much x
    · rw [if_pos d, if_pos d]
    · rw [if_neg d, if_neg d]
theorem ref_unpack (x : Int) (h0 : 0 ≤ x) (h1 : x ≤ 18446744073709551615) : middenref01_Unpack.f 30 x = some (unp5 x) := by
  have e1 : middenref01_Part.f 30 x 1 4 = some (x / 2 % 16) := part x h0 h1 1 4 (by omega) (by omega) _ _ _ _ rfl rfl (by decide +kernel) (by decide +kernel)
  have e2 : middenref01_Part.f 30 x 5 12 = some (x / 32 % 4096) := part x h0 h1 5 12 (by omega) (by omega) _ _ _ _ rfl rfl (by decide +kernel) (by decide +kernel)
  have e3 : middenref01_Part.f 30 x 17 12 = some (x / 131072 % 4096) := part x h0 h1 17 12 (by omega) (by omega) _ _ _ _ rfl rfl (by decide +kernel) (by decide +kernel)
  have e4 : middenref01_Part.f 30 x 29 20 = some (x / 536870912 % 1048576) := part x h0 h1 29 20 (by omega) (by omega) _ _ _ _ rfl rfl (by decide +kernel) (by decide +kernel)
  have e5 : middenref01_Part.f 30 x 0 1 = some (x / 1 % 2) := part x h0 h1 0 1 (by omega) (by omega) _ _ _ _ rfl rfl (by decide +kernel) (by decide +kernel)
  rw [Int.ediv_one] at e5
  have e6 : middenref01_Part.f 30 x 49 15 = some (x / 562949953421312 % 32768) := part x h0 h1 49 15 (by omega) (by omega) _ _ _ _ rfl rfl (by decide +kernel) (by decide +kernel)
  rw [show x / 562949953421312 % 32768 = x / 562949953421312 by omega] at e6
  unfold middenref01_Unpack.f
  rw [e1, e2, e3, e4, e5]
  simp only [Option.bind_some]
  have j6 : ∀ a b c d, middenref01_Unpack.j0 30 true a b c d = some (0, 0, 0, 0, 6) := fun a b c d => by simp [middenref01_Unpack.j0]
  by_cases c : bad x
  · rw [show unp5 x = (0, 0, 0, 0, 6) by unfold unp5; rw [if_pos c]]
    unfold bad at c
    by_cases c0 : x % 2 = 0
    · rw [if_pos c0, j6]
    · rw [if_neg c0, e6]
      simp only [Option.bind_some]
      by_cases c1 : x / 562949953421312 = 0
      · rw [if_pos c1]
        by_cases c2 : x / 2 % 16 < 1
        · rw [if_pos c2, j6]
        · rw [if_neg c2, show decide (x / 2 % 16 > 12) = true from decide_eq_true (by omega), j6]
      · rw [if_neg c1, j6]
  · have c' := c
    unfold bad at c'
    rw [if_neg (by omega), e6]
    simp only [Option.bind_some]
    rw [if_pos (by omega), if_neg (by omega), show decide (x / 2 % 16 > 12) = false from decide_eq_false (by omega)]
    simp only [middenref01_Unpack.j0]
    rw [if_neg (by decide), show wrap64 (x / 32 % 4096 + x / 131072 % 4096) = x / 32 % 4096 + x / 131072 % 4096 by unfold wrap64; omega]
    unfold unp5
    rw [if_neg c]
    by_cases d : much x
    · rw [if_pos d]
      unfold much at d
      rw [if_pos (by omega)]
    · rw [if_neg d]
      unfold much at d
      rw [if_neg (by omega)]

/-- What is packed is read as it was. -/
theorem unp_pack (a b c d : Int) (h : (pack a b c d).2 = 0) : 0 ≤ (pack a b c d).1 ∧ (pack a b c d).1 ≤ 18446744073709551615 ∧ unp5 (pack a b c d).1 = (a, b, c, d, 0) := by
  unfold pack at h ⊢
  by_cases c1 : a < 1 ∨ 12 < a
  · rw [if_pos c1] at h; simp at h
  · rw [if_neg c1] at h ⊢
    by_cases c2 : c < 0 ∨ d < 0 ∨ 4095 < c ∨ 4095 < c + d
    · rw [if_pos c2] at h; simp at h
    · rw [if_neg c2] at h ⊢
      by_cases c3 : b < 0 ∨ 1048575 < b
      · rw [if_pos c3] at h; simp at h
      · rw [if_neg c3]
        refine ⟨by omega, by omega, ?_⟩
        simp only
        have e1 : (1 + a * 2 + c * 32 + d * 131072 + b * 536870912) / 2 % 16 = a := by omega
        have e2 : (1 + a * 2 + c * 32 + d * 131072 + b * 536870912) / 536870912 % 1048576 = b := by omega
        have e3 : (1 + a * 2 + c * 32 + d * 131072 + b * 536870912) / 32 % 4096 = c := by omega
        have e4 : (1 + a * 2 + c * 32 + d * 131072 + b * 536870912) / 131072 % 4096 = d := by omega
        unfold unp5
        rw [if_neg (by unfold bad; omega), if_neg (by unfold much; omega), e1, e2, e3, e4]
/-- What is read is packed as it was. -/
theorem pack_unp (x : Int) (h : (unp5 x).2.2.2.2 = 0) : pack (unp5 x).1 (unp5 x).2.1 (unp5 x).2.2.1 (unp5 x).2.2.2.1 = (x, 0) := by
  unfold unp5 at h ⊢
  by_cases c : bad x
  · rw [if_pos c] at h; simp at h
  · rw [if_neg c] at h ⊢
    by_cases d : much x
    · rw [if_pos d] at h; simp at h
    · rw [if_neg d]
      unfold bad at c
      unfold much at d
      unfold pack
      simp only
      rw [if_neg (by omega), if_neg (by omega), if_neg (by omega)]
      congr 1
      omega
theorem unp_bad (x : Int) (h : (unp5 x).2.2.2.2 ≠ 0) : (unp5 x).1 = 0 ∧ (unp5 x).2.1 = 0 ∧ (unp5 x).2.2.1 = 0 ∧ (unp5 x).2.2.2.1 = 0 := by
  unfold unp5 at h ⊢
  by_cases c : bad x
  · rw [if_pos c]; simp
  · rw [if_neg c] at h ⊢
    by_cases d : much x
    · rw [if_pos d]; simp
    · rw [if_neg d] at h; simp at h
theorem unp5_range (x : Int) : (-9223372036854775808 ≤ (unp5 x).1 ∧ (unp5 x).1 ≤ 9223372036854775807) ∧ (-9223372036854775808 ≤ (unp5 x).2.1 ∧ (unp5 x).2.1 ≤ 9223372036854775807) ∧ (-9223372036854775808 ≤ (unp5 x).2.2.1 ∧ (unp5 x).2.2.1 ≤ 9223372036854775807) ∧ (-9223372036854775808 ≤ (unp5 x).2.2.2.1 ∧ (unp5 x).2.2.2.1 ≤ 9223372036854775807) := by
  unfold unp5
  by_cases c : bad x
  · rw [if_pos c]; simp
  · rw [if_neg c]
    by_cases d : much x
    · rw [if_pos d]; simp
    · rw [if_neg d]; simp only; omega
end Go.Proofs.YtkfmenmnbhenoaaDoor.Num
