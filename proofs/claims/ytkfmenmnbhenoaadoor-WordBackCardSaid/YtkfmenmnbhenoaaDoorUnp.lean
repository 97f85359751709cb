/- word.Unpack, for every word: the header or the error that unp tells (the table masks at its text's numbers). -/
import Derived.Test.YtkfmenmnbhenoaaDoorPWordUnpacksx
import Derived.OpenShut
import Derived.Lib.Hide
import Derived.ProofKit
namespace Go.Proofs.YtkfmenmnbhenoaaDoor.Unp
open Go.RowKit Go.Proofs.YtkfmenmnbhenoaaDoor.PWordUnpacks Go.Proofs.YtkfmenmnbhenoaaDoorW.PrintWords Go.Proofs.YtkfmenmnbhenoaaDoorW.PrintLast

theorem u64_wrap (n : Int) : IntKind.u64.wrap n = n % 18446744073709551616 := by
  simp [IntKind.wrap, IntKind.signed, IntKind.bits]
theorem p64 : (2 : Int) ^ 64 = 18446744073709551616 := by decide +kernel
theorem and_mask (i : Nat) (hi : i ≤ 64) (m : Int) (hm : (2 : Int) ^ i - 1 = m) (x : Int) (h0 : 0 ≤ x) (h1 : x ≤ 18446744073709551615) : Go.bits .and .u64 x m = x % 2 ^ i := by
  have := bits_mask .u64 64 (by decide) (fun n h0 h1 => by rw [p64] at h1; rw [u64_wrap]; omega) i hi x h0 (by rw [p64]; omega)
  rw [← hm]
  exact this
theorem and_1 (x : Int) (h0 : 0 ≤ x) (h1 : x ≤ 18446744073709551615) : Go.bits .and .u64 x 1 = x % 2 := and_mask 1 (by decide) 1 (by decide) x h0 h1
theorem and_15 (x : Int) (h0 : 0 ≤ x) (h1 : x ≤ 18446744073709551615) : Go.bits .and .u64 x 15 = x % 16 := and_mask 4 (by decide) 15 (by decide) x h0 h1
theorem and_4095 (x : Int) (h0 : 0 ≤ x) (h1 : x ≤ 18446744073709551615) : Go.bits .and .u64 x 4095 = x % 4096 := and_mask 12 (by decide) 4095 (by decide) x h0 h1
theorem and_m (x : Int) (h0 : 0 ≤ x) (h1 : x ≤ 18446744073709551615) : Go.bits .and .u64 x 1048575 = x % 1048576 := and_mask 20 (by decide) 1048575 (by decide) x h0 h1

/-- What reading a header's word comes to: kind, info, pointers, others, error. -/
def bad (x : Int) : Prop := x % 2 = 0 ∨ ¬ x / 562949953421312 = 0 ∨ x / 2 % 16 < 1 ∨ 12 < x / 2 % 16
instance (x : Int) : Decidable (bad x) := by unfold bad; infer_instance
def much (x : Int) : Prop := 4095 < x / 32 % 4096 + x / 131072 % 4096
instance (x : Int) : Decidable (much x) := by unfold much; infer_instance
def vHead (k i p n e : Int) : Value := .tuple #[.agg #[.int .i64 k, .int .i64 i, .int .i64 p, .int .i64 n], .int .i64 e]
def unp (x : Int) : Value := if bad x then vHead 0 0 0 0 6 else if much x then vHead 0 0 0 0 7 else vHead (x / 2 % 16) (x / 536870912 % 1048576) (x / 32 % 4096) (x / 131072 % 4096) 0

set_option maxHeartbeats 1000000 in
theorem unpack_good (x : Int) (w : World) (h0 : 0 ≤ x) (h1 : x ≤ 18446744073709551615) (hz : 0 < w.heap.size)
   (m0 : w.cell? ⟨0, 0, none⟩ = some (.int .u64 15)) (m1 : w.cell? ⟨0, 1, none⟩ = some (.int .u64 4095)) (m2 : w.cell? ⟨0, 2, none⟩ = some (.int .u64 4095)) (m3 : w.cell? ⟨0, 3, none⟩ = some (.int .u64 1048575))
   (b0 : x % 2 = 1) (b1 : x / 562949953421312 ≤ 0) (b2 : 1 ≤ x / 2 % 16) (b3 : x / 2 % 16 ≤ 12) (b4 : x / 32 % 4096 + x / 131072 % 4096 ≤ 4095) :
   Calls Tryd.prog 6 #[.int .u64 x] w fun e w' => e = .returned (vHead (x / 2 % 16) (x / 536870912 % 1048576) (x / 32 % 4096) (x / 131072 % 4096) 0) ∧ Below w.heap.size w w' := by
  have a0 := and_1 x h0 h1
  have a1 := and_15 (x / 2) (by omega) (by omega)
  have a2 := and_4095 (x / 32) (by omega) (by omega)
  have a3 := and_4095 (x / 131072) (by omega) (by omega)
  have a4 := and_m (x / 536870912) (by omega) (by omega)
  go_enter Tryd.func6, Tryd.ntmps6
  go_wp2_with fail
  exact bodyPost_ret (v := vHead (x / 2 % 16) (x / 536870912 % 1048576) (x / 32 % 4096) (x / 131072 % 4096) 0) (by simp [results, Tryd.results6, go_sem, vHead]) rfl ⟨rfl, ((((Below.refl _ _).alloc (Nat.le_refl _) _).alloc (by simp) _))⟩
set_option maxHeartbeats 1000000 in
theorem unpack_even (x : Int) (w : World) (h0 : 0 ≤ x) (h1 : x ≤ 18446744073709551615) (hz : 0 < w.heap.size)
   (m0 : w.cell? ⟨0, 0, none⟩ = some (.int .u64 15)) (m1 : w.cell? ⟨0, 1, none⟩ = some (.int .u64 4095)) (m2 : w.cell? ⟨0, 2, none⟩ = some (.int .u64 4095)) (m3 : w.cell? ⟨0, 3, none⟩ = some (.int .u64 1048575))
   (b0 : x % 2 = 0) :
   Calls Tryd.prog 6 #[.int .u64 x] w fun e w' => e = .returned (vHead 0 0 0 0 6) ∧ Below w.heap.size w w' := by
  have a0 := and_1 x h0 h1
  have a1 := and_15 (x / 2) (by omega) (by omega)
  have a2 := and_4095 (x / 32) (by omega) (by omega)
  have a3 := and_4095 (x / 131072) (by omega) (by omega)
  have a4 := and_m (x / 536870912) (by omega) (by omega)
  go_enter Tryd.func6, Tryd.ntmps6
  go_wp2_with fail
  exact bodyPost_ret (v := vHead 0 0 0 0 6) (by simp [results, Tryd.results6, go_sem, vHead]) rfl ⟨rfl, ((((Below.refl _ _).alloc (Nat.le_refl _) _).alloc (by simp) _))⟩
set_option maxHeartbeats 1000000 in
theorem unpack_high (x : Int) (w : World) (h0 : 0 ≤ x) (h1 : x ≤ 18446744073709551615) (hz : 0 < w.heap.size)
   (m0 : w.cell? ⟨0, 0, none⟩ = some (.int .u64 15)) (m1 : w.cell? ⟨0, 1, none⟩ = some (.int .u64 4095)) (m2 : w.cell? ⟨0, 2, none⟩ = some (.int .u64 4095)) (m3 : w.cell? ⟨0, 3, none⟩ = some (.int .u64 1048575))
   (b0 : x % 2 = 1) (b1 : 1 ≤ x / 562949953421312) :
   Calls Tryd.prog 6 #[.int .u64 x] w fun e w' => e = .returned (vHead 0 0 0 0 6) ∧ Below w.heap.size w w' := by
  have a0 := and_1 x h0 h1
  have a1 := and_15 (x / 2) (by omega) (by omega)
  have a2 := and_4095 (x / 32) (by omega) (by omega)
  have a3 := and_4095 (x / 131072) (by omega) (by omega)
  have a4 := and_m (x / 536870912) (by omega) (by omega)
  go_enter Tryd.func6, Tryd.ntmps6
  go_wp2_with fail
  exact bodyPost_ret (v := vHead 0 0 0 0 6) (by simp [results, Tryd.results6, go_sem, vHead]) rfl ⟨rfl, ((((Below.refl _ _).alloc (Nat.le_refl _) _).alloc (by simp) _))⟩
set_option maxHeartbeats 1000000 in
theorem unpack_zero (x : Int) (w : World) (h0 : 0 ≤ x) (h1 : x ≤ 18446744073709551615) (hz : 0 < w.heap.size)
   (m0 : w.cell? ⟨0, 0, none⟩ = some (.int .u64 15)) (m1 : w.cell? ⟨0, 1, none⟩ = some (.int .u64 4095)) (m2 : w.cell? ⟨0, 2, none⟩ = some (.int .u64 4095)) (m3 : w.cell? ⟨0, 3, none⟩ = some (.int .u64 1048575))
   (b0 : x % 2 = 1) (b1 : x / 562949953421312 ≤ 0) (b2 : x / 2 % 16 < 1) :
   Calls Tryd.prog 6 #[.int .u64 x] w fun e w' => e = .returned (vHead 0 0 0 0 6) ∧ Below w.heap.size w w' := by
  have a0 := and_1 x h0 h1
  have a1 := and_15 (x / 2) (by omega) (by omega)
  have a2 := and_4095 (x / 32) (by omega) (by omega)
  have a3 := and_4095 (x / 131072) (by omega) (by omega)
  have a4 := and_m (x / 536870912) (by omega) (by omega)
  go_enter Tryd.func6, Tryd.ntmps6
  go_wp2_with fail
  exact bodyPost_ret (v := vHead 0 0 0 0 6) (by simp [results, Tryd.results6, go_sem, vHead]) rfl ⟨rfl, ((((Below.refl _ _).alloc (Nat.le_refl _) _).alloc (by simp) _))⟩
set_option maxHeartbeats 1000000 in
theorem unpack_over (x : Int) (w : World) (h0 : 0 ≤ x) (h1 : x ≤ 18446744073709551615) (hz : 0 < w.heap.size)
   (m0 : w.cell? ⟨0, 0, none⟩ = some (.int .u64 15)) (m1 : w.cell? ⟨0, 1, none⟩ = some (.int .u64 4095)) (m2 : w.cell? ⟨0, 2, none⟩ = some (.int .u64 4095)) (m3 : w.cell? ⟨0, 3, none⟩ = some (.int .u64 1048575))
   (b0 : x % 2 = 1) (b1 : x / 562949953421312 ≤ 0) (b2 : 1 ≤ x / 2 % 16) (b3 : 12 < x / 2 % 16) :
   Calls Tryd.prog 6 #[.int .u64 x] w fun e w' => e = .returned (vHead 0 0 0 0 6) ∧ Below w.heap.size w w' := by
  have a0 := and_1 x h0 h1
  have a1 := and_15 (x / 2) (by omega) (by omega)
  have a2 := and_4095 (x / 32) (by omega) (by omega)
  have a3 := and_4095 (x / 131072) (by omega) (by omega)
  have a4 := and_m (x / 536870912) (by omega) (by omega)
  go_enter Tryd.func6, Tryd.ntmps6
  go_wp2_with fail
  exact bodyPost_ret (v := vHead 0 0 0 0 6) (by simp [results, Tryd.results6, go_sem, vHead]) rfl ⟨rfl, ((((Below.refl _ _).alloc (Nat.le_refl _) _).alloc (by simp) _))⟩
set_option maxHeartbeats 1000000 in
theorem unpack_much (x : Int) (w : World) (h0 : 0 ≤ x) (h1 : x ≤ 18446744073709551615) (hz : 0 < w.heap.size)
   (m0 : w.cell? ⟨0, 0, none⟩ = some (.int .u64 15)) (m1 : w.cell? ⟨0, 1, none⟩ = some (.int .u64 4095)) (m2 : w.cell? ⟨0, 2, none⟩ = some (.int .u64 4095)) (m3 : w.cell? ⟨0, 3, none⟩ = some (.int .u64 1048575))
   (b0 : x % 2 = 1) (b1 : x / 562949953421312 ≤ 0) (b2 : 1 ≤ x / 2 % 16) (b3 : x / 2 % 16 ≤ 12) (b4 : 4095 < x / 32 % 4096 + x / 131072 % 4096) :
   Calls Tryd.prog 6 #[.int .u64 x] w fun e w' => e = .returned (vHead 0 0 0 0 7) ∧ Below w.heap.size w w' := by
  have a0 := and_1 x h0 h1
  have a1 := and_15 (x / 2) (by omega) (by omega)
  have a2 := and_4095 (x / 32) (by omega) (by omega)
  have a3 := and_4095 (x / 131072) (by omega) (by omega)
  have a4 := and_m (x / 536870912) (by omega) (by omega)
  go_enter Tryd.func6, Tryd.ntmps6
  go_wp2_with fail
  exact bodyPost_ret (v := vHead 0 0 0 0 7) (by simp [results, Tryd.results6, go_sem, vHead]) rfl ⟨rfl, ((((Below.refl _ _).alloc (Nat.le_refl _) _).alloc (by simp) _))⟩

theorem unpack (x : Int) (w : World) (h0 : 0 ≤ x) (h1 : x ≤ 18446744073709551615) (hz : 0 < w.heap.size)
   (m0 : w.cell? ⟨0, 0, none⟩ = some (.int .u64 15)) (m1 : w.cell? ⟨0, 1, none⟩ = some (.int .u64 4095)) (m2 : w.cell? ⟨0, 2, none⟩ = some (.int .u64 4095)) (m3 : w.cell? ⟨0, 3, none⟩ = some (.int .u64 1048575)) :
   Calls Tryd.prog 6 #[.int .u64 x] w fun e w' => e = .returned (unp x) ∧ Below w.heap.size w w' := by
  unfold unp
  by_cases c : bad x
  · rw [if_pos c]
    unfold bad at c
    by_cases c0 : x % 2 = 0
    · exact unpack_even x w h0 h1 hz m0 m1 m2 m3 c0
    · by_cases c1 : x / 562949953421312 = 0
      · by_cases c2 : x / 2 % 16 < 1
        · exact unpack_zero x w h0 h1 hz m0 m1 m2 m3 (by omega) (by omega) c2
        · exact unpack_over x w h0 h1 hz m0 m1 m2 m3 (by omega) (by omega) (by omega) (by omega)
      · exact unpack_high x w h0 h1 hz m0 m1 m2 m3 (by omega) (by omega)
  · rw [if_neg c]
    unfold bad at c
    by_cases d : much x
    · rw [if_pos d]
      exact unpack_much x w h0 h1 hz m0 m1 m2 m3 (by omega) (by omega) (by omega) (by omega) d
    · rw [if_neg d]
      unfold much at d
      exact unpack_good x w h0 h1 hz m0 m1 m2 m3 (by omega) (by omega) (by omega) (by omega) (by omega)
end Go.Proofs.YtkfmenmnbhenoaaDoor.Unp
