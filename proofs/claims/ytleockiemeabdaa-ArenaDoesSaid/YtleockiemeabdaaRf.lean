/- The reference's arena: its calls, one contract each. -/
import Derived.Test.YtleockiemeabdaaAr
import Derived.Deep.AppendSrc
import Derived.StillTailTactics
import Derived.IntWalk
set_option linter.unusedVariables false
namespace Go.Proofs.Ytleockiemeabdaa.Rf
open Go.RowKit
open Rw (row)
open Ar
theorem new_ok (w : World) (n : Int) (n1 : 1 ≤ n) (n2 : n ≤ 524288) :
    Calls Try.prog 14 #[.int .i64 n] w fun e w' => ∃ g r, e = .returned (.tuple #[.pointer (some ⟨g, 0, none⟩), .int .i64 0]) ∧ w.heap.size ≤ g ∧ w.heap.size ≤ r ∧ Own 45 w' g r (List.replicate n.toNat 0) ∧ Below w.heap.size w w' := by
  have hmk := Rw.made Try.prog w 43 22 .u64 8 Try.underlying43 info22 n (by omega) (by omega) (by omega)
  go_enter Try.func14, Try.ntmps14
  go_wp2_with fail
  go_ret2
  have b1 := Kit.new_blk w (Rw.row .u64 22 (List.replicate n.toNat 0))
  have b2 := Kit.new_blk2 w (Rw.row .u64 22 (List.replicate n.toNat 0)) (.cells #[.slice (some ⟨w.heap.size, 0, none⟩) n.toNat n.toNat] 45 (0, 0))
  refine ⟨w.heap.size + 1, w.heap.size, rfl, by omega, by omega, ⟨?_, Kit.keep_alloc b1 _, by simp; omega, fun x hx => ?_⟩, ((Below.refl _ _).alloc (Nat.le_refl _) _).alloc (by simp) _⟩
  · rw [List.length_replicate]; exact b2
  · rw [List.mem_replicate] at hx; omega
theorem new_bad (w : World) (n : Int) (h : n < 1 ∨ 524288 < n) :
    Calls Try.prog 14 #[.int .i64 n] w fun e w' => e = .returned (.tuple #[.pointer none, .int .i64 7]) ∧ w = w' := by
  by_cases c : n < 1
  · go_enter Try.func14, Try.ntmps14
    go_wp2_with fail
    go_ret2
    exact ⟨rfl, rfl⟩
  · have h' : 524288 < n := by omega
    clear h
    go_enter Try.func14, Try.ntmps14
    go_wp2_with fail
    go_ret2
    exact ⟨rfl, rfl⟩
theorem rngD {T : TypeId} {w : World} {g r : Nat} {xs : List Int} (h : Own T w g r xs) (i : Nat) : 0 ≤ xs.getD i 0 ∧ xs.getD i 0 ≤ 18446744073709551615 := by
  rw [List.getD_eq_getElem?_getD]
  by_cases hi : i < xs.length
  · rw [List.getElem?_eq_getElem hi]
    exact h.rng _ (List.getElem_mem hi)
  · rw [List.getElem?_eq_none (by omega)]
    simp
def rowB (n : Nat) (i m : Int) : Bool := decide (0 ≤ i ∧ i ≤ n ∧ m ≤ n - i)
theorem row_any (w : World) (g r : Nat) (xs : List Int) (i m : Int) (h : Own 45 w g r xs) (m0 : -9223372036854775808 ≤ m) (m1 : m ≤ 9223372036854775807) :
    Calls Try.prog 25 #[.pointer (some ⟨g, 0, none⟩), .int .i64 i, .int .i64 m] w fun e w' => e = .returned (.bool (rowB xs.length i m)) ∧ w = w' := by
  have c := Kit.cells1 h.obj
  have hs := h.small
  unfold rowB
  by_cases hi : 0 ≤ i ∧ i ≤ xs.length ∧ m ≤ xs.length - i
  · rw [show decide _ = true from decide_eq_true hi]
    obtain ⟨h0, h1, h2⟩ := hi
    go_enter Try.func25, Try.ntmps25
    go_wp2_with fail
    go_ret
    exact ⟨rfl, rfl⟩
  · rw [show decide _ = false from decide_eq_false hi]
    by_cases h0 : i < 0
    · go_enter Try.func25, Try.ntmps25
      go_wp2_with fail
      go_ret
      exact ⟨rfl, rfl⟩
    · by_cases h1 : xs.length < i
      · clear hi
        go_enter Try.func25, Try.ntmps25
        go_wp2_with fail
        go_ret
        exact ⟨rfl, rfl⟩
      · have h2 : xs.length - i < m := by omega
        have h1' : i ≤ xs.length := by omega
        clear hi
        go_enter Try.func25, Try.ntmps25
        go_wp2_with fail
        go_ret
        exact ⟨Kit.ret_bool (by simp; omega), rfl⟩
theorem read_any (w : World) (g r : Nat) (xs : List Int) (i : Int) (h : Own 45 w g r xs) :
    Calls Try.prog 24 #[.pointer (some ⟨g, 0, none⟩), .int .i64 i] w fun e w' => e = .returned (.tuple #[.int .u64 (readV xs i), .int .i64 (atE xs.length i)]) ∧ w = w' := by
  have c := Kit.cells1 h.obj
  have hs := h.small
  unfold readV atE
  by_cases hi : 0 ≤ i ∧ i < xs.length
  · rw [if_pos hi, if_pos hi]
    obtain ⟨k, rfl⟩ := Int.eq_ofNat_of_zero_le hi.1
    have hk : k < xs.length := by omega
    have cv := Rw.cell h.row k hk
    clear hi
    go_enter Try.func24, Try.ntmps24
    go_wp2_with fail
    go_ret2
    exact ⟨by simp [hk], rfl⟩
  · rw [if_neg hi, if_neg hi]
    by_cases h0 : i < 0
    · go_enter Try.func24, Try.ntmps24
      go_wp2_with fail
      go_ret2
      exact ⟨rfl, rfl⟩
    · have h1 : xs.length ≤ i := by omega
      clear hi
      go_enter Try.func24, Try.ntmps24
      go_wp2_with fail
      go_ret2
      exact ⟨rfl, rfl⟩
theorem write_any (w : World) (g r : Nat) (xs : List Int) (i v : Int) (h : Own 45 w g r xs) (v0 : 0 ≤ v) (v1 : v ≤ 18446744073709551615) :
    Calls Try.prog 21 #[.pointer (some ⟨g, 0, none⟩), .int .i64 i, .int .u64 v] w fun e w' => e = .returned (.int .i64 (atE xs.length i)) ∧ Own 45 w' g r (writeV xs i v) ∧ Kit.Mod [r] w w' := by
  have c := Kit.cells1 h.obj
  have hs := h.small
  unfold writeV atE
  by_cases hi : 0 ≤ i ∧ i < xs.length
  · rw [if_pos hi, if_pos hi]
    obtain ⟨k, rfl⟩ := Int.eq_ofNat_of_zero_le hi.1
    have hk : k < xs.length := by omega
    have cv := Rw.cell h.row k hk
    have fv := Rw.frozen h.row k
    clear hi
    go_enter Try.func21, Try.ntmps21
    go_wp2_with fail
    go_ret
    exact ⟨rfl, h.set (by decide) k v v0 v1, (Kit.Mod.refl _ _).setCell (.inl (by simp)) _⟩
  · rw [if_neg hi, if_neg hi]
    by_cases h0 : i < 0
    · go_enter Try.func21, Try.ntmps21
      go_wp2_with fail
      go_ret
      exact ⟨rfl, h, Kit.Mod.refl _ _⟩
    · have h1 : xs.length ≤ i := by omega
      clear hi
      go_enter Try.func21, Try.ntmps21
      go_wp2_with fail
      go_ret
      exact ⟨rfl, h, Kit.Mod.refl _ _⟩
theorem over_zeros (xs : List Int) (k i : Nat) (h : k + i + 1 ≤ xs.length) : (Rw.over xs k (List.replicate i 0)).set (k + i) 0 = Rw.over xs k (List.replicate (i + 1) 0) := by
  apply List.ext_getElem
  · rw [List.length_set, Rw.length_over _ _ _ (by simp; omega), Rw.length_over _ _ _ (by simp; omega)]
  · intro j h1 h2
    have a1 := Rw.over_getD xs k (List.replicate i 0) (by simp; omega) j
    have a2 := Rw.over_getD xs k (List.replicate (i + 1) 0) (by simp; omega) j
    rw [List.getD_eq_getElem?_getD, List.getElem?_eq_getElem (by rw [List.length_set] at h1; exact h1)] at a1
    rw [List.getD_eq_getElem?_getD, List.getElem?_eq_getElem h2] at a2
    simp only [Option.getD_some, List.length_replicate] at a1 a2
    rw [List.getElem_set, a1, a2]
    have z : ∀ n q : Nat, (List.replicate n (0 : Int)).getD q 0 = 0 := fun n q => by
      rw [List.getD_eq_getElem?_getD, List.getElem?_replicate]; split <;> rfl
    rw [z, z]
    by_cases e : k + i = j
    · rw [if_pos e, if_pos (by omega)]
    · rw [if_neg e]
      by_cases c : k ≤ j ∧ j < k + i
      · rw [if_pos c, if_pos (by omega)]
      · rw [if_neg c, if_neg (by omega)]
set_option maxHeartbeats 1000000 in
theorem clear_ok (w : World) (g r : Nat) (xs : List Int) (k q : Nat) (h : Own 45 w g r xs) (h1 : k + q ≤ xs.length) :
    Calls Try.prog 23 #[.pointer (some ⟨g, 0, none⟩), .int .i64 k, .int .i64 q] w fun e w' => e = .returned (.int .i64 0) ∧ Own 45 w' g r (Rw.over xs k (List.replicate q 0)) ∧ Kit.Mod [r] w w' := by
  have hs := h.small
  have hr := row_any w g r xs k q h (by omega) (by omega)
  rw [show rowB xs.length k q = true from decide_eq_true (by omega)] at hr
  have Hr := Lib.hid hr
  clear hr
  go_enter Try.func23, Try.ntmps23
  go_wp2_with fail
  refine (Hr.out).mono ?_; rintro e w' ⟨rfl, rfl⟩
  go_wp2_with fail
  have H0 : Hid (Own 45 w g r (Rw.over xs k (List.replicate 0 0))) := by
    show Own _ _ _ _ _
    rw [List.replicate_zero, Rw.over_nil]; exact h
  have M0 : Hid (Kit.Mod [r] w w) := Kit.Mod.refl _ _
  go_loopw [7] (fun i wr => ∃ j : Nat, j ≤ q ∧ i = .int .i64 j ∧ Hid (Own 45 wr g r (Rw.over xs k (List.replicate j 0))) ∧ Hid (Kit.Mod [r] w wr)) (fun i _ => q - (intOf i).toNat)
  case atStart => exact ⟨0, Nat.zero_le _, rfl, H0, M0⟩
  case round =>
    obtain ⟨j, hj, rfl, hO, hM⟩ := hrel
    by_cases hlt : j < q
    · have hl : (Rw.over xs k (List.replicate j 0)).length = xs.length := Rw.length_over _ _ _ (by simp; omega)
      have c := Kit.cells1 hO.out.obj
      have cv := Rw.cell hO.out.row (k + j) (by rw [hl]; omega)
      have fv := Rw.frozen hO.out.row (k + j)
      rw [hl] at c
      clear hl
      go_wp2_with fail
      have O2 := hO.out.set (by decide) (k + j) 0 (by omega) (by omega)
      rw [over_zeros xs k j (by omega)] at O2
      have M2 := Kit.Mod.setCell (p := ⟨r, k + j, none⟩) hM.out (.inl (by simp)) (.int .u64 0)
      go_roundw
      case rel => exact ⟨j + 1, by omega, by go_num, O2, M2⟩
      case measure => simp [intOf]; omega
    · obtain rfl : j = q := by omega
      go_wp2_with fail
      go_ret
      exact ⟨rfl, hO, hM⟩
theorem clear_any (w : World) (g r : Nat) (xs : List Int) (i m : Int) (h : Own 45 w g r xs) (m0 : -9223372036854775808 ≤ m) (m1 : m ≤ 9223372036854775807) :
    Calls Try.prog 23 #[.pointer (some ⟨g, 0, none⟩), .int .i64 i, .int .i64 m] w fun e w' => e = .returned (.int .i64 (clearE xs.length i m)) ∧ Own 45 w' g r (clearV xs i m) ∧ Kit.Mod [r] w w' := by
  have hs := h.small
  unfold clearE clearV rowE
  by_cases n0 : m < 0
  · rw [if_pos n0, if_neg (by omega)]
    go_enter Try.func23, Try.ntmps23
    go_wp2_with fail
    go_ret
    exact ⟨rfl, h, Kit.Mod.refl _ _⟩
  · rw [if_neg n0]
    by_cases hi : 0 ≤ i ∧ i ≤ xs.length ∧ m ≤ xs.length - i
    · rw [if_pos hi, if_pos ⟨by omega, hi⟩]
      obtain ⟨k, rfl⟩ := Int.eq_ofNat_of_zero_le hi.1
      obtain ⟨q, rfl⟩ := Int.eq_ofNat_of_zero_le (show 0 ≤ m by omega)
      rw [Int.toNat_natCast, Int.toNat_natCast]
      exact clear_ok w g r xs k q h (by omega)
    · rw [if_neg hi, if_neg (by omega)]
      have hr := row_any w g r xs i m h m0 m1
      rw [show rowB xs.length i m = false from decide_eq_false hi] at hr
      have Hr := Lib.hid hr
      clear hr hi
      go_enter Try.func23, Try.ntmps23
      go_wp2_with fail
      refine (Hr.out).mono ?_; rintro e w' ⟨rfl, rfl⟩
      go_wp2_with fail
      go_ret
      exact ⟨rfl, h, Kit.Mod.refl _ _⟩
theorem over_step (xs : List Int) (a b q i : Nat) (h1 : a + q ≤ xs.length) (h2 : b + q ≤ xs.length) (hi : i < q) : (Rw.over xs a ((xs.drop b).take i)).set (a + i) (xs.getD (b + i) 0) = Rw.over xs a ((xs.drop b).take (i + 1)) := by
  have l1 : ((xs.drop b).take i).length = i := by simp; omega
  have l2 : ((xs.drop b).take (i + 1)).length = i + 1 := by simp; omega
  apply List.ext_getElem
  · rw [List.length_set, Rw.length_over _ _ _ (by omega), Rw.length_over _ _ _ (by omega)]
  · intro j g1 g2
    have a1 := Rw.over_getD xs a ((xs.drop b).take i) (by omega) j
    have a2 := Rw.over_getD xs a ((xs.drop b).take (i + 1)) (by omega) j
    rw [List.getD_eq_getElem?_getD, List.getElem?_eq_getElem (by rw [List.length_set] at g1; exact g1)] at a1
    rw [List.getD_eq_getElem?_getD, List.getElem?_eq_getElem g2] at a2
    simp only [Option.getD_some] at a1 a2
    rw [List.getElem_set, a1, a2, l1, l2]
    have z : ∀ n p : Nat, p < n → ((xs.drop b).take n).getD p 0 = xs.getD (b + p) 0 := fun n p hp => by
      rw [List.getD_eq_getElem?_getD, List.getElem?_take_of_lt hp, List.getElem?_drop, ← List.getD_eq_getElem?_getD]
    by_cases e : a + i = j
    · rw [if_pos e, if_pos (by omega), z _ _ (by omega), show b + (j - a) = b + i by omega]
    · rw [if_neg e]
      by_cases c : a ≤ j ∧ j < a + i
      · rw [if_pos c, if_pos (by omega), z _ _ (by omega), z _ _ (by omega)]
      · rw [if_neg c, if_neg (by omega)]
set_option maxHeartbeats 2000000 in
theorem move_ok (w : World) (g r : Nat) (xs : List Int) (a b q : Nat) (h : Own 45 w g r xs) (hx : 1 ≤ xs.length) (h1 : a + q ≤ xs.length) (h2 : b + q ≤ xs.length) :
    Calls Try.prog 22 #[.pointer (some ⟨g, 0, none⟩), .int .i64 a, .int .i64 b, .int .i64 q] w fun e w' => e = .returned (.int .i64 0) ∧ Own 45 w' g r (Rw.over xs a ((xs.drop b).take q)) ∧ Kit.Mod [r] w w' := by
  have hs := h.small
  have ha := row_any w g r xs a q h (by omega) (by omega)
  have hb := row_any w g r xs b q h (by omega) (by omega)
  rw [show rowB xs.length a q = true from decide_eq_true (by omega)] at ha
  rw [show rowB xs.length b q = true from decide_eq_true (by omega)] at hb
  have Ha := Lib.hid ha
  have Hb := Lib.hid hb
  clear ha hb
  have c := Kit.cells1 h.obj
  have gz := Kit.lt_of h.obj
  have rz := Kit.lt_of h.row
  obtain ⟨i22, hi22, hz22, hs22, hb22⟩ := info_parts info22
  obtain ⟨cp, cur, hap, hcur⟩ := Rw.appended Try.prog (Kit.keep_alloc h.row (.cells #[] 22 (0, 0))) 43 43 i22 Try.underlying43 hi22 hz22 hs22 hb22 (some ⟨w.heap.size, 0, none⟩) xs.length xs.length rfl (by omega) (by omega)
  have Hcur := Lib.hid hcur
  have Hap := Lib.hid hap
  clear hcur hap hi22 hz22 hs22 hb22
  go_enter Try.func22, Try.ntmps22
  go_wp2_with fail
  refine (Ha.out).mono ?_; rintro e w' ⟨rfl, rfl⟩
  go_wp2_with fail
  refine (Hb.out).mono ?_; rintro e w' ⟨rfl, rfl⟩
  go_wp2_with (at_builtin; refine Rw.wp_append rfl _ _ 43 _ _ _ rfl rfl rfl Hap.out ?_)
  have K1 : Hid (((((w.alloc (.cells #[] 22 (0, 0))).alloc (.cells cur 22 (0, 0))).drew).heap[w.heap.size + 1]? = some (.cells cur 22 (0, 0)))) := Kit.new_blk2 w _ _
  have O1 : Hid (Own 45 (((w.alloc (.cells #[] 22 (0, 0))).alloc (.cells cur 22 (0, 0))).drew) g r (Rw.over xs a ((xs.drop b).take 0))) := by
    show Own _ _ _ _ _
    rw [List.take_zero, Rw.over_nil]
    exact ⟨Kit.keep_alloc (Kit.keep_alloc h.obj _) _, Kit.keep_alloc (Kit.keep_alloc h.row _) _, h.small, h.rng⟩
  have M1 : Hid (Kit.Mod [r] w (((w.alloc (.cells #[] 22 (0, 0))).alloc (.cells cur 22 (0, 0))).drew)) := (((Kit.Mod.refl _ _).alloc _).alloc _).drew
  clear Hap
  go_loopw [10] (fun i wr => ∃ k : Nat, k ≤ q ∧ i = .int .i64 k ∧ Hid (Own 45 wr g r (Rw.over xs a ((xs.drop b).take k))) ∧ Hid (wr.heap[w.heap.size + 1]? = some (.cells cur 22 (0, 0))) ∧ Hid (Kit.Mod [r] w wr)) (fun i _ => q - (intOf i).toNat)
  case atStart => exact ⟨0, Nat.zero_le _, rfl, O1, K1, M1⟩
  case round =>
    obtain ⟨k, hk, rfl, hO, hK, hM⟩ := hrel
    clear O1 K1 M1 c
    by_cases hlt : k < q
    · have lk : ((xs.drop b).take k).length = k := by simp; omega
      have hl : (Rw.over xs a ((xs.drop b).take k)).length = xs.length := Rw.length_over _ _ _ (by omega)
      have c1 := Kit.cells1 hO.out.obj
      rw [hl] at c1
      have c2 := (Kit.cell_of hK.out (b + k)).trans (Hcur.out (b + k) (by omega))
      have c3 := Rw.cell hO.out.row (a + k) (by rw [hl]; omega)
      have f3 := Rw.frozen hO.out.row (a + k)
      clear lk hl
      go_wp2_with fail
      have s1 : IntKind.i64.wrap ((a : Int) + k) = (a : Int) + k := IntWalk.i64_in _ (by omega)
      have s2 : IntKind.i64.wrap ((b : Int) + k) = (b : Int) + k := IntWalk.i64_in _ (by omega)
      have s3 : (0 : Int) ≤ (a : Int) + k := by omega
      have s4 : (0 : Int) ≤ (b : Int) + k := by omega
      have s5 : ((a : Int) + k).toNat = a + k := by omega
      have s6 : ((b : Int) + k).toNat = b + k := by omega
      have s7 : (a : Int) + k < (xs.length : Int) := by omega
      have s8 : (b : Int) + k < (xs.length : Int) := by omega
      go_still_tail 14, (by kernel_rfl)
      change wpList _ _ _ _ _ wr.drew
      clear s1 s2 s3 s4 s5 s6 s7 s8 c1 c2
      have c4 : wr.drew.cell? ⟨r, a + k, none⟩ = some (.int .u64 ((Rw.over xs a ((xs.drop b).take k)).getD (a + k) 0)) := c3
      have f4 : wr.drew.frozen? ⟨r, a + k, none⟩ = false := f3
      have O2 : Own 45 wr.drew g r (Rw.over xs a ((xs.drop b).take k)) := ⟨hO.out.obj, hO.out.row, hO.out.small, hO.out.rng⟩
      have K2 : wr.drew.heap[w.heap.size + 1]? = some (.cells cur 22 (0, 0)) := hK.out
      have M2 : Kit.Mod [r] w wr.drew := hM.out.drew
      clear c3 f3
      generalize wr.drew = w2 at *
      have O3 := Lib.hid (O2.set (by decide) (a + k) (xs.getD (b + k) 0) (rngD h (b + k)).1 (rngD h (b + k)).2)
      have K3 := Lib.hid (Kit.set_far K2 (p := ⟨r, a + k, none⟩) (by show w.heap.size + 1 ≠ r; omega) (.int .u64 (xs.getD (b + k) 0)))
      have M3 := Lib.hid (Kit.Mod.setCell (p := ⟨r, a + k, none⟩) M2 (.inl (by simp)) (.int .u64 (xs.getD (b + k) 0)))
      clear O2 K2 M2
      have O4 : Hid (Own 45 (w2.setCell ⟨r, a + k, none⟩ (.int .u64 (xs.getD (b + k) 0))) g r (Rw.over xs a ((xs.drop b).take (k + 1)))) := by
        have := O3.out
        rw [over_step xs a b q k h1 h2 hlt] at this
        exact this
      clear O3
      go_wp2_with fail
      go_roundw
      case rel => exact ⟨k + 1, by omega, by go_num, O4, K3, M3⟩
      case measure => simp [intOf]; omega
    · obtain rfl : k = q := by omega
      go_wp2_with fail
      go_ret
      exact ⟨rfl, hO, hM⟩
theorem move_any (w : World) (g r : Nat) (xs : List Int) (a b n : Int) (h : Own 45 w g r xs) (hx : 1 ≤ xs.length) (m0 : -9223372036854775808 ≤ n) (m1 : n ≤ 9223372036854775807) :
    Calls Try.prog 22 #[.pointer (some ⟨g, 0, none⟩), .int .i64 a, .int .i64 b, .int .i64 n] w fun e w' => e = .returned (.int .i64 (moveE xs.length a b n)) ∧ Own 45 w' g r (moveV xs a b n) ∧ Kit.Mod [r] w w' := by
  have hs := h.small
  unfold moveV
  unfold moveE
  by_cases n0 : n < 0
  · rw [if_pos n0, if_neg (by decide)]
    go_enter Try.func22, Try.ntmps22
    go_wp2_with fail
    go_ret
    exact ⟨rfl, h, Kit.Mod.refl _ _⟩
  · rw [if_neg n0]
    have f : ∀ i m, rowE xs.length i m = 0 ↔ rowB xs.length i m = true := fun i m => by
      unfold rowE rowB
      by_cases d : 0 ≤ i ∧ i ≤ xs.length ∧ m ≤ xs.length - i
      · rw [if_pos d]; simp [d]
      · rw [if_neg d]; simp only [decide_eq_true_eq]
        exact ⟨fun h => absurd h (by decide), fun h => absurd h d⟩
    by_cases c : rowE xs.length a n = 0 ∧ rowE xs.length b n = 0
    · rw [if_pos c, if_pos rfl]
      have fa := of_decide_eq_true ((f a n).1 c.1)
      have fb := of_decide_eq_true ((f b n).1 c.2)
      obtain ⟨a, rfl⟩ := Int.eq_ofNat_of_zero_le fa.1
      obtain ⟨b, rfl⟩ := Int.eq_ofNat_of_zero_le fb.1
      obtain ⟨n, rfl⟩ := Int.eq_ofNat_of_zero_le (show 0 ≤ n by omega)
      simp only [Int.toNat_natCast]
      exact move_ok w g r xs a b n h hx (by omega) (by omega)
    · rw [if_neg c, if_neg (by decide)]
      rw [f, f] at c
      have ha := row_any w g r xs a n h m0 m1
      have hb := row_any w g r xs b n h m0 m1
      by_cases ca : rowB xs.length a n = true
      · have cb : rowB xs.length b n = false := by
          rw [Bool.eq_false_iff]; exact fun h => c ⟨ca, h⟩
        rw [ca] at ha
        rw [cb] at hb
        have Ha := Lib.hid ha
        have Hb := Lib.hid hb
        clear ha hb c ca cb f
        go_enter Try.func22, Try.ntmps22
        go_wp2_with fail
        refine (Ha.out).mono ?_; rintro e w' ⟨rfl, rfl⟩
        go_wp2_with fail
        refine (Hb.out).mono ?_; rintro e w' ⟨rfl, rfl⟩
        go_wp2_with fail
        go_ret
        exact ⟨rfl, h, Kit.Mod.refl _ _⟩
      · rw [Bool.eq_false_iff.2 ca] at ha
        have Ha := Lib.hid ha
        clear ha hb c ca f
        go_enter Try.func22, Try.ntmps22
        go_wp2_with fail
        refine (Ha.out).mono ?_; rintro e w' ⟨rfl, rfl⟩
        go_wp2_with fail
        go_ret
        exact ⟨rfl, h, Kit.Mod.refl _ _⟩
end Go.Proofs.Ytleockiemeabdaa.Rf
