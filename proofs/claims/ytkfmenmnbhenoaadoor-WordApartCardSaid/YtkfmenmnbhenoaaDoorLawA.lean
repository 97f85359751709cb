/- For every 64-bit word w and all headers a, b (fields any 64-bit numbers), the law WordApart tells true: no word is a header's and an address's; unlike headers have unlike words. No condition, but that the table masks reads as the program's text lays it. -/
import Derived.Test.YtkfmenmnbhenoaaDoorNum
import Derived.Test.YtkfmenmnbhenoaaDoorMasks
import Derived.Test.YtkfmenmnbhenoaaDoorKit
set_option linter.unusedVariables false
namespace Go.Proofs.YtkfmenmnbhenoaaDoor.LawA
open Go.RowKit Go.Proofs.YtkfmenmnbhenoaaDoor.PWordUnpacks Go.Proofs.YtkfmenmnbhenoaaDoorW.PrintWords Go.Proofs.YtkfmenmnbhenoaaDoorW.PrintLast Go.Proofs.YtkfmenmnbhenoaaDoorW.PrintMore
def Reads (x k i p n e : Int) (w : World) : Prop := Calls Tryd.prog 6 #[.int .u64 x] w fun r w' => r = .returned (.tuple #[.agg #[.int .i64 k, .int .i64 i, .int .i64 p, .int .i64 n], .int .i64 e]) ∧ Below w.heap.size w w'
def Packs (a b c d x e : Int) : Prop := ∀ w : World, Calls Tryd.prog 9 #[.agg #[.int .i64 a, .int .i64 b, .int .i64 c, .int .i64 d]] w fun r w' => r = .returned (.tuple #[.int .u64 x, .int .i64 e]) ∧ Below w.heap.size w w'
def Moves (x at_ : Int) (ok : Bool) : Prop := ∀ w : World, Calls Tryd.prog 10 #[.int .u64 x] w fun r w' => r = .returned (.tuple #[.int .i64 at_, .bool ok]) ∧ Drawn0 w w'
set_option maxHeartbeats 1000000 in
theorem law_both (z k i p n e at_ : Int) (ok : Bool) (a b c d x f a' b' c' d' y g : Int) (w : World) (hr : ∀ w' : World, Below w.heap.size w w' → Reads z k i p n e w') (hm : Moves z at_ ok)
  (hp : Packs a b c d x f) (hq : Packs a' b' c' d' y g) :
   Calls Tryd.prog 5 #[.int .u64 z, .agg #[.int .i64 a, .int .i64 b, .int .i64 c, .int .i64 d], .agg #[.int .i64 a', .int .i64 b', .int .i64 c', .int .i64 d']] w fun r w' => r = .returned (.bool ((!(e == 0) || !ok) && (!(f == 0) || !(g == 0) || ((x == y) == (((a == a' && b == b') && c == c') && d == d'))))) ∧ Below w.heap.size w w' := by
  go_enter Tryd.func5, Tryd.ntmps5
  have B0 := Aside0.mk (below_alloc (below_alloc (Below.refl w.heap.size w) (.cells #[.int .i64 a, .int .i64 b, .int .i64 c, .int .i64 d] 24 (0, 0))) (.cells #[.int .i64 a', .int .i64 b', .int .i64 c', .int .i64 d'] 24 (0, 0)))
  have K0 := Aside0.mk (Kit.keep_alloc (Kit.new_blk w (.cells #[.int .i64 a, .int .i64 b, .int .i64 c, .int .i64 d] 24 (0, 0))) (.cells #[.int .i64 a', .int .i64 b', .int .i64 c', .int .i64 d'] 24 (0, 0)))
  have L0 := Aside0.mk (Kit.new_blk2 w (.cells #[.int .i64 a, .int .i64 b, .int .i64 c, .int .i64 d] 24 (0, 0)) (.cells #[.int .i64 a', .int .i64 b', .int .i64 c', .int .i64 d'] 24 (0, 0)))
  go_wp2_with fail
  refine (hr _ B0.out).mono ?_; rintro e w1 ⟨rfl, hb⟩
  have B1 := Aside0.mk (below_alloc (below_step B0.out hb) (.cells #[.int .i64 k, .int .i64 i, .int .i64 p, .int .i64 n] 24 (0, 0)))
  have K1 := Aside0.mk (Kit.keep_alloc (Kit.keepB K0.out hb) (.cells #[.int .i64 k, .int .i64 i, .int .i64 p, .int .i64 n] 24 (0, 0)))
  have L1 := Aside0.mk (Kit.keep_alloc (Kit.keepB L0.out hb) (.cells #[.int .i64 k, .int .i64 i, .int .i64 p, .int .i64 n] 24 (0, 0)))
  clear hb
  go_wp2_with fail
  refine (hm _).mono ?_; rintro e w2 ⟨rfl, hd⟩
  have B2 := Aside0.mk (below_step B1.out hd.below)
  have K2 := Aside0.mk (Kit.keepB K1.out hd.below)
  have L2 := Aside0.mk (Kit.keepB L1.out hd.below)
  clear hd
  obtain ⟨a0, a1, a2, a3⟩ := Kit.cells4 K2.out
  go_wp2_with fail
  refine (hp _).mono ?_; rintro e w3 ⟨rfl, hb⟩
  have B3 := Aside0.mk (below_step B2.out hb)
  have K3 := Aside0.mk (Kit.keepB K2.out hb)
  have L3 := Aside0.mk (Kit.keepB L2.out hb)
  clear hb
  clear a0 a1 a2 a3
  obtain ⟨a0, a1, a2, a3⟩ := Kit.cells4 L3.out
  go_wp2_with fail
  refine (hq _).mono ?_; rintro e w4 ⟨rfl, hb⟩
  have B4 := Aside0.mk (below_step B3.out hb)
  have K4 := Aside0.mk (Kit.keepB K3.out hb)
  have L4 := Aside0.mk (Kit.keepB L3.out hb)
  clear hb
  clear a0 a1 a2 a3
  go_wp2_with fail
  refine (middenlaw01_awake.calls 5 true _ Num.awake_true).mono ?_; rintro e w5 ⟨rfl, hb⟩
  have B5 := Aside0.mk (below_step B4.out hb)
  obtain ⟨a0, a1, a2, a3⟩ := Kit.cells4 (Kit.keepB K4.out hb)
  obtain ⟨b0, b1, b2, b3⟩ := Kit.cells4 (Kit.keepB L4.out hb)
  clear hb
  go_wp2_with fail
  all_goals
    go_ret
    refine ⟨Kit.ret_bool ?_, B5.out⟩
  all_goals first
    | (simp [*]; done)
    | ((have q : (a == a') = false := beq_eq_false_iff_ne.2 (by assumption)); rw [q]; simp [*]; done)
    | ((have q : (b == b') = false := beq_eq_false_iff_ne.2 (by assumption)); rw [q]; simp [*]; done)
    | ((have q : (c == c') = false := beq_eq_false_iff_ne.2 (by assumption)); rw [q]; simp [*]; done)
    | ((have q : (d == d') = false := beq_eq_false_iff_ne.2 (by assumption)); rw [q]; simp [*]; done)
/-- What reading an address comes to. -/
def moved (w : Int) : Int × Bool := if w % 2 = 1 ∨ w = 0 ∨ 1048576 < w then (0, false) else (w / 2, true)
theorem moved_it (w : Int) (h0 : 0 ≤ w) (h1 : w ≤ 18446744073709551615) : word_Moved.f w = some (moved w) := by
  unfold word_Moved.f moved
  rw [Unp.and_1 w h0 h1]
  by_cases c1 : w % 2 = 0
  · rw [if_pos c1]
    by_cases c2 : w = 0
    · rw [if_pos c2, if_pos (by omega)]
    · rw [if_neg c2]
      by_cases c3 : w > 1048576
      · rw [if_pos c3, if_pos (by omega)]
      · rw [if_neg c3, if_neg (by omega), show wrap64 (w / 2) = w / 2 by unfold wrap64; omega]
  · rw [if_neg c1, if_pos (by omega)]
theorem table {w w' : World} (hb : Below w.heap.size w w') (hz : 0 < w.heap.size) {j : Nat} {v : Value} (m : w.cell? ⟨0, j, none⟩ = some v) : w'.cell? ⟨0, j, none⟩ = some v := (hb.cell (p := ⟨0, j, none⟩) hz).trans m
theorem first (z : Int) : (!((Num.unp5 z).2.2.2.2 == 0) || !(moved z).2) = true := by
  unfold Num.unp5 moved
  by_cases c : Unp.bad z
  · rw [if_pos c]; simp
  · unfold Unp.bad at c
    rw [if_pos (show z % 2 = 1 ∨ z = 0 ∨ 1048576 < z by omega)]
    simp
theorem second (a b c d a' b' c' d' : Int) : (!((Num.pack a b c d).2 == 0) || !((Num.pack a' b' c' d').2 == 0) || (((Num.pack a b c d).1 == (Num.pack a' b' c' d').1) == (((a == a' && b == b') && c == c') && d == d'))) = true := by
  by_cases P : (Num.pack a b c d).2 = 0
  · by_cases Q : (Num.pack a' b' c' d').2 = 0
    · have e1 := (Num.unp_pack a b c d P).2.2
      have e2 := (Num.unp_pack a' b' c' d' Q).2.2
      by_cases h : (Num.pack a b c d).1 = (Num.pack a' b' c' d').1
      · rw [h, e2] at e1
        simp only [Prod.mk.injEq] at e1
        obtain ⟨h1, h2, h3, h4, _⟩ := e1
        rw [h, h1, h2, h3, h4]
        simp
      · have hne : ¬ (((a = a' ∧ b = b') ∧ c = c') ∧ d = d') := by
          rintro ⟨⟨⟨rfl, rfl⟩, rfl⟩, rfl⟩
          exact h rfl
        have e3 : ((Num.pack a b c d).1 == (Num.pack a' b' c' d').1) = false := beq_eq_false_iff_ne.2 h
        have e4 : (((a == a' && b == b') && c == c') && d == d') = false := by
          rw [Bool.eq_false_iff]
          intro ht
          simp only [Bool.and_eq_true, beq_iff_eq] at ht
          exact hne ht
        rw [e3, e4]
        simp
    · simp [Q]
  · simp [P]
theorem law (z a b c d a' b' c' d' : Int) (w : World) (ha : -9223372036854775808 ≤ a ∧ a ≤ 9223372036854775807) (hb : -9223372036854775808 ≤ b ∧ b ≤ 9223372036854775807) (hc : -9223372036854775808 ≤ c ∧ c ≤ 9223372036854775807) (hd : -9223372036854775808 ≤ d ∧ d ≤ 9223372036854775807)
   (ha' : -9223372036854775808 ≤ a' ∧ a' ≤ 9223372036854775807) (hb' : -9223372036854775808 ≤ b' ∧ b' ≤ 9223372036854775807) (hc' : -9223372036854775808 ≤ c' ∧ c' ≤ 9223372036854775807) (hd' : -9223372036854775808 ≤ d' ∧ d' ≤ 9223372036854775807)
   (h0 : 0 ≤ z) (h1 : z ≤ 18446744073709551615) (hz : 0 < w.heap.size)
   (m0 : w.cell? ⟨0, 0, none⟩ = some (.int .u64 15)) (m1 : w.cell? ⟨0, 1, none⟩ = some (.int .u64 4095)) (m2 : w.cell? ⟨0, 2, none⟩ = some (.int .u64 4095)) (m3 : w.cell? ⟨0, 3, none⟩ = some (.int .u64 1048575)) :
   Calls Tryd.prog 5 #[.int .u64 z, .agg #[.int .i64 a, .int .i64 b, .int .i64 c, .int .i64 d], .agg #[.int .i64 a', .int .i64 b', .int .i64 c', .int .i64 d']] w fun r w' => r = .returned (.bool true) ∧ Below w.heap.size w w' := by
  have rd : ∀ w', Below w.heap.size w w' → Reads z (Num.unp5 z).1 (Num.unp5 z).2.1 (Num.unp5 z).2.2.1 (Num.unp5 z).2.2.2.1 (Num.unp5 z).2.2.2.2 w' := fun w' hbl => by
    have h := Unp.unpack z w' h0 h1 (Nat.lt_of_lt_of_le hz hbl.size) (table hbl hz m0) (table hbl hz m1) (table hbl hz m2) (table hbl hz m3)
    rw [Num.unp_eq z] at h
    exact h
  refine (law_both z _ _ _ _ _ (moved z).1 (moved z).2 a b c d (Num.pack a b c d).1 (Num.pack a b c d).2 a' b' c' d' (Num.pack a' b' c' d').1 (Num.pack a' b' c' d').2 w rd (fun w' => word_Moved.calls z (moved z).1 (moved z).2 w' (moved_it z h0 h1)) (fun w' => word_Pack.calls 5 a b c d (Num.pack a b c d).1 (Num.pack a b c d).2 w' (Num.pack_it a b c d ha hb hc hd)) (fun w' => word_Pack.calls 5 a' b' c' d' (Num.pack a' b' c' d').1 (Num.pack a' b' c' d').2 w' (Num.pack_it a' b' c' d' ha' hb' hc' hd'))).mono ?_
  rintro r w' ⟨rfl, h⟩
  exact ⟨Kit.ret_bool (by rw [first, second]; rfl), h⟩
open Go.ChangeShapes Go.WideShapes Go.Joins
theorem walk {H : Type} {enc : TypeId × Value → H} (W : World) {base : Nat} {v0 v1 v2 : Value} {d0 d1 d2 : DataW H} {p0 p1 p2 : List MemPlace}
    (h0 : DataW.Trod enc Tryd.prog W 0 (fun _ => true) true 22 v0 d0 p0) (o0 : Value.okWide Tryd.prog W .any base 22 v0)
    (h1 : DataW.Trod enc Tryd.prog W 0 (fun _ => true) true 24 v1 d1 p1) (o1 : Value.okWide Tryd.prog W .any base 24 v1)
    (h2 : DataW.Trod enc Tryd.prog W 0 (fun _ => true) true 24 v2 d2 p2) (o2 : Value.okWide Tryd.prog W .any base 24 v2) {hs : Prop} (_ : hs) (hL : laidMetH Tryd.prog Rows.wordApartRow.laid W) :
    Calls Tryd.prog 5 #[v0, v1, v2] W fun e w' => e = .returned (.bool true) ∧ Below W.heap.size W w' := by
  obtain ⟨c10, c11, c12, c13, y10, y11, y12, y13, n1, rfl, rfl, rfl, hy10, hy11, hy12, hy13⟩ := open_agg4 Tryd.underlying24 (by kernel_rfl) (by kernel_rfl) o1 h1
  obtain ⟨a10, e10, rfl, w10⟩ := DataW.trod_int Tryd.underlying3 hy10
  obtain ⟨a11, e11, rfl, w11⟩ := DataW.trod_int Tryd.underlying3 hy11
  obtain ⟨a12, e12, rfl, w12⟩ := DataW.trod_int Tryd.underlying3 hy12
  obtain ⟨a13, e13, rfl, w13⟩ := DataW.trod_int Tryd.underlying3 hy13
  simp only [List.cons.injEq, and_true] at e10 e11 e12 e13
  subst e10 e11 e12 e13
  obtain ⟨c20, c21, c22, c23, y20, y21, y22, y23, n2, rfl, rfl, rfl, hy20, hy21, hy22, hy23⟩ := open_agg4 Tryd.underlying24 (by kernel_rfl) (by kernel_rfl) o2 h2
  obtain ⟨a20, e20, rfl, w20⟩ := DataW.trod_int Tryd.underlying3 hy20
  obtain ⟨a21, e21, rfl, w21⟩ := DataW.trod_int Tryd.underlying3 hy21
  obtain ⟨a22, e22, rfl, w22⟩ := DataW.trod_int Tryd.underlying3 hy22
  obtain ⟨a23, e23, rfl, w23⟩ := DataW.trod_int Tryd.underlying3 hy23
  simp only [List.cons.injEq, and_true] at e20 e21 e22 e23
  subst e20 e21 e22 e23
  obtain ⟨a0, rfl, rfl, rfl, w0⟩ := open_int Tryd.underlying22 o0 h0
  obtain ⟨hz, m0, m1, m2, m3⟩ := Masks.of_laid hL
  exact law a0 a10 a11 a12 a13 a20 a21 a22 a23 W (bounds_i64 w10) (bounds_i64 w11) (bounds_i64 w12) (bounds_i64 w13) (bounds_i64 w20) (bounds_i64 w21) (bounds_i64 w22) (bounds_i64 w23) (bounds_u64 w0).1 (bounds_u64 w0).2 hz m0 m1 m2 m3
end Go.Proofs.YtkfmenmnbhenoaaDoor.LawA
