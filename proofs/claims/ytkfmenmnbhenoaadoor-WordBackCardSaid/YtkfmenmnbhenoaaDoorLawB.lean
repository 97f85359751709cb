/- For every header h (its four fields any 64-bit numbers) and every 64-bit word w, the law WordBack tells true: a header that is laid is read as itself, and a word that is read is laid as itself. No condition, but that the table masks reads as the program's text lays it. -/
import Derived.Test.YtkfmenmnbhenoaaDoorNum
import Derived.Test.YtkfmenmnbhenoaaDoorMasks
import Derived.Test.YtkfmenmnbhenoaaDoorKit
set_option linter.unusedVariables false
namespace Go.Proofs.YtkfmenmnbhenoaaDoor.LawB
open Go.RowKit Go.Proofs.YtkfmenmnbhenoaaDoor.PWordUnpacks Go.Proofs.YtkfmenmnbhenoaaDoorW.PrintWords Go.Proofs.YtkfmenmnbhenoaaDoorW.PrintLast Go.Proofs.YtkfmenmnbhenoaaDoorW.PrintMore
def Reads (x k i p n e : Int) (w : World) : Prop := Calls Tryd.prog 6 #[.int .u64 x] w fun r w' => r = .returned (.tuple #[.agg #[.int .i64 k, .int .i64 i, .int .i64 p, .int .i64 n], .int .i64 e]) ∧ Below w.heap.size w w'
def Packs (a b c d x e : Int) : Prop := ∀ w : World, Calls Tryd.prog 9 #[.agg #[.int .i64 a, .int .i64 b, .int .i64 c, .int .i64 d]] w fun r w' => r = .returned (.tuple #[.int .u64 x, .int .i64 e]) ∧ Below w.heap.size w w'
/-- The table stays where it lies. -/
theorem table {w w' : World} (hb : Below w.heap.size w w') (hz : 0 < w.heap.size) {j : Nat} {v : Value} (m : w.cell? ⟨0, j, none⟩ = some v) : w'.cell? ⟨0, j, none⟩ = some v := (hb.cell (p := ⟨0, j, none⟩) hz).trans m
set_option maxHeartbeats 1000000 in
theorem law00 (a b c d y x e0 k i p n e1 : Int) (w : World) (hp : Packs a b c d x e0) (hr : ∀ w' : World, Below w.heap.size w w' → Reads y k i p n e1 w')
  (he0 : (e0 == 0) = false) (he1 : (!(e1 == 0)) = true) (he2 : (e1 == 0) = false) (hk : k = 0) (hi : i = 0) (hpp : p = 0) (hn : n = 0) :
   Calls Tryd.prog 4 #[.agg #[.int .i64 a, .int .i64 b, .int .i64 c, .int .i64 d], .int .u64 y] w fun e w' => e = .returned (.bool true) ∧ Below w.heap.size w w' := by
  go_enter Tryd.func4, Tryd.ntmps4
  have B0 := Aside0.mk (below_alloc (Below.refl w.heap.size w) (.cells #[.int .i64 a, .int .i64 b, .int .i64 c, .int .i64 d] 24 (0, 0)))
  have K0 := Aside0.mk (Kit.new_blk w (.cells #[.int .i64 a, .int .i64 b, .int .i64 c, .int .i64 d] 24 (0, 0)))
  go_wp2_with fail
  refine (middenlaw01_awake.calls 5 true _ Num.awake_true).mono ?_; rintro e w1 ⟨rfl, hb⟩
  have B1 := Aside0.mk (below_step B0.out hb)
  have K1 := Aside0.mk (Kit.keepB K0.out hb)
  clear hb
  obtain ⟨a0, a1, a2, a3⟩ := Kit.cells4 K1.out
  go_wp2_with fail
  refine (hp _).mono ?_; rintro e w2 ⟨rfl, hb⟩
  have B2 := Aside0.mk (below_step B1.out hb)
  have K2 := Aside0.mk (Kit.keepB K1.out hb)
  clear hb
  go_wp2_with fail
  refine (hr _ B2.out).mono ?_; rintro e w4 ⟨rfl, hb⟩
  have B4 := Aside0.mk (below_alloc (below_step B2.out hb) (.cells #[.int .i64 k, .int .i64 i, .int .i64 p, .int .i64 n] 24 (0, 0)))
  clear hb
  go_wp2_with fail
  go_ret
  subst hk hi hpp hn
  exact ⟨Kit.ret_bool (by simp), B4.out⟩
set_option maxHeartbeats 1000000 in
theorem law01 (a b c d y x e0 k i p n e1 : Int) (w : World) (hp : Packs a b c d x e0) (hr : ∀ w' : World, Below w.heap.size w w' → Reads y k i p n 0 w')
  (he0 : (e0 == 0) = false) (hpy : Packs k i p n y 0) :
   Calls Tryd.prog 4 #[.agg #[.int .i64 a, .int .i64 b, .int .i64 c, .int .i64 d], .int .u64 y] w fun e w' => e = .returned (.bool true) ∧ Below w.heap.size w w' := by
  go_enter Tryd.func4, Tryd.ntmps4
  have B0 := Aside0.mk (below_alloc (Below.refl w.heap.size w) (.cells #[.int .i64 a, .int .i64 b, .int .i64 c, .int .i64 d] 24 (0, 0)))
  have K0 := Aside0.mk (Kit.new_blk w (.cells #[.int .i64 a, .int .i64 b, .int .i64 c, .int .i64 d] 24 (0, 0)))
  go_wp2_with fail
  refine (middenlaw01_awake.calls 5 true _ Num.awake_true).mono ?_; rintro e w1 ⟨rfl, hb⟩
  have B1 := Aside0.mk (below_step B0.out hb)
  have K1 := Aside0.mk (Kit.keepB K0.out hb)
  clear hb
  obtain ⟨a0, a1, a2, a3⟩ := Kit.cells4 K1.out
  go_wp2_with fail
  refine (hp _).mono ?_; rintro e w2 ⟨rfl, hb⟩
  have B2 := Aside0.mk (below_step B1.out hb)
  have K2 := Aside0.mk (Kit.keepB K1.out hb)
  clear hb
  go_wp2_with fail
  refine (hr _ B2.out).mono ?_; rintro e w4 ⟨rfl, hb⟩
  have B4 := Aside0.mk (below_alloc (below_step B2.out hb) (.cells #[.int .i64 k, .int .i64 i, .int .i64 p, .int .i64 n] 24 (0, 0)))
  clear hb
  go_wp2_with fail
  refine (hpy _).mono ?_; rintro e w5 ⟨rfl, hb⟩
  have B5 := Aside0.mk (below_step B4.out hb)
  clear hb
  go_wp2_with fail
  go_ret
  exact ⟨Kit.ret_bool (by simp), B5.out⟩
set_option maxHeartbeats 1000000 in
theorem law10 (a b c d y x e0 k i p n e1 : Int) (w : World) (hp : Packs a b c d x 0) (hr : ∀ w' : World, Below w.heap.size w w' → Reads y k i p n e1 w')
  (hrx : ∀ w' : World, Below w.heap.size w w' → Reads x a b c d 0 w') (he1 : (!(e1 == 0)) = true) (he2 : (e1 == 0) = false) (hk : k = 0) (hi : i = 0) (hpp : p = 0) (hn : n = 0) :
   Calls Tryd.prog 4 #[.agg #[.int .i64 a, .int .i64 b, .int .i64 c, .int .i64 d], .int .u64 y] w fun e w' => e = .returned (.bool true) ∧ Below w.heap.size w w' := by
  go_enter Tryd.func4, Tryd.ntmps4
  have B0 := Aside0.mk (below_alloc (Below.refl w.heap.size w) (.cells #[.int .i64 a, .int .i64 b, .int .i64 c, .int .i64 d] 24 (0, 0)))
  have K0 := Aside0.mk (Kit.new_blk w (.cells #[.int .i64 a, .int .i64 b, .int .i64 c, .int .i64 d] 24 (0, 0)))
  go_wp2_with fail
  refine (middenlaw01_awake.calls 5 true _ Num.awake_true).mono ?_; rintro e w1 ⟨rfl, hb⟩
  have B1 := Aside0.mk (below_step B0.out hb)
  have K1 := Aside0.mk (Kit.keepB K0.out hb)
  clear hb
  obtain ⟨a0, a1, a2, a3⟩ := Kit.cells4 K1.out
  go_wp2_with fail
  refine (hp _).mono ?_; rintro e w2 ⟨rfl, hb⟩
  have B2 := Aside0.mk (below_step B1.out hb)
  have K2 := Aside0.mk (Kit.keepB K1.out hb)
  clear hb
  go_wp2_with fail
  refine (hrx _ B2.out).mono ?_; rintro e w3 ⟨rfl, hb⟩
  have B3 := Aside0.mk (below_alloc (below_step B2.out hb) (.cells #[.int .i64 a, .int .i64 b, .int .i64 c, .int .i64 d] 24 (0, 0)))
  obtain ⟨c0, c1, c2, c3⟩ := Kit.cells4 (Kit.keep_alloc (Kit.keepB K2.out hb) (.cells #[.int .i64 a, .int .i64 b, .int .i64 c, .int .i64 d] 24 (0, 0)))
  clear hb
  go_wp2_with fail
  refine (hr _ B3.out).mono ?_; rintro e w4 ⟨rfl, hb⟩
  have B4 := Aside0.mk (below_alloc (below_step B3.out hb) (.cells #[.int .i64 k, .int .i64 i, .int .i64 p, .int .i64 n] 24 (0, 0)))
  clear hb
  go_wp2_with fail
  go_ret
  subst hk hi hpp hn
  exact ⟨Kit.ret_bool (by simp), B4.out⟩
set_option maxHeartbeats 1000000 in
theorem law11 (a b c d y x e0 k i p n e1 : Int) (w : World) (hp : Packs a b c d x 0) (hr : ∀ w' : World, Below w.heap.size w w' → Reads y k i p n 0 w')
  (hrx : ∀ w' : World, Below w.heap.size w w' → Reads x a b c d 0 w') (hpy : Packs k i p n y 0) :
   Calls Tryd.prog 4 #[.agg #[.int .i64 a, .int .i64 b, .int .i64 c, .int .i64 d], .int .u64 y] w fun e w' => e = .returned (.bool true) ∧ Below w.heap.size w w' := by
  go_enter Tryd.func4, Tryd.ntmps4
  have B0 := Aside0.mk (below_alloc (Below.refl w.heap.size w) (.cells #[.int .i64 a, .int .i64 b, .int .i64 c, .int .i64 d] 24 (0, 0)))
  have K0 := Aside0.mk (Kit.new_blk w (.cells #[.int .i64 a, .int .i64 b, .int .i64 c, .int .i64 d] 24 (0, 0)))
  go_wp2_with fail
  refine (middenlaw01_awake.calls 5 true _ Num.awake_true).mono ?_; rintro e w1 ⟨rfl, hb⟩
  have B1 := Aside0.mk (below_step B0.out hb)
  have K1 := Aside0.mk (Kit.keepB K0.out hb)
  clear hb
  obtain ⟨a0, a1, a2, a3⟩ := Kit.cells4 K1.out
  go_wp2_with fail
  refine (hp _).mono ?_; rintro e w2 ⟨rfl, hb⟩
  have B2 := Aside0.mk (below_step B1.out hb)
  have K2 := Aside0.mk (Kit.keepB K1.out hb)
  clear hb
  go_wp2_with fail
  refine (hrx _ B2.out).mono ?_; rintro e w3 ⟨rfl, hb⟩
  have B3 := Aside0.mk (below_alloc (below_step B2.out hb) (.cells #[.int .i64 a, .int .i64 b, .int .i64 c, .int .i64 d] 24 (0, 0)))
  obtain ⟨c0, c1, c2, c3⟩ := Kit.cells4 (Kit.keep_alloc (Kit.keepB K2.out hb) (.cells #[.int .i64 a, .int .i64 b, .int .i64 c, .int .i64 d] 24 (0, 0)))
  clear hb
  go_wp2_with fail
  refine (hr _ B3.out).mono ?_; rintro e w4 ⟨rfl, hb⟩
  have B4 := Aside0.mk (below_alloc (below_step B3.out hb) (.cells #[.int .i64 k, .int .i64 i, .int .i64 p, .int .i64 n] 24 (0, 0)))
  clear hb
  go_wp2_with fail
  refine (hpy _).mono ?_; rintro e w5 ⟨rfl, hb⟩
  have B5 := Aside0.mk (below_step B4.out hb)
  clear hb
  go_wp2_with fail
  go_ret
  exact ⟨Kit.ret_bool (by simp), B5.out⟩

theorem law (a b c d y : Int) (w : World) (ha : -9223372036854775808 ≤ a ∧ a ≤ 9223372036854775807) (hb : -9223372036854775808 ≤ b ∧ b ≤ 9223372036854775807) (hc : -9223372036854775808 ≤ c ∧ c ≤ 9223372036854775807) (hd : -9223372036854775808 ≤ d ∧ d ≤ 9223372036854775807)
   (h0 : 0 ≤ y) (h1 : y ≤ 18446744073709551615) (hz : 0 < w.heap.size)
   (m0 : w.cell? ⟨0, 0, none⟩ = some (.int .u64 15)) (m1 : w.cell? ⟨0, 1, none⟩ = some (.int .u64 4095)) (m2 : w.cell? ⟨0, 2, none⟩ = some (.int .u64 4095)) (m3 : w.cell? ⟨0, 3, none⟩ = some (.int .u64 1048575)) :
   Calls Tryd.prog 4 #[.agg #[.int .i64 a, .int .i64 b, .int .i64 c, .int .i64 d], .int .u64 y] w fun e w' => e = .returned (.bool true) ∧ Below w.heap.size w w' := by
  have rd : ∀ z, 0 ≤ z → z ≤ 18446744073709551615 → ∀ w', Below w.heap.size w w' → Reads z (Num.unp5 z).1 (Num.unp5 z).2.1 (Num.unp5 z).2.2.1 (Num.unp5 z).2.2.2.1 (Num.unp5 z).2.2.2.2 w' := fun z z0 z1 w' hbl => by
    have h := Unp.unpack z w' z0 z1 (Nat.lt_of_lt_of_le hz hbl.size) (table hbl hz m0) (table hbl hz m1) (table hbl hz m2) (table hbl hz m3)
    rw [Num.unp_eq z] at h
    exact h
  have hp : Packs a b c d (Num.pack a b c d).1 (Num.pack a b c d).2 := fun w' => word_Pack.calls 5 a b c d _ _ w' (Num.pack_it a b c d ha hb hc hd)
  have hr := rd y h0 h1
  by_cases P : (Num.pack a b c d).2 = 0
  · obtain ⟨x0, x1, ex⟩ := Num.unp_pack a b c d P
    have hrx := rd _ x0 x1
    rw [ex] at hrx
    rw [P] at hp
    by_cases U : (Num.unp5 y).2.2.2.2 = 0
    · have e := Num.pack_unp y U
      rw [U] at hr
      have hpy : Packs (Num.unp5 y).1 (Num.unp5 y).2.1 (Num.unp5 y).2.2.1 (Num.unp5 y).2.2.2.1 y 0 := fun w' => word_Pack.calls 5 _ _ _ _ _ _ w' (by
        rw [← e]
        have q := Num.unp5_range y
        exact Num.pack_it _ _ _ _ q.1 q.2.1 q.2.2.1 q.2.2.2)
      exact law11 a b c d y _ 0 _ _ _ _ 0 w hp hr hrx hpy
    · obtain ⟨k0, k1, k2, k3⟩ := Num.unp_bad y U
      exact law10 a b c d y _ 0 _ _ _ _ _ w hp hr hrx (by simpa using U) (by simpa using U) k0 k1 k2 k3
  · by_cases U : (Num.unp5 y).2.2.2.2 = 0
    · have e := Num.pack_unp y U
      rw [U] at hr
      have hpy : Packs (Num.unp5 y).1 (Num.unp5 y).2.1 (Num.unp5 y).2.2.1 (Num.unp5 y).2.2.2.1 y 0 := fun w' => word_Pack.calls 5 _ _ _ _ _ _ w' (by
        rw [← e]
        have q := Num.unp5_range y
        exact Num.pack_it _ _ _ _ q.1 q.2.1 q.2.2.1 q.2.2.2)
      exact law01 a b c d y _ _ _ _ _ _ 0 w hp hr (by simpa using P) hpy
    · obtain ⟨k0, k1, k2, k3⟩ := Num.unp_bad y U
      exact law00 a b c d y _ _ _ _ _ _ _ w hp hr (by simpa using P) (by simpa using U) (by simpa using U) k0 k1 k2 k3
open Go.ChangeShapes Go.WideShapes Go.Joins
theorem walk {H : Type} {enc : TypeId × Value → H} (W : World) {base : Nat} {v0 v1 : Value} {d0 d1 : DataW H} {p0 p1 : List MemPlace}
    (h0 : DataW.Trod enc Tryd.prog W 0 (fun _ => true) true 24 v0 d0 p0) (o0 : Value.okWide Tryd.prog W .any base 24 v0)
    (h1 : DataW.Trod enc Tryd.prog W 0 (fun _ => true) true 22 v1 d1 p1) (o1 : Value.okWide Tryd.prog W .any base 22 v1) {hs : Prop} (_ : hs) (hL : laidMetH Tryd.prog Rows.wordBackRow.laid W) :
    Calls Tryd.prog 4 #[v0, v1] W fun e w' => e = .returned (.bool true) ∧ Below W.heap.size W w' := by
  obtain ⟨c00, c01, c02, c03, y00, y01, y02, y03, n0, rfl, rfl, rfl, hy00, hy01, hy02, hy03⟩ := open_agg4 Tryd.underlying24 (by kernel_rfl) (by kernel_rfl) o0 h0
  obtain ⟨a00, e00, rfl, w00⟩ := DataW.trod_int Tryd.underlying3 hy00
  obtain ⟨a01, e01, rfl, w01⟩ := DataW.trod_int Tryd.underlying3 hy01
  obtain ⟨a02, e02, rfl, w02⟩ := DataW.trod_int Tryd.underlying3 hy02
  obtain ⟨a03, e03, rfl, w03⟩ := DataW.trod_int Tryd.underlying3 hy03
  simp only [List.cons.injEq, and_true] at e00 e01 e02 e03
  subst e00 e01 e02 e03
  obtain ⟨a1, rfl, rfl, rfl, w1⟩ := open_int Tryd.underlying22 o1 h1
  obtain ⟨hz, m0, m1, m2, m3⟩ := Masks.of_laid hL
  exact law a00 a01 a02 a03 a1 W (bounds_i64 w00) (bounds_i64 w01) (bounds_i64 w02) (bounds_i64 w03) (bounds_u64 w1).1 (bounds_u64 w1).2 hz m0 m1 m2 m3
end Go.Proofs.YtkfmenmnbhenoaaDoor.LawB
