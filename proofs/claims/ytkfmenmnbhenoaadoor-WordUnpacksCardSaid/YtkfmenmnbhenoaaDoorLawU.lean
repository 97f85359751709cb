/- For every 64-bit word w, the law WordUnpacks tells true: the header that the program reads off w, or its error, is the document's. No condition, but that the table masks reads as the program's text lays it. -/
import Derived.Test.YtkfmenmnbhenoaaDoorNum
import Derived.Test.YtkfmenmnbhenoaaDoorMasks
import Derived.Test.YtkfmenmnbhenoaaDoorKit
namespace Go.Proofs.YtkfmenmnbhenoaaDoor.LawU
open Go.RowKit Go.Proofs.YtkfmenmnbhenoaaDoor.PWordUnpacks Go.Proofs.YtkfmenmnbhenoaaDoorW.PrintWords Go.Proofs.YtkfmenmnbhenoaaDoorW.PrintLast Go.Proofs.YtkfmenmnbhenoaaDoorW.PrintMore

set_option maxHeartbeats 1000000 in
theorem law (x : Int) (w : World) (h0 : 0 ≤ x) (h1 : x ≤ 18446744073709551615) (hz : 0 < w.heap.size)
   (m0 : w.cell? ⟨0, 0, none⟩ = some (.int .u64 15)) (m1 : w.cell? ⟨0, 1, none⟩ = some (.int .u64 4095)) (m2 : w.cell? ⟨0, 2, none⟩ = some (.int .u64 4095)) (m3 : w.cell? ⟨0, 3, none⟩ = some (.int .u64 1048575)) :
   Calls Tryd.prog 3 #[.int .u64 x] w fun e w' => e = .returned (.bool true) ∧ Below w.heap.size w w' := by
  have hu := Unp.unpack x w h0 h1 hz m0 m1 m2 m3
  rw [Num.unp_eq x] at hu
  have hr := fun W => middenref01_Unpack.calls 30 x (Num.unp5 x).1 (Num.unp5 x).2.1 (Num.unp5 x).2.2.1 (Num.unp5 x).2.2.2.1 (Num.unp5 x).2.2.2.2 W (Num.ref_unpack x h0 h1)
  generalize (Num.unp5 x).1 = k at *
  generalize (Num.unp5 x).2.1 = i at *
  generalize (Num.unp5 x).2.2.1 = p at *
  generalize (Num.unp5 x).2.2.2.1 = n at *
  generalize (Num.unp5 x).2.2.2.2 = er at *
  have Hu := Lib.hid hu
  have Hr := Lib.hid hr
  clear hu hr
  have HB := Aside0.mk (Below.refl w.heap.size w)
  go_enter Tryd.func3, Tryd.ntmps3
  go_wp2_with fail
  refine (Hu.out).mono ?_; rintro e w1 ⟨rfl, hb1⟩
  have B1 := Aside0.mk hb1
  have K0 := Aside0.mk (Kit.new_blk w1 (.cells #[.int .i64 k, .int .i64 i, .int .i64 p, .int .i64 n] 24 (0, 0)))
  clear hb1
  unfold Unp.vHead
  go_wp2_with fail
  refine (Hr.out _).mono ?_; rintro e w2 ⟨rfl, hb2⟩
  have B2 := Aside0.mk (below_step (below_alloc B1.out _) hb2)
  have K1 := Aside0.mk (Kit.keep_alloc (Kit.keepB K0.out hb2) (.cells #[.int .i64 k, .int .i64 i, .int .i64 p, .int .i64 n] 24 (0, 0)))
  have K2 := Aside0.mk (Kit.new_blk w2 (.cells #[.int .i64 k, .int .i64 i, .int .i64 p, .int .i64 n] 24 (0, 0)))
  clear hb2
  go_wp2_with fail
  refine (middenlaw01_awake.calls 5 true _ Num.awake_true).mono ?_; rintro e w3 ⟨rfl, hb3⟩
  have B3 := Aside0.mk (below_step (below_alloc B2.out _) hb3)
  obtain ⟨a0, a1, a2, a3⟩ := Kit.cells4 (Kit.keepB K1.out hb3)
  obtain ⟨b0, b1, b2, b3⟩ := Kit.cells4 (Kit.keepB K2.out hb3)
  clear hb3
  go_wp2_with fail
  go_ret
  exact ⟨Kit.ret_bool (by simp), B3.out⟩
open Go.ChangeShapes Go.WideShapes Go.Joins
theorem walk {H : Type} {enc : TypeId × Value → H} (W : World) {base : Nat} {v0 : Value} {d0 : DataW H} {p0 : List MemPlace}
    (h0 : DataW.Trod enc Tryd.prog W 0 (fun _ => true) true 22 v0 d0 p0) (o0 : Value.okWide Tryd.prog W .any base 22 v0) {hs : Prop} (_ : hs) (hL : laidMetH Tryd.prog Rows.wordUnpacksRow.laid W) :
    Calls Tryd.prog 3 #[v0] W fun e w' => e = .returned (.bool true) ∧ Below W.heap.size W w' := by
  obtain ⟨a0, rfl, rfl, rfl, w0⟩ := open_int Tryd.underlying22 o0 h0
  obtain ⟨hz, m0, m1, m2, m3⟩ := Masks.of_laid hL
  exact law a0 W (bounds_u64 w0).1 (bounds_u64 w0).2 hz m0 m1 m2 m3
end Go.Proofs.YtkfmenmnbhenoaaDoor.LawU
