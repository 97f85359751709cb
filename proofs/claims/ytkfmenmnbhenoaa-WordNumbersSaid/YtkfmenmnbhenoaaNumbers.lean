/- For every 64-bit signed number n and every 64-bit word w, the law WordNumbers tells true: a number's bits are that number's and no other one's. No condition. -/
import Derived.Test.YtkfmenmnbhenoaaPWordPacksx
import Derived.OpenShut
import Derived.Lib.Hide
import Derived.ProofKit
namespace Go.Proofs.Ytkfmenmnbhenoaa.Numbers
open Go.RowKit Go.Proofs.Ytkfmenmnbhenoaa.PWordPacks Go.Proofs.YtkfmenmnbhenoaaW.PrintWords Go.Proofs.YtkfmenmnbhenoaaW.PrintLast

theorem awake_true : middenlaw01_awake.f 5 = some true := by decide +kernel

theorem u64_wrap (n : Int) : IntKind.u64.wrap n = n % 18446744073709551616 := by
  simp [IntKind.wrap, IntKind.signed, IntKind.bits]

theorem wrap64_of_u (n : Int) : wrap64 (IntKind.u64.wrap n) = wrap64 n := by
  rw [u64_wrap]; unfold wrap64; omega

theorem number (a : Int) (w : World) : Calls Try.prog 9 #[.int .u64 a] w fun e w' => e = .returned (.int .i64 (wrap64 a)) ∧ Drawn0 w w' :=
  word_Number.calls a _ w rfl
theorem bits (a : Int) (w : World) : Calls Try.prog 11 #[.int .i64 a] w fun e w' => e = .returned (.int .u64 (IntKind.u64.wrap a)) ∧ Drawn0 w w' :=
  word_Bits.calls a _ w rfl
theorem ret_int {k : IntKind} {a b : Int} (h : a = b) : Ending.returned (.int k a) = .returned (.int k b) := by rw [h]
theorem refNumber (a : Int) (w : World) (h0 : 0 ≤ a) (h1 : a ≤ 18446744073709551615) : Calls Try.prog 10 #[.int .u64 a] w fun e w' => e = .returned (.int .i64 (wrap64 a)) ∧ w = w' := by
  by_cases c : a < 9223372036854775808
  · go_enter Try.func10, Try.ntmps10
    go_wp2
    go_ret
    exact ⟨ret_int (by unfold wrap64; omega), rfl⟩
  · go_enter Try.func10, Try.ntmps10
    go_wp2
    go_ret
    exact ⟨ret_int (by unfold wrap64; omega), rfl⟩
theorem ret_bool {a b : Bool} (h : a = b) : Ending.returned (.bool a) = .returned (.bool b) := by rw [h]
theorem law (n a : Int) (w : World) (hn0 : -9223372036854775808 ≤ n) (hn1 : n ≤ 9223372036854775807) (h0 : 0 ≤ a) (h1 : a ≤ 18446744073709551615) :
   Calls Try.prog 4 #[.int .i64 n, .int .u64 a] w fun e w' => e = .returned (.bool true) ∧ Below w.heap.size w w' := by
  have e2 := Lib.hid (show wrap64 (IntKind.u64.wrap n) = n by rw [wrap64_of_u]; unfold wrap64; omega)
  have e3 := Lib.hid (show IntKind.u64.wrap (wrap64 a) = a by rw [u64_wrap]; unfold wrap64; omega)
  go_enter Try.func4, Try.ntmps4
  go_wp2_with fail
  refine (middenlaw01_awake.calls 5 true _ awake_true).mono ?_; rintro e w' ⟨rfl, hb⟩
  go_wp2_with fail
  refine (number _ _).mono ?_; rintro e w' ⟨rfl, ⟨nd, rfl⟩⟩
  go_wp2_with fail
  refine (refNumber _ _ h0 h1).mono ?_; rintro e w' ⟨rfl, rfl⟩
  go_wp2_with fail
  refine (bits _ _).mono ?_; rintro e w' ⟨rfl, ⟨nd, rfl⟩⟩
  go_wp2_with fail
  refine (number _ _).mono ?_; rintro e w' ⟨rfl, ⟨nd, rfl⟩⟩
  rw [e2.out]
  go_wp2_with fail
  refine (number _ _).mono ?_; rintro e w' ⟨rfl, ⟨nd, rfl⟩⟩
  go_wp2_with fail
  refine (bits _ _).mono ?_; rintro e w' ⟨rfl, ⟨nd, rfl⟩⟩
  rw [e3.out]
  go_wp2_with fail
  go_ret
  exact ⟨ret_bool (by simp), by repeat (first | exact hb | apply pw_below_drewN)⟩
open Go.ChangeShapes Go.WideShapes
theorem walk {H : Type} {enc : TypeId × Value → H} (W : World) {base : Nat} {v0 v1 : Value} {d0 d1 : DataW H} {p0 p1 : List MemPlace}
    (h0 : DataW.Trod enc Try.prog W 0 (fun _ => true) true 2 v0 d0 p0) (o0 : Value.okWide Try.prog W .any base 2 v0)
    (h1 : DataW.Trod enc Try.prog W 0 (fun _ => true) true 24 v1 d1 p1) (o1 : Value.okWide Try.prog W .any base 24 v1) {hs : Prop} (_ : hs) :
    Calls Try.prog 4 #[v0, v1] W fun e w' => e = .returned (.bool true) ∧ Below W.heap.size W w' := by
  obtain ⟨a0, rfl, rfl, rfl, w0⟩ := open_int Try.underlying2 o0 h0
  obtain ⟨a1, rfl, rfl, rfl, w1⟩ := open_int Try.underlying24 o1 h1
  exact law a0 a1 W (bounds_i64 w0).1 (bounds_i64 w0).2 (bounds_u64 w1).1 (bounds_u64 w1).2
end Go.Proofs.Ytkfmenmnbhenoaa.Numbers
