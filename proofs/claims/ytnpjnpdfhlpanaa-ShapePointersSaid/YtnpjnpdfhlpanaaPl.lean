/- Places: what a reader gathers of a range, up to as many. No condition. -/
import Derived.Test.YtnpjnpdfhlpanaaPt
set_option linter.unusedVariables false
set_option linter.unusedSimpArgs false
namespace Go.Proofs.Ytnpjnpdfhlpanaa.Pl
open Go.RowKit Go.WideShapes
open NPShapeOver (right In)
open Pt (vals cnt)
theorem hmf : ∀ (fn : Fn) (first cap : Array Value) (w : World), (Instr.makeFunc fn first cap).run Try.prog w = .ok (.func fn first cap) w := fun _ _ _ _ => rfl
theorem hnil (f : Fn) (a b : Array Value) (w : World) : Sem.run Try.prog (binOp BinOp.eql 37 (.func f a b) .nilFunc) w = .ok (.bool false) w := by kernel_rfl
theorem range_it (w : World) (k i p n : Int) :
    Calls Try.prog 20 #[.agg #[.int .i64 k, .int .i64 i, .int .i64 p, .int .i64 n]] w fun e w' => e = .returned (.func (.func 25) #[] #[.pointer (some ⟨w.heap.size, 0, none⟩)]) ∧ w' = w.alloc (.cells #[.int .i64 k, .int .i64 i, .int .i64 p, .int .i64 n] 23 (0, 0)) := by
  have hmf := hmf
  go_enter Try.func20, Try.ntmps20
  go_wp2_with fail
  go_ret
  exact ⟨rfl, rfl⟩
theorem places_it (w : World) (Bh : Nat) (m k i p n : Int) (hp : In p)
    (hh : w.heap[Bh]? = some (.cells #[.int .i64 k, .int .i64 i, .int .i64 p, .int .i64 n] 23 (0, 0))) :
    Calls Try.prog 19 #[.func (.func 25) #[] #[.pointer (some ⟨Bh, 0, none⟩)], .int .i64 m] w fun e w' => ∃ v, e = .returned v ∧ w'.ownsRow (w.heap.size + 2) 3 1 v (cnt (right k i p n) p m) (vals (cnt (right k i p n) p m)) ∧ Below w.heap.size w w' := by
  have hmf := hmf
  have R := Pt.run_it ((w.alloc (.cells #[.int .i64 m] 3 (0, 0))).alloc (.cells #[.slice none 0 0] 34 (0, 0))) (w.heap.size + 1) w.heap.size Bh m k i p n hp (by have := Kit.lt_of hh; omega) (by omega)
    (Kit.new_blk2 w _ _) (Kit.keep_alloc (Kit.new_blk w _) _) (Kit.keep_alloc (Kit.keep_alloc hh _) _)
  generalize cnt (right k i p n) p m = c at R ⊢
  have HR := Lib.hid R
  clear R
  have hnil := hnil
  go_enter Try.func19, Try.ntmps19
  go_wp2_with fail
  refine HR.out.mono ?_; rintro e w1 ⟨rfl, v, h1, h2, h3⟩
  have e1 := Kit.cells1 h1
  have hB : Below w.heap.size w w1 := by
    have a : Below w.heap.size w ((w.alloc (.cells #[.int .i64 m] 3 (0, 0))).alloc (.cells #[.slice none 0 0] 34 (0, 0))) := Kit.allocB (Kit.allocB (Below.refl _ _) _) _
    exact a.trans (h3.mono (by omega))
  clear h1 h3
  obtain ⟨a, cp, rfl⟩ : ∃ a cp, v = .slice a c cp := by
    rcases h2.2 with ⟨h, h0⟩ | ⟨g, cap, cur, h, hb, _⟩
    · exact ⟨none, 0, by rw [h, h0]⟩
    · exact ⟨_, _, h⟩
  go_wp2_with fail
  go_ret
  exact ⟨_, rfl, h2, hB⟩
end Go.Proofs.Ytnpjnpdfhlpanaa.Pl
