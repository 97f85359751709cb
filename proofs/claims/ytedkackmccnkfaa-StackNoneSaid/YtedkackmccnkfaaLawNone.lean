/- A nil stack has nothing: the law StackNone answers true for every frame. No condition. -/
import Derived.Test.YtedkackmccnkfaaAw
set_option linter.unusedVariables false
set_option linter.unusedSimpArgs false
namespace Go.Proofs.Ytedkackmccnkfaa.LawNone
open Go.RowKit
open Fr Ar Sk Nw Po
theorem hnil (f : Fn) (a b : Array Value) (w : World) : Sem.run Try.prog (binOp BinOp.eql 62 (.func f a b) .nilFunc) w = .ok (.bool false) w := by kernel_rfl
theorem map_nil (w : World) (f : Value) : Calls Try.prog 24 #[.pointer none, f] w fun e w' => e = .returned (.tuple #[]) ∧ w' = w := by
  go_enter Try.func24, Try.ntmps24
  go_wp2_with fail
  refine bodyPost_ret (results_none rfl _ _ _) rfl ?_
  exact ⟨rfl, rfl⟩
theorem push_nil (w : World) (k a b : Int) (p : Option Addr) (n c : Nat) : Calls Try.prog 16 #[.pointer none, frameV k a b p n c] w fun e w' => e = .returned (.int .i64 1) ∧ Below w.heap.size w w' := by
  unfold frameV
  go_enter Try.func16, Try.ntmps16
  go_wp2_with fail
  go_ret
  exact ⟨rfl, Kit.allocB (Below.refl _ _) _⟩
theorem frames_nil (w : World) : Calls Try.prog 28 #[.pointer none] w fun e w' => e = .returned (.func (.func 42) #[] #[.pointer (some ⟨w.heap.size, 0, none⟩)]) ∧ w' = w.alloc (.cells #[.slice none 0 0] 36) := by
  go_enter Try.func28, Try.ntmps28
  go_wp2_with fail
  refine (used_nil _).mono ?_; rintro e w1 ⟨rfl, rfl⟩
  go_wp2_with fail
  go_loop [4] (fun c => c = .int .i64 0) (fun c => 0)
  case atStart => rfl
  case round =>
    subst hrel
    go_wp2_with fail
    go_ret
    exact ⟨rfl, rfl⟩
theorem iter_none (w : World) (q : Nat) (f : Value) (h : w.heap[q]? = some (.cells #[.slice none 0 0] 36 (0, 0))) : Calls Try.prog 42 #[f, .pointer (some ⟨q, 0, none⟩)] w fun e w' => e = .returned (.tuple #[]) ∧ w' = w := by
  have c1 := Kit.cells1 h
  go_enter Try.func42, Try.ntmps42
  go_wp2_with fail
  go_loop [7] (fun c => c = .int .i64 0) (fun c => 0)
  case atStart => rfl
  case round =>
    subst hrel
    go_wp2_with fail
    go_end0
    exact ⟨rfl, rfl⟩
theorem frames_none (w : World) (q : Nat) (h : w.heap[q]? = some (.cells #[.slice none 0 0] 36 (0, 0))) : Calls Try.prog 27 #[.func (.func 42) #[] #[.pointer (some ⟨q, 0, none⟩)]] w fun e w' => e = .returned (.slice none 0 0) ∧ Below w.heap.size w w' := by
  have hnil := hnil
  have IT := Lib.hid (iter_none (w.alloc (.cells #[.slice none 0 0] 36)) q (.func (.func 41) #[] #[.pointer (some ⟨w.heap.size, 0, none⟩)]) (Kit.keep_alloc h _))
  go_enter Try.func27, Try.ntmps27
  go_wp2_with fail
  refine IT.out.mono ?_; rintro e w1 ⟨rfl, rfl⟩
  go_wp2_with fail
  go_ret
  exact ⟨rfl, Kit.allocB (Below.refl _ _) _⟩
set_option maxHeartbeats 1000000 in
set_option maxRecDepth 100000 in
theorem law (w : World) (k a b : Int) (p : Option Addr) (n c : Nat) :
    Calls Try.prog 8 #[frameV k a b p n c] w fun e w' => e = .returned (.bool true) ∧ Below w.heap.size w w' := by
  have BB := Lib.hid (Kit.allocB (Below.refl w.heap.size w) (.cells #[.int .i64 k, .int .i64 a, .int .i64 b, .slice p n c] 24 (0, 0)))
  have BN := Lib.hid (Kit.new_blk w (.cells #[.int .i64 k, .int .i64 a, .int .i64 b, .slice p n c] 24 (0, 0)))
  have PN := Lib.hid (fun w => push_nil w k a b p n c)
  have PO := Lib.hid (fun w => pop_nil w)
  have FN := Lib.hid (fun w => frames_nil w)
  unfold frameV at PN PO ⊢
  go_enter Try.func8, Try.ntmps8
  go_wp2_with fail
  refine (map_nil _ _).mono ?_; rintro e w1 ⟨rfl, rfl⟩
  go_wp2_with fail
  refine (PO.out _).mono ?_; rintro e w2 ⟨rfl, b2⟩
  have B2 := Lib.hid (Kit.stepB BB.out b2)
  have N2 := Lib.hid (Kit.keepB BN.out b2)
  clear b2
  go_wp2_with fail
  refine (Aw.awake_it _).mono ?_; rintro e w3 ⟨rfl, b3⟩
  have B3 := Lib.hid (Kit.stepB (Kit.allocB B2.out _) b3)
  have N3 := Lib.hid (Kit.keepB (Kit.keep_alloc N2.out _) b3)
  have c3 := Kit.cells4 N3.out
  clear b3
  go_wp2_with fail
  refine (PN.out _).mono ?_; rintro e w4 ⟨rfl, b4⟩
  have B4 := Lib.hid (Kit.stepB B3.out b4)
  clear b4 c3
  go_wp2_with fail
  refine (len_nil _).mono ?_; rintro e w5 ⟨rfl, rfl⟩
  go_wp2_with fail
  refine (used_nil _).mono ?_; rintro e w5 ⟨rfl, rfl⟩
  go_wp2_with fail
  refine (FN.out _).mono ?_; rintro e w6 ⟨rfl, rfl⟩
  have IF := Lib.hid (frames_none (w5.alloc (.cells #[.slice none 0 0] 36)) w5.heap.size (Kit.new_blk _ _))
  have B5 := Lib.hid (Kit.allocB B4.out (.cells #[.slice none 0 0] 36))
  go_wp2_with fail
  refine IF.out.mono ?_; rintro e w7 ⟨rfl, b7⟩
  have B7 := Lib.hid (Kit.stepB B5.out b7)
  go_wp2_with fail
  go_ret
  exact ⟨rfl, B7.out⟩
end Go.Proofs.Ytedkackmccnkfaa.LawNone
