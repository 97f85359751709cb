/- A nil pool's calls; what must come at any rate. No condition. -/
import Derived.Test.YtladhenjoipfpaaWl
import Derived.Test.YtladhenjoipfpaaAl
set_option linter.unusedVariables false
set_option linter.unusedSimpArgs false
namespace Go.Proofs.Ytladhenjoipfpaa.Nn
open Go.RowKit Go.Shelf
open Pl Rn Rs Ov Tw Kp Rc K1 Lf Wl
attribute [local go_sem] Oper.semAt_some
theorem hnil (f : Fn) (a b : Array Value) (w : World) : Sem.run Try.prog (binOp BinOp.eql 55 (.func f a b) .nilFunc) w = .ok (.bool false) w := by kernel_rfl
theorem alloc_nil (w : World) (n : Int) : Calls Try.prog 25 #[.pointer none, .int .i64 n] w fun e w' => e = .returned (.tuple #[.int .i64 0, .int .i64 1]) ∧ Below w.heap.size w w' := by
  refine (callsIn_wide (n := 6)).1 ?_
  refine callsIn_of_wp_marks Try.func25 rfl trivial ?_ rfl
  simp only [Try.ntmps25, List.size_toArray, List.length_cons, List.length_nil, Nat.reduceAdd, Nat.reduceSub, Array.replicate_succ, Array.replicate_zero, List.push_toArray, List.append_toArray, List.nil_append, List.cons_append]
  gi_wp2
  refine ⟨_, ?_, rfl, Kit.allocB (Kit.allocB (Kit.allocB (Kit.allocB (Below.refl _ _) _) _) _) _⟩
  have a2 := Kit.keep_alloc (Kit.new_blk2 (w.alloc (Obj.cells #[Value.pointer none] 27)) (Obj.cells #[Value.int IntKind.i64 n] 3) (Obj.cells #[Value.int IntKind.i64 0] 3)) (Obj.cells #[Value.int IntKind.i64 1] 34)
  have a3 := Kit.new_blk2 ((w.alloc (Obj.cells #[Value.pointer none] 27)).alloc (Obj.cells #[Value.int IntKind.i64 n] 3)) (Obj.cells #[Value.int IntKind.i64 0] 3) (Obj.cells #[Value.int IntKind.i64 1] 34)
  have e2 : (w.alloc (Obj.cells #[Value.pointer none] 27)).heap.size + 1 = w.heap.size + 1 + 1 := by simp
  have e3 : ((w.alloc (Obj.cells #[Value.pointer none] 27)).alloc (Obj.cells #[Value.int IntKind.i64 n] 3)).heap.size + 1 = w.heap.size + 1 + 1 + 1 := by simp
  rw [e2] at a2
  rw [e3] at a3
  have c5 := Kit.cells1 a2
  have c6 := Kit.cells1 a3
  simp [results, Try.f25, go_sem, c5, c6]
theorem alloc_small (w : World) (g : Nat) (n : Int) (h : n < 1) : Calls Try.prog 25 #[.pointer (some ⟨g, 0, none⟩), .int .i64 n] w fun e w' => e = .returned (.tuple #[.int .i64 0, .int .i64 7]) ∧ Below w.heap.size w w' := by
  refine (callsIn_wide (n := 6)).1 ?_
  refine callsIn_of_wp_marks Try.func25 rfl trivial ?_ rfl
  simp only [Try.ntmps25, List.size_toArray, List.length_cons, List.length_nil, Nat.reduceAdd, Nat.reduceSub, Array.replicate_succ, Array.replicate_zero, List.push_toArray, List.append_toArray, List.nil_append, List.cons_append]
  have d1 : decide (n < 1) = true := decide_eq_true h
  gi_wp2
  refine ⟨_, ?_, rfl, Kit.allocB (Kit.allocB (Kit.allocB (Kit.allocB (Below.refl _ _) _) _) _) _⟩
  have a2 := Kit.keep_alloc (Kit.new_blk2 (w.alloc (Obj.cells #[Value.pointer (some { block := g, off := 0 })] 27)) (Obj.cells #[Value.int IntKind.i64 n] 3) (Obj.cells #[Value.int IntKind.i64 0] 3)) (Obj.cells #[Value.int IntKind.i64 7] 34)
  have a3 := Kit.new_blk2 ((w.alloc (Obj.cells #[Value.pointer (some { block := g, off := 0 })] 27)).alloc (Obj.cells #[Value.int IntKind.i64 n] 3)) (Obj.cells #[Value.int IntKind.i64 0] 3) (Obj.cells #[Value.int IntKind.i64 7] 34)
  have e2 : (w.alloc (Obj.cells #[Value.pointer (some { block := g, off := 0 })] 27)).heap.size + 1 = w.heap.size + 1 + 1 := by simp
  have e3 : ((w.alloc (Obj.cells #[Value.pointer (some { block := g, off := 0 })] 27)).alloc (Obj.cells #[Value.int IntKind.i64 n] 3)).heap.size + 1 = w.heap.size + 1 + 1 + 1 := by simp
  rw [e2] at a2
  rw [e3] at a3
  have c5 := Kit.cells1 a2
  have c6 := Kit.cells1 a3
  simp [results, Try.f25, go_sem, c5, c6]
theorem free_nil (w : World) (n : Int) : Calls Try.prog 33 #[.pointer none, .int .i64 n] w fun e w' => e = .returned (.int .i64 1) ∧ w' = w := by
  go_enter Try.func33, Try.ntmps33
  go_wp2_with fail
  go_ret
  exact ⟨rfl, rfl⟩
theorem runs_nil (w : World) : Calls Try.prog 34 #[.pointer none] w fun e w' => e = .returned (.func (.func 45) #[] #[]) ∧ w' = w := by
  go_enter Try.func34, Try.ntmps34
  go_wp2_with fail
  go_ret
  exact ⟨rfl, rfl⟩
theorem none1 (w : World) (f : Value) : Calls Try.prog 45 #[f] w fun e w' => e = .returned (.tuple #[]) ∧ w' = w := by
  go_enter Try.func45, Try.ntmps45
  go_wp2_with fail
  go_end0
  exact ⟨rfl, rfl⟩
theorem pairs_none1 (w : World) : Calls Try.prog 18 #[.func (.func 45) #[] #[]] w fun e w' => e = .returned (.tuple #[.slice none 0 0, .slice none 0 0]) ∧ Below w.heap.size w w' := by
  have hnil := hnil
  have N1 := Lib.hid none1
  have k1 := Kit.cells1 (Kit.keep_alloc (Kit.new_blk w (.cells #[.slice none 0 0] 43)) (.cells #[.slice none 0 0] 43))
  have k2 := Kit.cells1 (Kit.new_blk2 w (.cells #[.slice none 0 0] 43) (.cells #[.slice none 0 0] 43))
  go_enter Try.func18, Try.ntmps18
  go_wp2_with fail
  refine (N1.out _ _).mono ?_
  rintro e w1 ⟨rfl, rfl⟩
  go_wp2_with fail
  go_quiet (fail)
  go_wp2_with fail
  go_ret2
  exact ⟨rfl, Kit.drawB (Kit.allocB (Kit.allocB (Below.refl _ _) _) _) _⟩
theorem none_stops (n : Nat) (w : World) :
    SeqStopsK Fence.wide n Try.prog 45 #[] (encN (N := 0)) (fun _ _ => True) (fun ys => ys = []) (fun pre => False) 0 w := fun l J Jx W hW hJ hJx hY h0 => by
  refine (callsIn_wide.2 (none1 W _)).mono ?_
  rintro e W' ⟨rfl, rfl⟩
  exact ⟨⟨_, rfl⟩, .inl ⟨[], rfl, h0⟩⟩
set_option maxRecDepth 100000 in
set_option maxHeartbeats 4000000 in
theorem left_nil (w : World) : Calls Try.prog 22 #[.pointer none] w fun e w' => e = .returned (.int .i64 0) ∧ Below w.heap.size w w' := by
  refine (callsIn_wide (n := 6)).1 ?_
  refine callsIn_of_wp_marks Try.func22 rfl trivial ?_ rfl
  simp only [Try.ntmps22, List.size_toArray, List.length_cons, List.length_nil, Nat.reduceAdd, Nat.reduceSub, Array.replicate_succ, Array.replicate_zero, List.push_toArray, List.append_toArray, List.nil_append, List.cons_append]
  gi_wp2
  refine ⟨trivial, ?_⟩
  have bl0 : Below w.heap.size w (w.alloc (.cells #[.int .i64 0] 3)) := Kit.allocB (Below.refl _ _) _
  have sz0 : (w.alloc (.cells #[.int .i64 0] 3)).heap.size = w.heap.size + 1 := by simp
  have k0 := Kit.new_blk w (.cells #[.int .i64 0] 3)
  refine (callsIn_wide.2 (runs_nil _)).mono ?_
  generalize w.alloc (.cells #[.int .i64 0] 3) = V at *
  rintro e w1 ⟨rfl, rfl⟩
  gi_wp2
  refine wpIn_rangeFunc_ownG rfl (by decide) (gf := 45) (lb := #[]) rfl trivial (enters_of Try.func45 (by kernel_rfl) rfl)
    (none_stops 5 w1) (fun _ _ => trivial) (fun W l o o' _ hl ho _ => trivial) (Below.refl _ _) (fun _ => rfl)
    (fun pre W => Below w.heap.size w W ∧ W.heap[w.heap.size]? = some (.cells #[.int .i64 0] 3 (0, 0)))
    (fun c pre W => False)
    ?hI ?hIx ⟨bl0, k0⟩
    (fun x => { tmps := #[.pointer none, undef, .int .i64 0, .pointer (some ⟨w.heap.size, 0, none⟩), undef, .int .i64 (x.1.2 : Int), .pointer none, .func (.func 45) #[] #[], .int .i64 (x.1.1 : Int), .int .i64 (x.1.2 : Int), undef, undef, undef, undef], defers := [] }) ?assign ?body ?done ?stop
  case hI =>
    rintro s W W' row ⟨h1, h2⟩ hg hr
    exact ⟨h1.trans ⟨hg.os, hg.tape, hg.output, hg.size, fun k hk => hg.block k (Nat.lt_of_lt_of_le hk h1.size) (fun e => by have := (hr k e.symm).1; omega)⟩, blk_other h2 hg (fun k e => (hr k e).2)⟩
  case hIx => exact fun c s W W' row hs _ _ => hs
  case assign =>
    intro l x W K hK
    dsimp only [encN]
    gi_wp2
    exact hK
  case body => exact fun l pre x W _ hlen => absurd hlen (by omega)
  case done =>
    rintro D ys W hD hys ⟨h1, h2⟩ hK
    have c1 := Kit.cells1 h2
    gi_wp2
    refine ⟨by simp, .inl ⟨_, _, rfl, run_takeDeferred hK, ?_⟩⟩
    refine ⟨_, ?_, rfl, h1.trans (belowK_b (w := w) (Nat.le_refl _) W D _ _ (by omega) hK rfl rfl)⟩
    simp [results, Try.f22, go_sem]
  case stop => exact fun D c pre W hD _ h _ => h.elim
end Go.Proofs.Ytladhenjoipfpaa.Nn
