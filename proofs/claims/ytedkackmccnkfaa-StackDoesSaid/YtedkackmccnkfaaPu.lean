/- Push by contracts: what is refused, what finds no room, what is laid. No condition. -/
import Derived.Test.YtedkackmccnkfaaSk
import Derived.Deep.LoopGhost
set_option linter.unusedVariables false
set_option linter.unusedSimpArgs false
namespace Go.Proofs.Ytedkackmccnkfaa.Pu
open Go.RowKit
open Fr Fs Ft Ar Sk
section
variable {w w' : World} {g ga r fr wd : Nat} {xs : List Int} {L : List Fm}
theorem Stk.keep (h : Stk w g ga r fr wd xs L) {S : List Nat} (m : Kit.Mod S w w') (hg : g ∉ S) (ha : ga ∉ S) (hr : r ∉ S) : Stk w' g ga r fr wd xs L :=
  ⟨Kit.keep h.obj m hg, h.own.keep m ha hr, h.ne, h.fits, h.words, h.good⟩
theorem Stk.keepB (h : Stk w g ga r fr wd xs L) (m : Below w.heap.size w w') : Stk w' g ga r fr wd xs L :=
  ⟨Kit.keepB h.obj m, h.own.keepB m, h.ne, h.fits, h.words, h.good⟩
theorem Stk.cells (h : Stk w g ga r fr wd xs L) : w.cell? ⟨g, 0, none⟩ = some (.pointer (some ⟨ga, 0, none⟩)) ∧ w.cell? ⟨g, 1, none⟩ = some (.int .i64 fr) ∧ w.cell? ⟨g, 2, none⟩ = some (.int .i64 wd) ∧ w.cell? ⟨g, 3, none⟩ = some (.int .i64 (lay L).length) ∧ w.cell? ⟨g, 4, none⟩ = some (.int .i64 L.length) :=
  ⟨(Kit.cell_of h.obj 0).trans rfl, (Kit.cell_of h.obj 1).trans rfl, (Kit.cell_of h.obj 2).trans rfl, (Kit.cell_of h.obj 3).trans rfl, (Kit.cell_of h.obj 4).trans rfl⟩
theorem objCells {a0 a1 a2 a3 a4 : Value} {T : TypeId} (h : w.heap[g]? = some (.cells #[a0, a1, a2, a3, a4] T (0, 0))) : w.cell? ⟨g, 0, none⟩ = some a0 ∧ w.cell? ⟨g, 1, none⟩ = some a1 ∧ w.cell? ⟨g, 2, none⟩ = some a2 ∧ w.cell? ⟨g, 3, none⟩ = some a3 ∧ w.cell? ⟨g, 4, none⟩ = some a4 :=
  ⟨(Kit.cell_of h 0).trans rfl, (Kit.cell_of h 1).trans rfl, (Kit.cell_of h 2).trans rfl, (Kit.cell_of h 3).trans rfl, (Kit.cell_of h 4).trans rfl⟩
theorem Stk.heap (h : Stk w g ga r fr wd xs L) (e : w'.heap = w.heap) : Stk w' g ga r fr wd xs L :=
  ⟨by rw [e]; exact h.obj, ⟨by rw [e]; exact h.own.obj, by rw [e]; exact h.own.row, h.own.small, h.own.rng⟩, h.ne, h.fits, h.words, h.good⟩
set_option maxHeartbeats 1000000 in
set_option maxRecDepth 100000 in
theorem push_no (K : Stk w g ga r fr wd xs L) (k a b : Int) (p : Option Addr) (c : Nat) (ps : List Int) (S : Sl w p ps) (hl : ps.length ≤ 17592186044416) (h0 : rightE k a b ps ≠ 0) :
    Calls Try.prog 16 #[.pointer (some ⟨g, 0, none⟩), frameV k a b p ps.length c] w fun e w' => e = .returned (.int .i64 (rightE k a b ps)) ∧ Below w.heap.size w w' := by
  have RI := Lib.hid (right_it (w.alloc (.cells #[.int .i64 k, .int .i64 a, .int .i64 b, .slice p ps.length c] 24 (0, 0))) k a b p c ps (S.keepB (Kit.allocB (Below.refl _ _) _)) hl)
  have BB := Lib.hid (Kit.allocB (Below.refl w.heap.size w) (.cells #[.int .i64 k, .int .i64 a, .int .i64 b, .slice p ps.length c] 24 (0, 0)))
  clear K S
  unfold frameV at RI ⊢
  generalize rightE k a b ps = er at *
  have e0 : (er != 0) = true := by rw [bne_iff_ne]; exact h0
  clear h0
  go_enter Try.func16, Try.ntmps16
  go_wp2_with fail
  refine RI.out.mono ?_; rintro e w1 ⟨rfl, b1⟩
  have B1 := Lib.hid (Kit.stepB BB.out b1)
  clear b1
  go_wp2_with fail
  go_ret
  exact ⟨rfl, B1.out⟩
set_option maxHeartbeats 1000000 in
set_option maxRecDepth 100000 in
theorem push_full (K : Stk w g ga r fr wd xs L) (k a b : Int) (p : Option Addr) (c : Nat) (ps : List Int) (S : Sl w p ps) (hl : ps.length ≤ 17592186044416) (hw : wd ≤ 65536) (h0 : rightE k a b ps = 0) (room : wd < (lay L).length + (ps.length + 1)) :
    Calls Try.prog 16 #[.pointer (some ⟨g, 0, none⟩), frameV k a b p ps.length c] w fun e w' => e = .returned (.int .i64 5) ∧ Below w.heap.size w w' := by
  have RI := right_it (w.alloc (.cells #[.int .i64 k, .int .i64 a, .int .i64 b, .slice p ps.length c] 24 (0, 0))) k a b p c ps (S.keepB (Kit.allocB (Below.refl _ _) _)) hl
  rw [h0] at RI
  have RI := Lib.hid RI
  have BN := Lib.hid (Kit.new_blk w (.cells #[.int .i64 k, .int .i64 a, .int .i64 b, .slice p ps.length c] 24 (0, 0)))
  have BB := Lib.hid (Kit.allocB (Below.refl w.heap.size w) (.cells #[.int .i64 k, .int .i64 a, .int .i64 b, .slice p ps.length c] 24 (0, 0)))
  have HK := Lib.hid K
  have hu := K.fits
  have hsm := K.own.small
  clear K S h0
  rename_i RI2
  clear RI2
  unfold frameV at RI ⊢
  go_enter Try.func16, Try.ntmps16
  go_wp2_with fail
  refine RI.out.mono ?_; rintro e w1 ⟨rfl, b1⟩
  have B1 := Lib.hid (Kit.stepB BB.out b1)
  have K1 := Lib.hid (Stk.keepB HK.out B1.out)
  have c4 := Kit.cells4 (Kit.keepB BN.out b1)
  have cs := Stk.cells K1.out
  clear b1
  generalize hul : (lay L).length = ul at *
  clear hul
  go_wp2_with fail
  go_quiet (fail)
  go_wp2_with fail
  go_ret
  exact ⟨rfl, Kit.drawB B1.out _⟩
end
end Go.Proofs.Ytedkackmccnkfaa.Pu
