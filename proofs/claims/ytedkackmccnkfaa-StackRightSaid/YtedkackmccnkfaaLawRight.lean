/- Which frames there may be: the law StackRight answers true for every frame. No condition. -/
import Derived.Test.YtedkackmccnkfaaAw
import Derived.Deep.RegionHeld3
set_option linter.unusedVariables false
set_option linter.unusedSimpArgs false
namespace Go.Proofs.Ytedkackmccnkfaa.LawRight
open Go.RowKit
open Fr Fs Ft
set_option maxHeartbeats 1000000 in
set_option maxRecDepth 100000 in
theorem law (w : World) (k a b : Int) (p : Option Addr) (c : Nat) (ps : List Int) (S : Sl w p ps) (hl : ps.length ≤ 17592186044416) :
    Calls Try.prog 3 #[frameV k a b p ps.length c] w fun e w' => e = .returned (.bool true) ∧ Below w.heap.size w w' := by
  have BN := Lib.hid (Kit.new_blk w (.cells #[.int .i64 k, .int .i64 a, .int .i64 b, .slice p ps.length c] 24 (0, 0)))
  have BB := Lib.hid (Kit.allocB (Below.refl w.heap.size w) (.cells #[.int .i64 k, .int .i64 a, .int .i64 b, .slice p ps.length c] 24 (0, 0)))
  have HS := Lib.hid (S.keepB BB.out)
  have R1 := Lib.hid (fun w' S' => right_it w' k a b p c ps S' hl)
  have R2 := Lib.hid (fun w' S' => rright_it w' k a b p c ps S' hl)
  clear S
  unfold frameV at R1 R2 ⊢
  generalize rightE k a b ps = er at R1 R2
  go_enter Try.func3, Try.ntmps3
  go_wp2_with fail
  generalize hW : w.alloc _ = W at *
  have HW := Lib.hid hW
  clear hW
  have c0 := Kit.cells4 BN.out
  go_region_held3 (fun w' => w'.cell? ⟨w.heap.size, 0, none⟩ = some (.int .i64 k) ∧ w'.cell? ⟨w.heap.size, 1, none⟩ = some (.int .i64 a) ∧ w'.cell? ⟨w.heap.size, 2, none⟩ = some (.int .i64 b) ∧ w'.cell? ⟨w.heap.size, 3, none⟩ = some (.slice p ps.length c))
    (first | go_keep | assumption)
    (first
      | (go_at_call 9; ((apply Calls.mono (Aw.awake_it _))); ((rintro e w2 ⟨rfl, b2⟩)); ((have b2 : Below W.heap.size W w2 := ⟨b2.os, b2.tape, b2.output, b2.size, b2.block⟩)); ((have B2 := Lib.hid (Kit.stepB BB.out b2))); ((have HS2 := Lib.hid (HS.out.keepB b2))); ((have N2 := Lib.hid (Kit.keepB BN.out b2))); ((have c2 := Kit.cells4 N2.out)); ((clear b2)))
      | (go_at_call 10; ((apply Calls.mono (R1.out _ ?hS))); ((case hS => first | exact Sl.heap (w := w2) HS2.out rfl | exact Sl.heap (w := w4) HS4.out rfl)); ((rintro e w3 ⟨rfl, b3⟩)); (first | (have b3' : Below w4.heap.size w4 w3 := ⟨b3.os, b3.tape, b3.output, b3.size, b3.block⟩; have B3 := Lib.hid (Kit.stepB B4.out b3'); have HS3 := Lib.hid (HS4.out.keepB b3'); have N3 := Lib.hid (Kit.keepB N4.out b3'); have c3 := Kit.cells4 N3.out; clear b3 b3') | (have b3' : Below w2.heap.size w2 w3 := ⟨b3.os, b3.tape, b3.output, b3.size, b3.block⟩; have B3 := Lib.hid (Kit.stepB B2.out b3'); have HS3 := Lib.hid (HS2.out.keepB b3'); have N3 := Lib.hid (Kit.keepB N2.out b3'); have c3 := Kit.cells4 N3.out; clear b3 b3')))
      | (go_at_call 11; ((apply Calls.mono (R2.out _ ?hS))); ((case hS => first | exact Sl.heap (w := w2) HS2.out rfl | exact Sl.heap (w := w3) HS3.out rfl)); ((rintro e w4 ⟨rfl, b4⟩)); (first | (have b4' : Below w3.heap.size w3 w4 := ⟨b4.os, b4.tape, b4.output, b4.size, b4.block⟩; have B4 := Lib.hid (Kit.stepB B3.out b4'); have HS4 := Lib.hid (HS3.out.keepB b4'); have N4 := Lib.hid (Kit.keepB N3.out b4'); have c4 := Kit.cells4 N4.out; clear b4 b4') | (have b4' : Below w2.heap.size w2 w4 := ⟨b4.os, b4.tape, b4.output, b4.size, b4.block⟩; have B4 := Lib.hid (Kit.stepB B2.out b4'); have HS4 := Lib.hid (HS2.out.keepB b4'); have N4 := Lib.hid (Kit.keepB N2.out b4'); have c4 := Kit.cells4 N4.out; clear b4 b4'))))
  all_goals
    go_wp2_with fail
    go_ret
    first
      | exact ⟨rfl, B4.out⟩
      | exact ⟨rfl, B3.out⟩
end Go.Proofs.Ytedkackmccnkfaa.LawRight
