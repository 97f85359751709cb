/- The table's functions by contracts. No condition. -/
import Derived.Test.YtbjlmhkjlipnmaaProg
import Derived.Test.YtbjlmhkjlipnmaaSr
import Derived.IntWalk
import Derived.Laws.AppendOwn
import Derived.OwnWalk
set_option linter.unusedVariables false
set_option linter.unusedSimpArgs false
namespace Go.Proofs.Ytbjlmhkjlipnmaa.Tb
open Go.RowKit
open Sr
theorem info54 : (Try.prog.info? 54).map (fun i => (i.zero, i.size, i.bytes)) = some (some (.agg #[.int .i64 0, .int .i64 0]), 2, 16) := by kernel_rfl
theorem info3 : (Try.prog.info? 3).map (fun i => (i.zero, i.size, i.bytes)) = some (some (.int .i64 0), 1, 8) := by kernel_rfl
/-- A table: its block, its slots' block. -/
structure Tab (w : World) (g r : Nat) (xs : List (Int × Int)) : Prop where
  tab : w.heap[g]? = some (.cells #[.slice (some ⟨r, 0, none⟩) xs.length xs.length] 52 (0, 0))
  row : w.heap[r]? = some (row 54 xs)
  ne : g ≠ r
  short : xs.length ≤ 256
theorem Tab.keep {w w' : World} {g r : Nat} {xs : List (Int × Int)} (h : Tab w g r xs) {S : List Nat} (m : Kit.Mod S w w') (hg : g ∉ S) (hr : r ∉ S) : Tab w' g r xs := ⟨Kit.keep h.tab m hg, Kit.keep h.row m hr, h.ne, h.short⟩
theorem Tab.keepB {w w' : World} {g r : Nat} {xs : List (Int × Int)} (h : Tab w g r xs) (m : Below w.heap.size w w') : Tab w' g r xs := ⟨Kit.keepB h.tab m, Kit.keepB h.row m, h.ne, h.short⟩
theorem filling (n j : Nat) (h : j < n) : (List.replicate j ((0 : Int), (1 : Int)) ++ List.replicate (n - j) (0, 0)).set j (((List.replicate j ((0 : Int), (1 : Int)) ++ List.replicate (n - j) (0, 0)).getD j (0, 0)).1, 1) = List.replicate (j + 1) (0, 1) ++ List.replicate (n - (j + 1)) (0, 0) := by
  have e : n - j = (n - (j + 1)) + 1 := by omega
  rw [e, List.replicate_succ, List.replicate_succ']
  simp [List.getD_eq_getElem?_getD]
theorem Tab.put1 {w : World} {g r : Nat} {xs : List (Int × Int)} (h : Tab w g r xs) (j : Nat) (hj : j < xs.length) (a : Int) : Tab (w.setCell ⟨r, j * 2, none⟩ (.int .i64 a)) g r (xs.set j (a, (xs.getD j (0, 0)).2)) :=
  ⟨by rw [List.length_set]; exact Kit.set_far h.tab h.ne _, Sr.set1 h.row j hj a, h.ne, by rw [List.length_set]; exact h.short⟩
theorem Tab.put12 {w : World} {g r : Nat} {xs : List (Int × Int)} (h : Tab w g r xs) (j : Nat) (hj : j < xs.length) (a b : Int) : Tab ((w.setCell ⟨r, j * 2, none⟩ (.int .i64 a)).setCell ⟨r, j * 2 + 1, none⟩ (.int .i64 b)) g r (xs.set j (a, b)) :=
  ⟨by rw [List.length_set]; exact Kit.set_far (Kit.set_far h.tab h.ne _) h.ne _, Sr.set12 h.row j hj a b, h.ne, by rw [List.length_set]; exact h.short⟩
theorem new_it (w : World) (n : Nat) (h1 : 1 ≤ n) (h2 : n ≤ 256) :
    Calls Try.prog 8 #[.int .i64 n] w fun e w' => ∃ g r, e = .returned (.tuple #[.pointer (some ⟨g, 0, none⟩), .int .i64 0]) ∧ Tab w' g r (List.replicate n (0, 1)) ∧ w.heap.size ≤ g ∧ w.heap.size ≤ r ∧ Below w.heap.size w w' := by
  have hmk := Sr.made Try.prog w 50 54 16 Try.underlying50 info54 n (by omega) (by omega) (by omega)
  rw [Int.toNat_natCast] at hmk
  have e1 : decide ((n : Int) < 1) = false := decide_eq_false (by omega)
  have e2 : decide (256 < (n : Int)) = false := decide_eq_false (by omega)
  have T0 := Lib.hid (Kit.keep_alloc (Kit.new_blk w (row 54 (List.replicate n (0, 0)))) (.cells #[.slice (some ⟨w.heap.size, 0, none⟩) n n] 52 (0, 0)))
  have T1 := Lib.hid (Kit.new_blk2 w (row 54 (List.replicate n (0, 0))) (.cells #[.slice (some ⟨w.heap.size, 0, none⟩) n n] 52 (0, 0)))
  have B1 := Lib.hid (Kit.allocB (Kit.allocB (Below.refl w.heap.size w) (row 54 (List.replicate n (0, 0)))) (.cells #[.slice (some ⟨w.heap.size, 0, none⟩) n n] 52 (0, 0)))
  go_enter Try.func8, Try.ntmps8
  go_wp2_with fail
  go_loopw [21] (fun c wr => ∃ j : Nat, j ≤ n ∧ c = .int .i64 j ∧ Hid (wr.heap[w.heap.size]? = some (row 54 (List.replicate j (0, 1) ++ List.replicate (n - j) (0, 0))) ∧ wr.heap[w.heap.size + 1]? = some (.cells #[.slice (some ⟨w.heap.size, 0, none⟩) n n] 52 (0, 0)) ∧ Below w.heap.size w wr)) (fun c _ => n - (intOf c).toNat)
  case atStart => exact ⟨0, Nat.zero_le _, rfl, by simpa using T0.out, T1.out, B1.out⟩
  case round =>
    obtain ⟨j, hj, rfl, H⟩ := hrel
    obtain ⟨h1, h2, h3⟩ := H.out
    have c1 := Kit.cells1 h2
    by_cases hlt : j < n
    · have hf := Sr.frozen h1 (j * 2 + 1)
      have hc := (Sr.cell h1 j (by simp; omega)).2
      have hs := Lib.hid (Sr.set2 h1 j (by simp; omega) 1)
      have hs2 := Lib.hid (Kit.set_far h2 (p := ⟨w.heap.size, j * 2 + 1, none⟩) (by simp) (.int .i64 1))
      have hs3 := Lib.hid (h3.setCell (p := ⟨w.heap.size, j * 2 + 1, none⟩) (Nat.le_refl _) (.int .i64 1))
      clear h1 h2 h3
      go_wp2_with fail
      go_roundw
      case rel =>
        refine ⟨j + 1, by omega, by simp, ?_, hs2.out, hs3.out⟩
        have := hs.out
        rw [filling n j hlt] at this
        exact this
      case measure => simp [intOf]; omega
    · obtain rfl : j = n := by omega
      go_wp2_with fail
      go_ret2
      refine ⟨_, w.heap.size, rfl, ⟨?_, ?_, by omega, by simp; omega⟩, by omega, Nat.le_refl _, h3⟩
      · rw [List.length_replicate]; exact h2
      · simpa using h1
end Go.Proofs.Ytbjlmhkjlipnmaa.Tb
