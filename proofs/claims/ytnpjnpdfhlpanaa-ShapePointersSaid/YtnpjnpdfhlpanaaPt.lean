/- The range over a closure's pointers, and what a reader gathers from it. No condition. -/
import Derived.Test.YtnpjnpdfhlpanaaKit
import Derived.Test.YtnpjnpdfhlpanaaNPShapeOver
import Derived.OpenShut
import Derived.Laws.AppendOwn
import Derived.OwnWalk
import Derived.OneCell
set_option linter.unusedVariables false
set_option linter.unusedSimpArgs false
namespace Go.Proofs.Ytnpjnpdfhlpanaa.Pt
open Go.RowKit Go.WideShapes
open NPShapeOver (right In)
def vals (n : Nat) : List Value := (List.range n).map fun (i : Nat) => Value.int .i64 ((i : Int) + 1)
theorem vals_succ (n : Nat) : vals (n + 1) = vals n ++ [.int .i64 ((n : Int) + 1)] := by simp [vals, List.range_succ]
theorem info3 : (Try.prog.info? 3).map (fun i => (i.zero, i.size, i.bytes)) = some (some (.int .i64 0), 1, 8) := by kernel_rfl
/-- One more is gathered. -/
theorem put_it (w : World) (Bo Bm : Nat) (m : Int) (n : Nat) (v : Value) (hn : n ≤ 1048576) (hbm : Bm < Bo) (hv : w.heap[Bo]? = some (.cells #[v] 34 (0, 0))) (hm : w.heap[Bm]? = some (.cells #[.int .i64 m] 3 (0, 0)))
    (hown : w.ownsRow (Bo + 1) 3 1 v n (vals n)) :
    Calls Try.prog 24 #[.int .i64 ((n : Int) + 1), .pointer (some ⟨Bo, 0, none⟩), .pointer (some ⟨Bm, 0, none⟩)] w fun e w' => e = .returned (.bool (((n : Int) + 1) != m)) ∧ ∃ v', w'.heap[Bo]? = some (.cells #[v'] 34 (0, 0)) ∧ w'.ownsRow (Bo + 1) 3 1 v' (n + 1) (vals (n + 1)) ∧ Below Bo w w' := by
  obtain ⟨i0, hi, hz0, hz1, hz2⟩ := info_parts info3
  have hlt := Kit.lt_of hv
  have hc := Kit.cells1 hv
  have h34 := Try.underlying34
  go_enter Try.func24, Try.ntmps24
  go_wp2_with (at_builtin; refine wpList_append_own _ rfl _ _ 34 rfl (Bo + 1) 3 i0 (.int .i64 0) 1 8 Try.underlying34 hi hz0 hz1 hz2 rfl (by decide) _ _ _ rfl (hown.alloc _) ⟨w.heap.size, 0, none⟩ 1 1 [.int .i64 ((n : Int) + 1)] rfl rfl (cell_one_new _ _ _) (fun x hx => by simp at hx; subst hx; rfl) (by unfold maxLen; omega) (by omega) (by simp; omega) ?_)
  intro v' w1 hown' hgrow _
  obtain ⟨g, cap, rfl, hg⟩ : ∃ g cap, v' = .slice (some ⟨g, 0, none⟩) (n + 1) cap ∧ Bo + 1 ≤ g := by
    rcases hown'.2 with ⟨_, h0⟩ | ⟨g, cap, cur, h, hb, _⟩
    · omega
    · exact ⟨g, cap, h, hb⟩
  have hrow : ∀ k, v.ownBlock = some k → Bo + 1 ≤ k ∧ k < w.heap.size := fun k h => hown.lt k h
  have ho1 : w1.heap[Bo]? = some (.cells #[v] 34 (0, 0)) := (hgrow.block Bo (by simp; omega) (fun e => by have := (hrow Bo e.symm).1; omega)).trans (Kit.keep_alloc hv _)
  have hb1 : Below Bo w w1 := ((Below.refl Bo w).alloc (by omega) _).grown hgrow (by simp; omega) (fun k h => by have := (hrow k h).1; omega)
  have hm1 : w1.heap[Bm]? = some (.cells #[.int .i64 m] 3 (0, 0)) := (hb1.block Bm hbm).trans hm
  have hc1 := Kit.cells1 ho1
  have hf1 := Kit.frozen_of ho1 0
  have hs1 := Kit.set_blk ho1 0 (.slice (some ⟨g, 0, none⟩) (n + 1) cap)
  have hown2 := ownsRow_setCell_other hown' (a := ⟨Bo, 0, none⟩) (by simp [Value.ownBlock]; omega) (.slice (some ⟨g, 0, none⟩) (n + 1) cap)
  have hm2 := Kit.set_far hm1 (p := ⟨Bo, 0, none⟩) (by simp; omega) (.slice (some ⟨g, 0, none⟩) (n + 1) cap)
  have hb2 := hb1.setCell (p := ⟨Bo, 0, none⟩) (Nat.le_refl _) (.slice (some ⟨g, 0, none⟩) (n + 1) cap)
  have cm := Kit.cells1 hm2
  have co := Kit.cells1 hs1
  have Hs := Lib.hid hs1
  rw [← vals_succ] at hown2
  have Ho := Lib.hid hown2
  have Hb := Lib.hid hb2
  clear hs1 hown2 hb2 hm2 hb1 hm1 ho1 hrow hown' hgrow hown hm hv hc
  go_wp2_with fail
  go_ret
  exact ⟨rfl, _, Hs.out, Ho.out, Hb.out⟩
/-- How many places are told. -/
def cnt (r p m : Int) : Nat := if r = 0 then (if 1 ≤ m ∧ m ≤ p then m.toNat else p.toNat) else 0
/-- The range runs. -/
theorem run_it (w : World) (Bo Bm Bh : Nat) (m k i p n : Int) (hp : In p) (hbh : Bh < Bo) (hbm : Bm < Bo) (hv : w.heap[Bo]? = some (.cells #[.slice none 0 0] 34 (0, 0))) (hm : w.heap[Bm]? = some (.cells #[.int .i64 m] 3 (0, 0)))
    (hh : w.heap[Bh]? = some (.cells #[.int .i64 k, .int .i64 i, .int .i64 p, .int .i64 n] 23 (0, 0))) :
    Calls Try.prog 25 #[.func (.func 24) #[] #[.pointer (some ⟨Bo, 0, none⟩), .pointer (some ⟨Bm, 0, none⟩)], .pointer (some ⟨Bh, 0, none⟩)] w fun e w' => e = .returned (.tuple #[]) ∧ ∃ v', w'.heap[Bo]? = some (.cells #[v'] 34 (0, 0)) ∧ w'.ownsRow (Bo + 1) 3 1 v' (cnt (right k i p n) p m) (vals (cnt (right k i p n) p m)) ∧ Below Bo w w' := by
  obtain ⟨c0, c1, c2, c3⟩ := Kit.cells4 hh
  have R9 : ∀ w1 : World, Calls Try.prog 9 #[.agg #[.int .i64 k, .int .i64 i, .int .i64 p, .int .i64 n]] w1 fun e w' => e = .returned (.int .i64 (right k i p n)) ∧ Below w1.heap.size w1 w' :=
    fun w1 => PShapeOver.shape_Right.calls 12 k i p n _ w1 (NPShapeOver.right_it k i p n hp)
  have hz : right k i p n = 0 → 0 ≤ p ∧ p ≤ 4095 := fun h => by have := NPShapeOver.parts_bound k p n (NPShapeOver.right_zero k i p n h).1; omega
  generalize right k i p n = r at R9 hz
  obtain ⟨c, hc⟩ : ∃ c, c = cnt r p m := ⟨_, rfl⟩
  rw [← hc]
  unfold cnt at hc
  go_enter Try.func25, Try.ntmps25
  go_wp2_with fail
  refine (R9 _).mono ?_; rintro e w1 ⟨rfl, hb⟩
  have hh1 := Kit.keepB hh hb
  have hv1 := Kit.keepB hv hb
  have hm1 := Kit.keepB hm hb
  have hB1 : Below Bo w w1 := hb.mono (Nat.le_of_lt (Kit.lt_of hv))
  obtain ⟨d0, d1, d2, d3⟩ := Kit.cells4 hh1
  have hlt := Kit.lt_of hv1
  clear hh hv hm hb c0 c1 c2 c3 R9 hh1
  by_cases r0 : r = 0
  · obtain ⟨p0, p1⟩ := hz r0
    subst r0
    rw [if_pos rfl] at hc
    have Hc := Lib.hid hc
    have Hm := Lib.hid hm1
    have Hv := Lib.hid hv1
    have HB := Lib.hid hB1
    clear hm1 hv1 hB1 hc hz
    go_wp2_with fail
    go_loopw [9] (fun c wr => ∃ j : Nat, (j : Int) ≤ p ∧ c = .int .i64 j ∧ (m < 1 ∨ (j : Int) < m) ∧ Hid (∃ v, wr.heap[Bo]? = some (.cells #[v] 34 (0, 0)) ∧ wr.ownsRow (Bo + 1) 3 1 v j (vals j) ∧ Below Bo w1 wr)) (fun c _ => p.toNat - (intOf c).toNat)
    case atStart => exact ⟨0, by omega, rfl, by omega, ⟨_, Hv.out, World.ownsRow_nil _ _ _ _, Below.refl _ _⟩⟩
    case round =>
      obtain ⟨j, hj, rfl, hjm, H⟩ := hrel
      by_cases hlt : (j : Int) < p
      · obtain ⟨v, h1, h2, h3⟩ := H.out
        have T := put_it _ Bo Bm m j v (by omega) hbm h1 ((h3.block Bm hbm).trans Hm.out) h2
        have HT := Lib.hid T
        have H3 := Lib.hid h3
        clear T h1 h2 h3 H
        go_wp2_with fail
        refine HT.out.mono ?_; rintro e w3 ⟨rfl, hw⟩
        have Hw := Lib.hid hw
        clear hw HT
        by_cases e : (j : Int) + 1 = m
        · have e1 : (((j : Int) + 1) != m) = false := by simp [e]
          rw [e1]
          clear e1
          go_wp2_with fail
          refine bodyPost_ret (results_none rfl _ _ _) rfl ?_
          obtain ⟨v', g1, g2, g3⟩ := Hw.out
          have : c = j + 1 := by rw [Hc.out, if_pos (by omega)]; omega
          subst this
          exact ⟨rfl, v', g1, g2, HB.out.trans (H3.out.trans g3)⟩
        · have e1 : (((j : Int) + 1) != m) = true := by simp [e]
          rw [e1]
          clear e1
          go_wp2_with fail
          go_roundw
          case rel =>
            obtain ⟨v', g1, g2, g3⟩ := Hw.out
            exact ⟨j + 1, by omega, by simp, by omega, ⟨v', g1, g2, H3.out.trans g3⟩⟩
          case measure => simp [intOf]; omega
      · obtain rfl : (j : Int) = p := by omega
        go_wp2_with fail
        go_end0
        obtain ⟨v', g1, g2, g3⟩ := H.out
        have : c = j := by rw [Hc.out, if_neg (by omega)]; simp
        subst this
        exact ⟨rfl, v', g1, g2, HB.out.trans g3⟩
  · have e1 : (r != 0) = true := by simp [r0]
    rw [if_neg r0] at hc
    subst hc
    go_wp2_with fail
    refine bodyPost_ret (results_none rfl _ _ _) rfl ?_
    exact ⟨rfl, _, hv1, World.ownsRow_nil _ _ _ _, hB1⟩
end Go.Proofs.Ytnpjnpdfhlpanaa.Pt
