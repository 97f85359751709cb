/- Lists of addresses: Has, All, Take, Len. No condition. -/
import Derived.Test.YtobplcehaeejoaaLs
import Derived.Test.YtobplcehaeejoaaNx
import Derived.Test.YtobplcehaeejoaaShelf
import Derived.Sort.OwnSortedInts
import Derived.Sort.KeysCollected
import Derived.Carry
set_option linter.unusedVariables false
set_option linter.unusedSimpArgs false
namespace Go.Proofs.Ytobplcehaeejoaa.Lw
open Go.RowKit Se Mq Sm Ls Nx
section
variable {w w' : World} {s r g n : Nat} {b : Nat → Nat} {M : Nat → List Int} {K : Nat → Prop}
theorem look_none (k : Int) (hk : (Lit.int .i64 k).wf = true) (w : World) : (Instr.lookup 48 (.map none) (.int .i64 k) false).run Try.prog w = .ok (.int .i64 0) w := by
  have := Maps.look_nil (P := Try.prog) (w := w) false lawI Try.underlying48 (zeroI w) (keyI k hk)
  simpa using this
/-- Is an address in a generation's set? -/
def hasV (g : Nat) (M : Nat → List Int) (gen k : Int) : Bool := decide (0 ≤ gen ∧ gen < g ∧ k ∈ M gen.toNat)
set_option maxHeartbeats 1000000 in
theorem has_nil (w : World) (gen k : Int) (hk : (Lit.int .i64 k).wf = true) : Calls Try.prog 20 #[.pointer none, .int .i64 gen, .int .i64 k] w fun e w' => e = .returned (.bool false) ∧ w' = w := by
  have LI := Lib.hid (list_nil w gen)
  have hl := look_none k hk
  clear hk
  go_enter Try.func20, Try.ntmps20
  go_wp2_with fail
  refine LI.out.mono ?_
  rintro e _ ⟨rfl, rfl⟩
  go_wp2_with fail
  go_ret
  exact ⟨rfl, rfl⟩
set_option maxHeartbeats 1000000 in
theorem has_it (h : Lv w s r g b n M) (gen k : Int) (hk : (Lit.int .i64 k).wf = true) : Calls Try.prog 20 #[.pointer (some ⟨s, 0, none⟩), .int .i64 gen, .int .i64 k] w fun e w' => e = .returned (.bool (hasV g M gen k)) ∧ w' = w := by
  by_cases hg : gen < 0 ∨ (g : Int) ≤ gen
  · have e : hasV g M gen k = false := decide_eq_false (by omega)
    rw [e]
    have LI := Lib.hid (list_out h gen hg)
    have hl := look_none k hk
    clear h hg e hk
    go_enter Try.func20, Try.ntmps20
    go_wp2_with fail
    refine LI.out.mono ?_
    rintro e _ ⟨rfl, rfl⟩
    go_wp2_with fail
    go_ret
    exact ⟨rfl, rfl⟩
  · obtain ⟨i, rfl⟩ : ∃ i : Nat, gen = i := ⟨gen.toNat, by omega⟩
    have LI := Lib.hid (list_in h i (by omega))
    have hl := (h.set i (by omega)).lookup k hk
    by_cases hm : k ∈ M i
    · have e : hasV g M i k = true := decide_eq_true ⟨by omega, by omega, by simpa using hm⟩
      rw [e]
      rw [if_pos hm] at hl
      clear h hg e hk hm
      generalize b i = bi at *
      go_enter Try.func20, Try.ntmps20
      go_wp2_with fail
      refine LI.out.mono ?_
      rintro e _ ⟨rfl, rfl⟩
      go_wp2_with fail
      go_ret
      exact ⟨rfl, rfl⟩
    · have e : hasV g M i k = false := decide_eq_false (fun c => hm (by simpa using c.2.2))
      rw [e]
      rw [if_neg hm] at hl
      clear h hg e hk hm
      generalize b i = bi at *
      go_enter Try.func20, Try.ntmps20
      go_wp2_with fail
      refine LI.out.mono ?_
      rintro e _ ⟨rfl, rfl⟩
      go_wp2_with fail
      go_ret
      exact ⟨rfl, rfl⟩
/-- Of how many addresses there are. -/
def tot (M : Nat → List Int) : Nat → Nat
  | 0 => 0
  | k + 1 => tot M k + (M k).length
theorem tot_le (M : Nat → List Int) (c : Nat) : ∀ k, (∀ i, i < k → (M i).length ≤ c) → tot M k ≤ k * c
  | 0, _ => by simp [tot]
  | k + 1, h => by
    have := tot_le M c k (fun i hi => h i (by omega))
    have := h k (by omega)
    simp only [tot, Nat.succ_mul]
    omega
theorem len_nil (w : World) : Calls Try.prog 13 #[.pointer none] w fun e w' => e = .returned (.int .i64 0) ∧ w' = w := by
  go_enter Try.func13, Try.ntmps13
  go_wp2_with fail
  go_ret
  exact ⟨rfl, rfl⟩
set_option maxHeartbeats 2000000 in
theorem len_it (h : Lv w s r g b n M) (hn : n ≤ 1000) : Calls Try.prog 13 #[.pointer (some ⟨s, 0, none⟩)] w fun e w' => e = .returned (.int .i64 (tot M g : Nat)) ∧ w' = w := by
  have c1 := Kit.cells1 h.obj
  have sm := h.small
  have HL := Lib.hid h
  have TL := Lib.hid (fun k (hk : k ≤ g) => tot_le M n k (fun i hi => (h.set i (by omega)).size_le))
  clear h
  go_enter Try.func13, Try.ntmps13
  go_wp2_with fail
  go_loop [3, 13] (fun c i => ∃ j : Nat, j ≤ g ∧ i = .int .i64 j ∧ c = .int .i64 (tot M j : Nat)) (fun _ i => g - (intOf i).toNat)
  case atStart => exact ⟨0, by omega, rfl, rfl⟩
  case round =>
    obtain ⟨j, hj, rfl, rfl⟩ := hrel
    by_cases hlt : j < g
    · have c2 := HL.out.cell j hlt
      have hl := fun ty => (HL.out.set j hlt).len ty
      have t1 := TL.out j hj
      have t2 := (HL.out.set j hlt).size_le
      have t3 : j * n ≤ 4 * 1000 := Nat.mul_le_mul (by omega) hn
      have TS := Lib.hid (show tot M (j + 1) = tot M j + (M j).length from rfl)
      generalize b j = bj at *
      generalize tot M j = a at *
      generalize (M j).length = z at *
      have s1 : IntKind.i64.wrap ((a : Int) + z) = (a : Int) + z := IntWalk.i64_in _ (by omega)
      clear t1 t2 t3
      go_wp2_with fail
      go_round
      case rel => exact ⟨j + 1, by omega, by simp, by rw [TS.out]; simp⟩
      case measure => simp [intOf]; omega
    · obtain rfl : j = g := by omega
      go_wp2_with fail
      go_ret
      exact ⟨rfl, rfl⟩
theorem own_base {w : World} {B B' m : Nat} {v : Value} {xs : List Value} (h : w.ownsRow B 3 1 v m xs) (hb : B' ≤ B) : w.ownsRow B' 3 1 v m xs := by
  refine ⟨h.1, ?_⟩
  rcases h.2 with h | ⟨g, cap, cur, rfl, hg, rest⟩
  · exact .inl h
  · exact .inr ⟨g, cap, cur, rfl, by omega, rest⟩
/-- What the sort leaves of a row of the call's own. -/
theorem sort_it (w : World) (B : Nat) (v : Value) (ss m : List Int) (ho : w.ownsRow B 3 1 v ss.length (ints ss)) (hp : ss.Perm m) (hu : Up m) (hl : ss.length ≤ 1000000) :
    Calls Try.prog 23 #[v] w fun e w' => e = .returned (.tuple #[]) ∧ w'.ownsRow B 3 1 v m.length (ints m) ∧ w.grownBy w' v.ownBlock := by
  have e0 := sorted_eq hp hu
  have hlen : m.length = ss.length := hp.length_eq.symm
  rcases ho.2 with ⟨rfl, h0⟩ | ⟨q, cap, cur, rfl, hb, hq, h1, h2, h3, h4⟩
  · have hm : m = [] := List.eq_nil_of_length_eq_zero (by omega)
    subst hm
    refine (Try.slices_Sort_int_none none 0 w).mono ?_
    rintro e w' ⟨rfl, rfl⟩
    exact ⟨rfl, World.ownsRow_nil _ _ _ _, ⟨rfl, rfl, rfl, Nat.le_refl _, fun _ _ _ => rfl⟩⟩
  · rw [Nat.mul_one] at h4
    refine (Try.slices_Sort_int q 0 cap ss w (holds_of_blockI hq h4) (Kit.lt_of hq) (by omega)).mono ?_
    rintro e w' ⟨rfl, nn, os, rfl⟩
    rw [e0]
    refine ⟨rfl, ?_, grownBy_sortedI _⟩
    have := ownsRow_sortedI (n := nn) (os := os) hlen hb hq h1 h2 h3
    rw [hlen]
    exact this
/-- What is met on the way of All. -/
structure Aw (w wr : World) (bi n : Nat) (D : DataW Unit) (m : List Int) (left : Lit → Bool) (cnt : Nat) (v : Value) (ss : List Int) : Prop where
  rng : wr.ranges Try.prog 3 (plainElem Try.prog 3) bi w.heap.size n D left cnt
  met : Sm.Met m left ss
  own : wr.ownsRow (w.heap.size + 1) 3 1 v ss.length (ints ss)
  bel : Below w.heap.size w wr
theorem Aw.next {w wr w1 : World} {bi n : Nat} {D : DataW Unit} {m : List Int} {left : Lit → Bool} {cnt cnt1 : Nat} {v : Value} {ss : List Int} (h : Aw w wr bi n D m left cnt v ss) (hI : Is D m) {x c : Int} (hl : left (.int .i64 x) = true) (hat : ∀ zd, D.atKey (.int .i64 x) zd = .lit (.int .i64 c))
    (hr : w1.ranges Try.prog 3 (plainElem Try.prog 3) bi w.heap.size n D (fun z => left z && !z.sameKey (.int .i64 x)) cnt1) (hg : wr.grownBy w1 (some w.heap.size)) (hm : m.length ≤ 100000) :
    ∃ v' w2, (Builtin.append_ #[22, 22] 22 #[v, .slice (some ⟨w1.heap.size, 0, none⟩) 1 1]).run Try.prog (w1.alloc (.cells #[.int .i64 x] 3)) = .ok v' w2 ∧ (∃ a n c, v' = .slice a n c) ∧ Aw w w2 bi n D m (fun z => left z && !z.sameKey (.int .i64 x)) cnt1 v' (ss ++ [x]) := by
  have M1 := h.met.step hI hl hat
  have hle := M1.le
  simp only [List.length_append, List.length_cons, List.length_nil] at hle
  have o1 : w1.ownsRow (w.heap.size + 1) 3 1 v ss.length (ints ss) := own_kept h.own (fun k hk => by
    have := h.own.lt k hk
    exact hg.block k this.2 (fun e => by cases e; omega))
  have hz := h.bel.size
  have hz1 := hg.size
  have hit := h.rng.lt
  obtain ⟨v', w2, hrun, sh, o2, g2, k2⟩ := run_push (w.heap.size + 1) v ss x o1 (by omega) (by omega)
  have b1 : Below w.heap.size w w1 := Kit.step1 h.bel ⟨hg.os, hg.tape, hg.output, hg.size, fun i hi hn => hg.block i hi (fun e => hn (by cases e; simp))⟩ (Nat.le_refl _)
  have lo : ∀ k, v.ownBlock = some k → w.heap.size + 1 ≤ k := fun k hk => (o1.lt k hk).1
  refine ⟨v', w2, hrun, sh, ?_, M1, by simpa using o2, ⟨g2.os.trans b1.os, g2.tape.trans b1.tape, g2.output.trans b1.output, Nat.le_trans b1.size g2.size, fun k hk => (g2.block k (by omega) (fun e => by have := lo k e.symm; omega)).trans (b1.block k hk)⟩⟩
  have hb1 : bi ≠ w.heap.size := fun e => hr.ne e.symm
  obtain ⟨es, c0, hbi⟩ : ∃ es c, w1.heap[bi]? = some (.map es c) := by
    obtain ⟨es, c, _, _, _, hb, _⟩ := hr
    exact ⟨es, c, hb⟩
  refine hr.kept g2 (fun e => ?_) (fun e => ?_)
  · rcases h.own.2 with ⟨hv, _⟩ | ⟨q, cap, cur, hv, hb, hq, _⟩
    · rw [hv] at e; cases e
    · rw [hv] at e
      simp only [Value.ownBlock, Option.some.injEq] at e
      subst e
      obtain ⟨cs, t, fz, hcs⟩ : ∃ cs t fz, w1.heap[bi]? = some (.cells cs t fz) := ⟨_, _, _, (hg.block bi (Kit.lt_of hq) (fun e => by cases e; omega)).trans hq⟩
      rw [hbi] at hcs; cases hcs
  · have := lo _ e.symm; omega
set_option maxHeartbeats 4000000 in
set_option maxRecDepth 100000 in
theorem all_it (h : Lv w s r g b n M) (i : Nat) (hi : i < g) (hn : n ≤ 1000) : Calls Try.prog 11 #[.pointer (some ⟨s, 0, none⟩), .int .i64 i] w fun e w' =>
    ∃ v, e = .returned v ∧ w'.ownsRow w.heap.size 3 1 v (M i).length (ints (M i)) ∧ Below w.heap.size w w' := by
  have LI := Lib.hid (list_in h i hi)
  obtain ⟨D, hown, hI⟩ := h.set i hi
  have hm := (h.set i hi).size_le
  have HI := Lib.hid hI
  generalize M i = m at *
  generalize b i = bi at *
  clear h hI
  go_enter Try.func11, Try.ntmps11
  go_wp2_with fail
  refine LI.out.mono ?_
  rintro e w ⟨rfl, rfl⟩
  go_wp2_with (first | (at_range; refine wpList_range_own _ rfl (.tmp 9) 48 rfl 3 3 lawI Try.underlying48 (plainElem Try.prog 3) bi n D rfl hown ?_; intro w0 hrg0 hg0 hs0) | fail)
  go_frame
  have HA := Lib.hid (show Aw w w0 bi n D m (Maps.has D) (Maps.size D) (.slice none 0 0) [] from ⟨hrg0, Sm.Met.start HI.out, World.ownsRow_nil _ _ _ _, ⟨hg0.os, hg0.tape, hg0.output, hg0.size, fun k hk => hg0.block k hk (by simp)⟩⟩)
  clear hrg0 hg0 hs0 hown LI
  go_loopw [5, 6] (fun v _ wr => ∃ left cnt ss, (∃ a n c, v = .slice a n c) ∧ Hid (Aw w wr bi n D m left cnt v ss)) (fun _ _ wr => wr.rangeLeft bi w.heap.size)
  case atStart => exact ⟨_, _, _, ⟨_, _, _, rfl⟩, HA⟩
  case round =>
    obtain ⟨left, cnt, ss, ⟨va, vn, vc, rfl⟩, H⟩ := hrel
    have hrg := H.out.rng
    go_wp2_with (first | (at_next; refine wpList_next_ranges_ii _ rfl (.tmp 10) rfl 3 3 .i64 .i64 lawI Try.underlying3 Try.underlying3 bi w.heap.size n D left cnt rfl hrg ?_ ?_) | fail)
    · intro hc0 hl0
      have SI := Lib.hid (sort_it wr (w.heap.size + 1) (.slice va vn vc) ss m H.out.own (H.out.met.perm HI.out.up hl0) HI.out.up (by have := H.out.met.le; omega))
      clear hc0 hl0 hrg
      go_wp2_with fail
      refine SI.out.mono ?_
      rintro e w2 ⟨rfl, o2, g2⟩
      have HX := Lib.hid (show w2.ownsRow w.heap.size 3 1 (.slice va vn vc) m.length (ints m) ∧ Below w.heap.size w w2 from ⟨own_base o2 (by omega), by
        have bl := H.out.bel
        exact ⟨g2.os.trans bl.os, g2.tape.trans bl.tape, g2.output.trans bl.output, Nat.le_trans bl.size g2.size, fun k hk => (g2.block k (Nat.lt_of_lt_of_le hk bl.size) (fun e => by have := (H.out.own.lt k e.symm).1; omega)).trans (bl.block k hk)⟩⟩)
      clear o2 g2 SI H
      go_wp2_with fail
      go_ret
      exact ⟨_, rfl, HX.out⟩
    · intro x c w1 cnt1 hwx hwc hlx hat hrg1 hlt hg1 hs1 hen
      obtain ⟨v', w2, hrun, ⟨pa, pn, pc, rfl⟩, HN⟩ := H.out.next HI.out hlx hat hrg1 hg1 (by omega)
      have R1 := Lib.hid hrun
      have HA2 := Lib.hid HN
      have HM := Lib.hid (show w2.rangeLeft bi w.heap.size < wr.rangeLeft bi w.heap.size by rw [HN.rng.left_eq, hrg.left_eq]; exact hlt)
      clear hwx hwc hlx hat hrg1 hlt hg1 hs1 hrun HN H hrg
      go_wp2_with (at_builtin; refine Rw.wp_append rfl (.tmp 15) (.tmp 17) 22 _ _ _ rfl rfl rfl R1.out ?_)
      go_roundw
      case rel => exact ⟨_, _, _, ⟨_, _, _, rfl⟩, HA2⟩
      case measure => exact HM.out
end
end Go.Proofs.Ytobplcehaeejoaa.Lw
