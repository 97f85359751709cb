/- Slices of numbers: what is gathered reads so; a row's numbers appended to another's; a law's helper same. No condition. -/
import Derived.Test.YtobplcehaeejoaaRw
import Derived.Test.YtobplcehaeejoaaProg
import Derived.Deep.AppendSrc
import Derived.Deep.QuietTactic
import Derived.BigQuiet
import Derived.Deep.LoopGhost
import Derived.Maps.AppendAt
import Derived.IntWalk
set_option linter.unusedVariables false
set_option linter.unusedSimpArgs false
namespace Go.Proofs.Ytobplcehaeejoaa.Nx
open Go.RowKit
theorem infoI : (Try.prog.info? 3).map (fun i => (i.zero, i.size, i.bytes)) = some (some (.int .i64 0), 1, 8) := by kernel_rfl
def ints (l : List Int) : List Value := l.map (Value.int .i64)
theorem ints_get (ps : List Int) (k : Nat) (h : k < ps.length) : (ints ps)[k]? = some (.int .i64 (ps.getD k 0)) := by simp [ints, h, List.getD_eq_getElem?_getD]
theorem ints_one (l : List Int) : ∀ u ∈ ints l, u.oneCell' = true := fun u hu => by
  unfold ints at hu
  rw [List.mem_map] at hu
  obtain ⟨x, _, rfl⟩ := hu
  rfl
/-- A slice that reads as these numbers. -/
structure Sl (w : World) (p : Option Addr) (ps : List Int) : Prop where
  cells : 0 < ps.length → ∃ b off, p = some ⟨b, off, none⟩ ∧ b < w.heap.size ∧ ∀ i, i < ps.length → w.cell? ⟨b, off + i, none⟩ = some (.int .i64 (ps.getD i 0))
theorem Sl.keepB {w w' : World} {p : Option Addr} {ps : List Int} (h : Sl w p ps) (m : Below w.heap.size w w') : Sl w' p ps :=
  ⟨fun h0 => by
    obtain ⟨b, off, e, hb, hc⟩ := h.cells h0
    exact ⟨b, off, e, Nat.lt_of_lt_of_le hb m.size, fun i hi => (m.cell (p := ⟨b, off + i, none⟩) hb).trans (hc i hi)⟩⟩
theorem Sl.keep {w w' : World} {p : Option Addr} {ps : List Int} (h : Sl w p ps) {S : List Nat} (m : Kit.Mod S w w') (hs : ∀ b off, p = some ⟨b, off, none⟩ → b ∉ S) : Sl w' p ps :=
  ⟨fun h0 => by
    obtain ⟨b, off, e, hb, hc⟩ := h.cells h0
    exact ⟨b, off, e, Nat.lt_of_lt_of_le hb m.size, fun i hi => (World.cell?_of_block (w := w) (a := ⟨b, off + i, none⟩) (m.block b hb (hs b off e))).trans (hc i hi)⟩⟩
theorem Sl.heap {w w' : World} {p : Option Addr} {ps : List Int} (h : Sl w p ps) (e : w'.heap = w.heap) : Sl w' p ps :=
  ⟨fun h0 => by
    obtain ⟨b, off, e1, hb, hc⟩ := h.cells h0
    exact ⟨b, off, e1, by rw [e]; exact hb, fun i hi => (by unfold World.cell?; rw [e] : w'.cell? ⟨b, off + i, none⟩ = w.cell? ⟨b, off + i, none⟩).trans (hc i hi)⟩⟩
theorem own_addr {w : World} {e : TypeId} {b : Nat} {v : Value} {n : Nat} {ys : List Value} (h : w.ownsRow b e 1 v n ys) (hn : 0 < n) : ∃ q cp, v = .slice (some ⟨q, 0, none⟩) n cp ∧ b ≤ q ∧ q < w.heap.size := by
  rcases h.2 with ⟨rfl, rfl⟩ | ⟨g, cap, cur, rfl, hb, hg, _⟩
  · omega
  · exact ⟨g, cap, rfl, hb, Kit.lt_of hg⟩
/-- What is gathered: a slice, that reads as these numbers, at or beyond a place. -/
theorem Sl.of {w : World} {b n : Nat} {v : Value} {ps : List Int} (h : w.ownsRow b 3 1 v n (ints ps)) (hn : n = ps.length) : ∃ p c, v = .slice p ps.length c ∧ Sl w p ps ∧ ∀ q o, p = some ⟨q, o, none⟩ → b ≤ q := by
  subst hn
  by_cases h0 : 0 < ps.length
  · obtain ⟨q, cp, rfl, hq, hl⟩ := own_addr h h0
    refine ⟨_, _, rfl, ⟨fun _ => ⟨q, 0, rfl, hl, fun i hi => ?_⟩⟩, fun q' o e => by cases e; exact hq⟩
    have := h.cells (g := q) rfl i _ (ints_get ps i hi)
    rw [Addr.add_lit] at this
    exact this
  · rcases h.2 with ⟨e, e2⟩ | ⟨g, cap, cur, e, hb, hg, _⟩
    · exact ⟨none, 0, by rw [e, e2], ⟨fun h1 => absurd h1 h0⟩, fun q o e => by cases e⟩
    · exact ⟨_, _, e, ⟨fun h1 => absurd h1 h0⟩, fun q o e2 => by cases e2; exact hb⟩
theorem own_keepB {w w' : World} {B n : Nat} {v : Value} {xs : List Value} (h : w.ownsRow B 3 1 v n xs) (m : Below w.heap.size w w') : w'.ownsRow B 3 1 v n xs := by
  refine ⟨h.1, ?_⟩
  rcases h.2 with h | ⟨g, cap, cur, rfl, hb, hg, rest⟩
  · exact .inl h
  · exact .inr ⟨g, cap, cur, rfl, hb, Kit.keepB hg m, rest⟩
/-- A slice literal of one number. -/
theorem one_new (w : World) (x : Int) : Sl (w.alloc (.cells #[.int .i64 x] 3)) (some ⟨w.heap.size, 0, none⟩) [x] ∧ Below w.heap.size w (w.alloc (.cells #[.int .i64 x] 3)) := by
  refine ⟨⟨fun _ => ⟨w.heap.size, 0, rfl, by simp, fun i hi => ?_⟩⟩, Kit.allocB (Below.refl _ _) _⟩
  have : i = 0 := by simp at hi; omega
  subst this
  exact Kit.cells1 (Kit.new_blk w _)
/-- A row's numbers behind another's. -/
theorem run_rows {w : World} (base b' : Nat) (ty : TypeId) (v s : Value) (n m : Nat) (xs ys : List Int) (hown : w.ownsRow base 3 1 v n (ints xs)) (hs : w.ownsRow b' 3 1 s m (ints ys)) (hl : n + m ≤ 1000000) (hb : base ≤ w.heap.size) :
    ∃ v' w', (Builtin.append_ #[22, 22] ty #[v, s]).run Try.prog w = .ok v' w' ∧ w'.ownsRow base 3 1 v' (n + m) (ints (xs ++ ys)) ∧ w.grownBy w' v.ownBlock ∧ (v'.ownBlock = v.ownBlock ∨ v'.ownBlock = some w.heap.size) := by
  obtain ⟨i0, hi, hz0, hz1, hz2⟩ := info_parts infoI
  have e : ints (xs ++ ys) = ints xs ++ ints ys := by simp [ints]
  rw [e]
  rcases hs.2 with ⟨rfl, rfl⟩ | ⟨g, cap, cur, rfl, hb', hg, hc, hm, hsz, ht⟩
  · have hy : ints ys = [] := List.eq_nil_of_length_eq_zero (by simpa using hs.1)
    rw [hy, List.append_nil, Nat.add_zero]
    rcases hown.2 with ⟨rfl, rfl⟩ | ⟨g, cap, cur, rfl, hbg, hg, hnc, hcm, hcs, htake⟩
    · refine ⟨.slice none 0 0, w, ?_, hown, ⟨rfl, rfl, rfl, Nat.le_refl _, fun _ _ _ => rfl⟩, .inl rfl⟩
      simp [Builtin.append_, run_underlying Try.underlying22, sizeOf, typeInfo, hi, Builtin.lenOf, Builtin.firstCells, loadCells, loadCellsFrom]
    · refine ⟨_, _, run_append_room_src w 22 22 ty 3 i0 Try.underlying22 hi g 0 n cap (.slice none 0 0) 0 [] (Src.ofNil w Try.underlying22 0) (by omega) (fun j hj => by simp at hj) (fun j hj => by simp at hj), ?_, ?_, .inl rfl⟩
      · exact hown
      · exact ⟨rfl, rfl, rfl, Nat.le_refl _, fun _ _ _ => rfl⟩
  · obtain ⟨v', w', hr, h2, h3, _, h4⟩ := run_append_own_at (P := Try.prog) w base 22 ty 3 i0 (.int .i64 0) 1 8 Try.underlying22 hi hz0 hz1 hz2 rfl (by decide) v n (ints xs) hown ⟨g, 0, none⟩ m cap (ints ys) (by rw [hs.1])
      (fun j u hj => hs.cells (g := g) rfl j u hj) (ints_one ys) (by unfold maxLen; omega) (by omega) hb
    exact ⟨v', w', hr, h2, h3, h4⟩
theorem one_own (w : World) (x : Int) : (w.alloc (.cells #[.int .i64 x] 3)).ownsRow w.heap.size 3 1 (.slice (some ⟨w.heap.size, 0, none⟩) 1 1) 1 (ints [x]) :=
  ⟨by simp [ints], .inr ⟨w.heap.size, 1, _, rfl, Nat.le_refl _, Kit.new_blk w _, Nat.le_refl _, by unfold maxLen; omega, rfl, rfl⟩⟩
theorem own_shape {w : World} {B n : Nat} {v : Value} {xs : List Value} (h : w.ownsRow B 3 1 v n xs) : ∃ a c, v = .slice a n c := by
  rcases h.2 with ⟨rfl, rfl⟩ | ⟨g, cap, cur, rfl, _⟩
  · exact ⟨_, _, rfl⟩
  · exact ⟨_, _, rfl⟩
theorem own_kept {w w' : World} {B n : Nat} {v : Value} {xs : List Value} (h : w.ownsRow B 3 1 v n xs) (m : ∀ k, v.ownBlock = some k → w'.heap[k]? = w.heap[k]?) : w'.ownsRow B 3 1 v n xs := by
  refine ⟨h.1, ?_⟩
  rcases h.2 with h | ⟨g, cap, cur, rfl, hb, hg, rest⟩
  · exact .inl h
  · exact .inr ⟨g, cap, cur, rfl, hb, (m g rfl).trans hg, rest⟩
/-- One number more, gathered in blocks from a place on. -/
theorem run_push {w : World} (B : Nat) (v : Value) (xs : List Int) (x : Int) (hown : w.ownsRow B 3 1 v xs.length (ints xs)) (hl : xs.length + 1 ≤ 1000000) (hb : B ≤ w.heap.size) :
    ∃ v' w', (Builtin.append_ #[22, 22] 22 #[v, .slice (some ⟨w.heap.size, 0, none⟩) 1 1]).run Try.prog (w.alloc (.cells #[.int .i64 x] 3)) = .ok v' w' ∧ (∃ a n c, v' = .slice a n c) ∧ w'.ownsRow B 3 1 v' (xs ++ [x]).length (ints (xs ++ [x])) ∧ w.grownBy w' v.ownBlock ∧ (v'.ownBlock = v.ownBlock ∨ v'.ownBlock = some (w.heap.size + 1)) := by
  obtain ⟨v', w', hr, o1, g1, k1⟩ := run_rows (w := w.alloc (.cells #[.int .i64 x] 3)) B w.heap.size 22 v _ xs.length 1 xs [x] (hown.alloc _) (one_own w x) hl (by simp; omega)
  have hsz : (w.alloc (.cells #[.int .i64 x] 3)).heap.size = w.heap.size + 1 := by simp
  rw [hsz] at k1
  refine ⟨v', w', hr, ?_, by simpa using o1, ⟨g1.os, g1.tape, g1.output, by have := g1.size; omega, fun i hi hn => (g1.block i (by omega) hn).trans (heap_alloc_old w _ hi)⟩, k1⟩
  obtain ⟨a, c, e⟩ := own_shape o1
  exact ⟨a, _, c, e⟩
set_option maxRecDepth 100000 in
set_option maxHeartbeats 1000000 in
theorem same_it (w : World) (p1 p2 : Option Addr) (c1 c2 : Nat) (ps : List Int) (S1 : Sl w p1 ps) (S2 : Sl w p2 ps) (hl : ps.length ≤ 1000000) :
    Calls Try.prog 12 #[.slice p1 ps.length c1, .slice p2 ps.length c2] w fun e w' => e = .returned (.bool true) ∧ ∃ n, w' = w.drewN n := by
  have T1 := Lib.hid S1
  have T2 := Lib.hid S2
  clear S1 S2
  go_enter Try.func12, Try.ntmps12
  go_wp2_with fail
  go_loopg [5] ps.length (fun n i wr => ∃ j : Nat, (j ≤ ps.length ∧ n = ps.length - j) ∧ i = .int .i64 j ∧ Hid (∃ n, wr = w.drewN n))
  case atStart => exact ⟨0, ⟨Nat.zero_le _, rfl⟩, rfl, ⟨0, rfl⟩⟩
  case round =>
    obtain ⟨j, ⟨hj, rfl⟩, rfl, HN⟩ := hrel
    obtain ⟨nn, hnn⟩ := HN.out
    by_cases hlt : j < ps.length
    · obtain ⟨b1, o1, rfl, hb1, hc1⟩ := T1.out.cells (by omega)
      obtain ⟨b2, o2, rfl, hb2, hc2⟩ := T2.out.cells (by omega)
      have e1 : wr.cell? ⟨b1, o1 + j, none⟩ = some (.int .i64 (ps.getD j 0)) := by rw [hnn]; exact hc1 j hlt
      have e2 : wr.cell? ⟨b2, o2 + j, none⟩ = some (.int .i64 (ps.getD j 0)) := by rw [hnn]; exact hc2 j hlt
      have HNN := Lib.hid hnn
      generalize ps.getD j 0 = y at e1 e2
      have lb : (j : Int) < ps.length := by omega
      clear hc1 hc2 hnn HN
      go_wp2_with fail
      go_quiet (fail)
      go_wp2_with fail
      go_roundg (ps.length - (j + 1))
      case measure => omega
      case rel => exact ⟨j + 1, ⟨by omega, rfl⟩, by simp, ⟨nn + nq, by rw [HNN.out]; simp [World.drewN, Nat.add_assoc]⟩⟩
    · clear hnn
      go_wp2_with fail
      go_ret
      exact ⟨rfl, HN.out⟩
end Go.Proofs.Ytobplcehaeejoaa.Nx
