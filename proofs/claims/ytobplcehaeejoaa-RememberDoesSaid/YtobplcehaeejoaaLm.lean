/- Lists of addresses are made: New. No condition. -/
import Derived.Test.YtobplcehaeejoaaLn
import Derived.Laws.MakeOwn
set_option linter.unusedVariables false
set_option linter.unusedSimpArgs false
namespace Go.Proofs.Ytobplcehaeejoaa.Lm
open Go.RowKit Se Mq Sm Ls Nx Lw Ln
theorem infoM : (Try.prog.info? 48).map (fun i => (i.zero, i.size, i.bytes)) = some (some (.map none), 1, 8) := by kernel_rfl
theorem made (w : World) (g : Nat) (hg : g ≤ 1000) : (Instr.makeSlice 45 (.int .i64 g) (.int .i64 g)).run Try.prog w = .ok (.slice (some ⟨w.heap.size, 0, none⟩) g g) (w.alloc (.cells (mrow g (fun _ => none)) 48 (0, 0))) := by
  obtain ⟨i0, hi, hz0, hz1, hz2⟩ := info_parts infoM
  rw [run_make w 45 48 i0 (.map none) Try.underlying45 hi hz0 .i64 .i64 g g (by omega) (Int.le_refl _) (by rw [hz2]; omega) (by omega), hz1]
  have : madeCells (Value.map none).cells ((g : Int).toNat * 1) = mrow g (fun _ => none) := by
    apply Array.ext
    · simp [size_madeCells, mrow]
    · intro j h1 h2
      simp [madeCells, mrow, Value.cells, Nat.mod_one]
  rw [this]
  simp
theorem new_bad (w : World) (m : Int) (h : m < 1 ∨ 4 < m) : Calls Try.prog 8 #[.int .i64 m] w fun e w' => e = .returned (.tuple #[.pointer none, .int .i64 2]) ∧ w' = w := by
  by_cases h0 : m < 1
  · have e1 : decide (m < 1) = true := decide_eq_true h0
    clear h
    go_enter Try.func8, Try.ntmps8
    go_wp2_with fail
    go_ret2
    exact ⟨rfl, rfl⟩
  · have e1 : decide (m < 1) = false := decide_eq_false h0
    have e2 : decide (4 < m) = true := decide_eq_true (by omega)
    clear h
    go_enter Try.func8, Try.ntmps8
    go_wp2_with fail
    go_ret2
    exact ⟨rfl, rfl⟩
/-- So many sets are made. -/
structure Nw (w wr : World) (g k : Nat) (b : Nat → Nat) : Prop where
  obj : wr.heap[w.heap.size + 1]? = some (.cells #[.slice (some ⟨w.heap.size, 0, none⟩) g g] 47 (0, 0))
  row : wr.heap[w.heap.size]? = some (.cells (mrow g (fun j => if j < k then some (b j) else none)) 48 (0, 0))
  set : ∀ j, j < k → SetM wr (b j) 0 []
  inj : ∀ i j, i < k → j < k → i ≠ j → b i ≠ b j
  low : ∀ j, j < k → w.heap.size ≤ b j
  bel : Below w.heap.size w wr
theorem Nw.step {w wr : World} {g k : Nat} {b : Nat → Nat} (h : Nw w wr g k b) (hk : k < g) : Nw w ((wr.setCell ⟨w.heap.size, k, none⟩ (.map (some wr.heap.size))).alloc (.map #[] 0)) g (k + 1) (upd b k wr.heap.size) := by
  have l0 := Kit.lt_of h.obj
  have l1 := Kit.lt_of h.row
  have up : ∀ j, j < k → upd b k wr.heap.size j = b j := fun j hj => by unfold upd; rw [if_neg (by omega)]
  have us : upd b k wr.heap.size k = wr.heap.size := upd_at _ _ _
  have lb : ∀ j, j < k → b j < wr.heap.size := fun j hj => (h.set j hj).lt
  have nr : ∀ j, j < k → b j ≠ w.heap.size := fun j hj e => by
    obtain ⟨es, c, hb⟩ := (h.set j hj).obj
    rw [e, h.row] at hb; cases hb
  have sz : ∀ j, (wr.setCell ⟨w.heap.size, j, none⟩ (.map (some wr.heap.size))).heap.size = wr.heap.size := fun j => by simp [World.setCell]
  refine ⟨?_, ?_, fun j hj => ?_, fun i j hi hj hne => ?_, fun j hj => ?_, Kit.allocB (Kit.setB h.bel (Nat.le_refl _) _) _⟩
  · exact Kit.keep_alloc (Kit.set_far h.obj (by simp) _) _
  · refine (Kit.keep_alloc (Kit.set_blk h.row k _) _).trans ?_
    rw [mrow_set g _ k _ hk]
    congr 3
    funext j
    by_cases e : j = k
    · subst e; simp [upd]
    · by_cases e2 : j < k
      · rw [if_neg e, if_pos e2, if_pos (by omega), up j e2]
      · rw [if_neg e, if_neg e2, if_neg (by omega)]
  · by_cases e : j = k
    · subst e
      rw [us]
      have := SetM.made (wr.setCell ⟨w.heap.size, j, none⟩ (.map (some wr.heap.size)))
      rw [sz] at this
      exact this
    · rw [up j (by omega)]
      refine (h.set j (by omega)).move ((heap_alloc_old _ _ (by rw [sz]; exact lb j (by omega))).trans (Below.heap_setCell wr ⟨w.heap.size, k, none⟩ _ (b j) (nr j (by omega))))
  · by_cases e1 : i = k
    · subst e1
      rw [us, up j (by omega)]
      have := lb j (by omega)
      omega
    · by_cases e2 : j = k
      · subst e2
        rw [us, up i (by omega)]
        have := lb i (by omega)
        omega
      · rw [up i (by omega), up j (by omega)]
        exact h.inj i j (by omega) (by omega) hne
  · by_cases e : j = k
    · subst e; rw [us]; exact h.bel.size
    · rw [up j (by omega)]; exact h.low j (by omega)
set_option maxHeartbeats 2000000 in
set_option maxRecDepth 100000 in
theorem new_it (w : World) (g : Nat) (h1 : 1 ≤ g) (h2 : g ≤ 4) : Calls Try.prog 8 #[.int .i64 g] w fun e w' =>
    ∃ b, e = .returned (.tuple #[.pointer (some ⟨w.heap.size + 1, 0, none⟩), .int .i64 0]) ∧ Below w.heap.size w w' ∧ Lv w' (w.heap.size + 1) w.heap.size g b 0 (fun _ => []) ∧ ∀ j, j < g → w.heap.size ≤ b j := by
  have hmm := @run_makeMap Try.prog
  have hmk := made w g (by omega)
  have e1 : decide ((g : Int) < 1) = false := decide_eq_false (by omega)
  have e2 : decide (4 < (g : Int)) = false := decide_eq_false (by omega)
  go_enter Try.func8, Try.ntmps8
  go_wp2_with fail
  have HN := Lib.hid (show Nw w ((w.alloc (.cells (mrow g (fun _ => none)) 48 (0, 0))).alloc (.cells #[.slice (some ⟨w.heap.size, 0, none⟩) g g] 47 (0, 0))) g 0 (fun _ => 0) from
    ⟨Kit.new_blk2 w _ _, (Kit.keep_alloc (Kit.new_blk w _) _).trans (by simp), fun j hj => by omega, fun i j hi => by omega, fun j hj => by omega, Kit.allocB (Kit.allocB (Below.refl _ _) _) _⟩)
  clear hmk
  go_loopg [21] g (fun q c wr => ∃ k : Nat, (k ≤ g ∧ q = g - k) ∧ c = .int .i64 k ∧ Hid (∃ b, Nw w wr g k b))
  case atStart => exact ⟨0, ⟨Nat.zero_le _, rfl⟩, rfl, ⟨_, HN.out⟩⟩
  case round =>
    obtain ⟨k, ⟨hk, rfl⟩, rfl, H⟩ := hrel
    obtain ⟨b, N⟩ := H.out
    have c1 := Kit.cells1 N.obj
    by_cases hlt : k < g
    · have c2 := (Kit.cell_of N.row k).trans (mrow_get g _ k hlt)
      rw [if_neg (Nat.lt_irrefl _)] at c2
      have f2 := Kit.frozen_of N.row k
      have ls := Kit.lt_of N.row
      have ls1 := Kit.lt_of N.obj
      have HS := Lib.hid (N.step hlt)
      have n1 : w.heap.size ≠ wr.heap.size := by omega
      clear N H HN
      go_wp2_with fail
      go_roundg (g - (k + 1))
      case measure => omega
      case rel => exact ⟨k + 1, ⟨by omega, rfl⟩, by simp, ⟨_, HS.out⟩⟩
    · obtain rfl : k = g := by omega
      have HX := Lib.hid (show Below w.heap.size w wr ∧ Lv wr (w.heap.size + 1) w.heap.size k b 0 (fun _ => []) ∧ ∀ j, j < k → w.heap.size ≤ b j from ⟨N.bel, ⟨N.obj, by
        refine N.row.trans ?_
        congr 2
        unfold mrow
        congr 1
        apply List.map_congr_left
        intro j hj
        show Value.map (if j < k then some (b j) else none) = _
        rw [if_pos (List.mem_range.1 hj)], N.set, N.inj, h1, h2⟩, N.low⟩)
      clear N H HN
      go_wp2_with fail
      go_ret2
      exact ⟨b, rfl, HX.out⟩
end Go.Proofs.Ytobplcehaeejoaa.Lm
