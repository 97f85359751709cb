/- Lists of addresses, a set for each generation: what they hold in memory; list, wrong, Put, Drop, Has, Len. No condition. -/
import Derived.Test.YtobplcehaeejoaaSm
import Derived.WalkSpells
import Derived.WalkLawsBesides
set_option linter.unusedVariables false
set_option linter.unusedSimpArgs false
namespace Go.Proofs.Ytobplcehaeejoaa.Ls
open Go.RowKit Se Mq Sm
def mrow (g : Nat) (b : Nat → Option Nat) : Array Value := ((List.range g).map fun i => Value.map (b i)).toArray
theorem mrow_get (g : Nat) (b : Nat → Option Nat) (i : Nat) (h : i < g) : (mrow g b)[i]? = some (.map (b i)) := by simp [mrow, h]
theorem mrow_set (g : Nat) (b : Nat → Option Nat) (i : Nat) (v : Option Nat) (h : i < g) : (mrow g b).setIfInBounds i (.map v) = mrow g (fun j => if j = i then v else b j) := by
  apply Array.ext
  · simp [mrow]
  · intro j h1 h2
    simp only [mrow, List.size_toArray, List.length_map, List.length_range] at h2
    by_cases e : j = i
    · subst e; simp [mrow]
    · simp [mrow, Array.getElem_setIfInBounds, e, Ne.symm e]
structure Lv (w : World) (s r g : Nat) (b : Nat → Nat) (n : Nat) (M : Nat → List Int) : Prop where
  obj : w.heap[s]? = some (.cells #[.slice (some ⟨r, 0, none⟩) g g] 47 (0, 0))
  row : w.heap[r]? = some (.cells (mrow g (fun i => some (b i))) 48 (0, 0))
  set : ∀ i, i < g → SetM w (b i) n (M i)
  inj : ∀ i j, i < g → j < g → i ≠ j → b i ≠ b j
  small : 1 ≤ g ∧ g ≤ 4
def Own (s r g : Nat) (b : Nat → Nat) (k : Nat) : Prop := k = s ∨ k = r ∨ ∃ i, i < g ∧ k = b i
def upd {α : Type} (f : Nat → α) (i : Nat) (x : α) : Nat → α := fun j => if j = i then x else f j
section
variable {w w' : World} {s r g n : Nat} {b : Nat → Nat} {M : Nat → List Int} {K : Nat → Prop}
theorem Lv.lt (h : Lv w s r g b n M) : ∀ k, Own s r g b k → k < w.heap.size := fun k hk => by
  rcases hk with rfl | rfl | ⟨i, hi, rfl⟩
  · exact Kit.lt_of h.obj
  · exact Kit.lt_of h.row
  · exact (h.set i hi).lt
theorem Lv.keepP (h : Lv w s r g b n M) (p : ModP K w w') (hd : ∀ k, Own s r g b k → ¬ K k) : Lv w' s r g b n M :=
  have e : ∀ k, Own s r g b k → w'.heap[k]? = w.heap[k]? := fun k hk => p.block k (h.lt k hk) (hd k hk)
  ⟨(e s (.inl rfl)).trans h.obj, (e r (.inr (.inl rfl))).trans h.row, fun i hi => (h.set i hi).move (e _ (.inr (.inr ⟨i, hi, rfl⟩))), h.inj, h.small⟩
theorem Lv.keepB (h : Lv w s r g b n M) (p : Below w.heap.size w w') : Lv w' s r g b n M := h.keepP (ModP.of_below (K := fun _ => False) p) (fun _ _ c => c)
theorem Lv.mono (h : Lv w s r g b n M) {n' : Nat} (hn : n ≤ n') : Lv w s r g b n' M := ⟨h.obj, h.row, fun i hi => (h.set i hi).mono hn, h.inj, h.small⟩
theorem Lv.cell (h : Lv w s r g b n M) (i : Nat) (hi : i < g) : w.cell? ⟨r, i, none⟩ = some (.map (some (b i))) := (Kit.cell_of h.row i).trans (mrow_get g _ i hi)
/-- One set is turned. -/
theorem Lv.turn (h : Lv w s r g b n M) (i : Nat) (hi : i < g) {n' : Nat} {m : List Int} (hS : SetM w' (b i) n' m) (hn : n ≤ n') (hg : w.grownBy w' (some (b i))) : Lv w' s r g b n' (upd M i m) ∧ ModP (fun k => k = b i) w w' := by
  have p : ModP (fun k => k = b i) w w' := ModP.of_grown hg (fun k e => by cases e; rfl)
  obtain ⟨es, c, hb⟩ := (h.set i hi).obj
  have hs : s ≠ b i := fun e => by have := h.obj; rw [e, hb] at this; cases this
  have hr : r ≠ b i := fun e => by have := h.row; rw [e, hb] at this; cases this
  refine ⟨⟨(p.block s (Kit.lt_of h.obj) hs).trans h.obj, (p.block r (Kit.lt_of h.row) hr).trans h.row, fun j hj => ?_, h.inj, h.small⟩, p⟩
  by_cases e : j = i
  · subst e
    unfold upd
    rw [if_pos rfl]
    exact hS
  · unfold upd
    rw [if_neg e]
    exact ((h.set j hj).move (p.block _ (h.set j hj).lt (h.inj j i hj hi e))).mono hn
theorem list_nil (w : World) (gen : Int) : Calls Try.prog 22 #[.pointer none, .int .i64 gen] w fun e w' => e = .returned (.map none) ∧ w' = w := by
  go_enter Try.func22, Try.ntmps22
  go_wp2_with fail
  go_ret
  exact ⟨rfl, rfl⟩
theorem list_out (h : Lv w s r g b n M) (gen : Int) (hg : gen < 0 ∨ (g : Int) ≤ gen) : Calls Try.prog 22 #[.pointer (some ⟨s, 0, none⟩), .int .i64 gen] w fun e w' => e = .returned (.map none) ∧ w' = w := by
  have c1 := Kit.cells1 h.obj
  clear h
  by_cases h0 : gen < 0
  · have d0 : decide (gen < 0) = true := decide_eq_true h0
    clear hg
    go_enter Try.func22, Try.ntmps22
    go_wp2_with fail
    go_ret
    exact ⟨rfl, rfl⟩
  · have d0 : decide (gen < 0) = false := decide_eq_false h0
    have d1 : decide ((g : Int) ≤ gen) = true := decide_eq_true (by omega)
    clear hg
    go_enter Try.func22, Try.ntmps22
    go_wp2_with fail
    go_ret
    exact ⟨rfl, rfl⟩
theorem list_in (h : Lv w s r g b n M) (i : Nat) (hi : i < g) : Calls Try.prog 22 #[.pointer (some ⟨s, 0, none⟩), .int .i64 i] w fun e w' => e = .returned (.map (some (b i))) ∧ w' = w := by
  have c1 := Kit.cells1 h.obj
  have c2 := h.cell i hi
  have sm := h.small
  clear h
  generalize b i = bi at *
  have d0 : decide ((i : Int) < 0) = false := decide_eq_false (by omega)
  have d1 : decide ((g : Int) ≤ i) = false := decide_eq_false (by omega)
  go_enter Try.func22, Try.ntmps22
  go_wp2_with fail
  go_ret
  exact ⟨rfl, rfl⟩
/-- What is wrong with a call. -/
def wc (g : Nat) (gen at' : Int) : Nat := if gen < 0 ∨ (g : Int) ≤ gen then 2 else if at' < 1 ∨ 524288 < at' then 4 else 0
theorem wrong_nil (w : World) (gen at' : Int) : Calls Try.prog 21 #[.pointer none, .int .i64 gen, .int .i64 at'] w fun e w' => e = .returned (.int .i64 1) ∧ w' = w := by
  go_enter Try.func21, Try.ntmps21
  go_wp2_with fail
  go_ret
  exact ⟨rfl, rfl⟩
set_option maxHeartbeats 1000000 in
theorem wrong_it (h : Lv w s r g b n M) (gen at' : Int) : Calls Try.prog 21 #[.pointer (some ⟨s, 0, none⟩), .int .i64 gen, .int .i64 at'] w fun e w' => e = .returned (.int .i64 (wc g gen at' : Nat)) ∧ w' = w := by
  by_cases hg : gen < 0 ∨ (g : Int) ≤ gen
  · have LI := Lib.hid (list_out h gen hg)
    have hw : wc g gen at' = 2 := by unfold wc; rw [if_pos hg]
    rw [hw]
    have hnil : ∀ w : World, Sem.run Try.prog (binOp BinOp.eql 48 (.map none) (.map none)) w = .ok (.bool true) w := fun w => by kernel_rfl
    clear h hw hg
    go_enter Try.func21, Try.ntmps21
    go_wp2_with fail
    refine LI.out.mono ?_
    rintro e _ ⟨rfl, rfl⟩
    go_wp2_with fail
    go_ret
    exact ⟨rfl, rfl⟩
  · obtain ⟨i, rfl⟩ : ∃ i : Nat, gen = i := ⟨gen.toNat, by omega⟩
    have LI := Lib.hid (list_in h i (by omega))
    have hnil : ∀ w : World, Sem.run Try.prog (binOp BinOp.eql 48 (.map (some (b i))) (.map none)) w = .ok (.bool false) w := fun w => by kernel_rfl
    generalize b i = bi at *
    by_cases ha : at' < 1 ∨ 524288 < at'
    · have hw : wc g i at' = 4 := by unfold wc; rw [if_neg hg, if_pos ha]
      rw [hw]
      clear h hw hg
      by_cases h1 : at' < 1
      · have d1 : decide (at' < 1) = true := decide_eq_true h1
        clear ha
        go_enter Try.func21, Try.ntmps21
        go_wp2_with fail
        refine LI.out.mono ?_
        rintro e _ ⟨rfl, rfl⟩
        go_wp2_with fail
        go_ret
        exact ⟨rfl, rfl⟩
      · have d1 : decide (at' < 1) = false := decide_eq_false h1
        have d2 : decide (524288 < at') = true := decide_eq_true (by omega)
        clear ha
        go_enter Try.func21, Try.ntmps21
        go_wp2_with fail
        refine LI.out.mono ?_
        rintro e _ ⟨rfl, rfl⟩
        go_wp2_with fail
        go_ret
        exact ⟨rfl, rfl⟩
    · have hw : wc g i at' = 0 := by unfold wc; rw [if_neg hg, if_neg ha]
      rw [hw]
      have d1 : decide (at' < 1) = false := decide_eq_false (by omega)
      have d2 : decide (524288 < at') = false := decide_eq_false (by omega)
      clear h hw hg ha
      go_enter Try.func21, Try.ntmps21
      go_wp2_with fail
      refine LI.out.mono ?_
      rintro e _ ⟨rfl, rfl⟩
      go_wp2_with fail
      go_ret
      exact ⟨rfl, rfl⟩
set_option maxHeartbeats 1000000 in
theorem put_nil (w : World) (gen at' : Int) : Calls Try.prog 10 #[.pointer none, .int .i64 gen, .int .i64 at'] w fun e w' => e = .returned (.int .i64 1) ∧ w' = w := by
  have WI := Lib.hid (wrong_nil w gen at')
  go_enter Try.func10, Try.ntmps10
  go_wp2_with fail
  refine WI.out.mono ?_
  rintro e _ ⟨rfl, rfl⟩
  go_wp2_with fail
  go_ret
  exact ⟨rfl, rfl⟩
set_option maxHeartbeats 1000000 in
theorem drop_nil (w : World) (gen at' : Int) : Calls Try.prog 19 #[.pointer none, .int .i64 gen, .int .i64 at'] w fun e w' => e = .returned (.int .i64 1) ∧ w' = w := by
  have WI := Lib.hid (wrong_nil w gen at')
  go_enter Try.func19, Try.ntmps19
  go_wp2_with fail
  refine WI.out.mono ?_
  rintro e _ ⟨rfl, rfl⟩
  go_wp2_with fail
  go_ret
  exact ⟨rfl, rfl⟩
theorem wc_cases (g : Nat) (gen at' : Int) : (wc g gen at' = 2 ∨ wc g gen at' = 4) ∨ (wc g gen at' = 0 ∧ (0 ≤ gen ∧ gen < g) ∧ 1 ≤ at' ∧ at' ≤ 524288) := by
  unfold wc
  split
  · exact .inl (.inl rfl)
  · split
    · exact .inl (.inr rfl)
    · exact .inr ⟨rfl, by omega, by omega⟩
/-- What Put leaves. -/
inductive Putted (w : World) (s r g : Nat) (b : Nat → Nat) (n : Nat) (M : Nat → List Int) (gen at' : Int) : Ending → World → Prop
  | bad (h : wc g gen at' ≠ 0) (L : Lv w s r g b n M) : Putted w s r g b n M gen at' (.returned (.int .i64 (wc g gen at' : Nat))) w
  | ok {w' : World} (i : Nat) (hi : i < g) (e : gen = i) (ha : 1 ≤ at' ∧ at' ≤ 524288) (L : Lv w' s r g b (n + 1) (upd M i (ins at' (M i)))) (m : ModP (fun k => k = b i) w w') : Putted w s r g b n M gen at' (.returned (.int .i64 0)) w'
inductive Dropped (w : World) (s r g : Nat) (b : Nat → Nat) (n : Nat) (M : Nat → List Int) (gen at' : Int) : Ending → World → Prop
  | bad (h : wc g gen at' ≠ 0) (L : Lv w s r g b n M) : Dropped w s r g b n M gen at' (.returned (.int .i64 (wc g gen at' : Nat))) w
  | ok {w' : World} (i : Nat) (hi : i < g) (e : gen = i) (ha : 1 ≤ at' ∧ at' ≤ 524288) (L : Lv w' s r g b n (upd M i (rem at' (M i)))) (m : ModP (fun k => k = b i) w w') : Dropped w s r g b n M gen at' (.returned (.int .i64 0)) w'
set_option maxHeartbeats 2000000 in
theorem put_it (h : Lv w s r g b n M) (hn : n ≤ 1000000) (gen at' : Int) : Calls Try.prog 10 #[.pointer (some ⟨s, 0, none⟩), .int .i64 gen, .int .i64 at'] w (Putted w s r g b n M gen at') := by
  have WI := Lib.hid (wrong_it h gen at')
  rcases wc_cases g gen at' with hc | ⟨hc, h1, h2⟩
  · have HL := Lib.hid (show Putted w s r g b n M gen at' (.returned (.int .i64 (wc g gen at' : Nat))) w from Putted.bad (by omega) h)
    clear h hn
    have hd : ((wc g gen at' : Int) == 0) = false := by rcases hc with e | e <;> rw [e] <;> rfl
    generalize wc g gen at' = cc at *
    clear hc
    go_enter Try.func10, Try.ntmps10
    go_wp2_with fail
    refine WI.out.mono ?_
    rintro e _ ⟨rfl, rfl⟩
    go_wp2_with fail
    go_ret
    exact HL.out
  · obtain ⟨i, rfl⟩ : ∃ i : Nat, gen = i := ⟨gen.toNat, by omega⟩
    rw [hc] at WI
    obtain ⟨w1, hr, S1, g1, z1⟩ := (h.set i (by omega)).put at' (wf_i64 _ (by omega) (by omega)) hn
    obtain ⟨L1, m1⟩ := h.turn i (by omega) S1 (by omega) g1
    have HX := Lib.hid (show Putted w s r g b n M i at' (.returned (.int .i64 0)) w1 from Putted.ok i (by omega) rfl h2 L1 m1)
    have c1 := Kit.cells1 h.obj
    have c2 := h.cell i (by omega)
    have sm := h.small
    clear h L1 m1 S1 g1 z1 hn hc
    generalize b i = bi at *
    go_enter Try.func10, Try.ntmps10
    go_wp2_with fail
    refine WI.out.mono ?_
    rintro e _ ⟨rfl, rfl⟩
    clear WI
    go_wp2_with fail
    go_ret
    exact HX.out
set_option maxHeartbeats 2000000 in
theorem drop_it (h : Lv w s r g b n M) (gen at' : Int) : Calls Try.prog 19 #[.pointer (some ⟨s, 0, none⟩), .int .i64 gen, .int .i64 at'] w (Dropped w s r g b n M gen at') := by
  have WI := Lib.hid (wrong_it h gen at')
  rcases wc_cases g gen at' with hc | ⟨hc, h1, h2⟩
  · have HL := Lib.hid (show Dropped w s r g b n M gen at' (.returned (.int .i64 (wc g gen at' : Nat))) w from Dropped.bad (by omega) h)
    clear h
    have hd : ((wc g gen at' : Int) == 0) = false := by rcases hc with e | e <;> rw [e] <;> rfl
    generalize wc g gen at' = cc at *
    clear hc
    go_enter Try.func19, Try.ntmps19
    go_wp2_with fail
    refine WI.out.mono ?_
    rintro e _ ⟨rfl, rfl⟩
    go_wp2_with fail
    go_ret
    exact HL.out
  · obtain ⟨i, rfl⟩ : ∃ i : Nat, gen = i := ⟨gen.toNat, by omega⟩
    rw [hc] at WI
    obtain ⟨w1, hr, S1, g1, z1⟩ := (h.set i (by omega)).del at' (wf_i64 _ (by omega) (by omega)) 0
    obtain ⟨L1, m1⟩ := h.turn i (by omega) S1 (Nat.le_refl _) g1
    have HX := Lib.hid (show Dropped w s r g b n M i at' (.returned (.int .i64 0)) w1 from Dropped.ok i (by omega) rfl h2 L1 m1)
    have c1 := Kit.cells1 h.obj
    have c2 := h.cell i (by omega)
    have sm := h.small
    clear h L1 m1 S1 g1 z1 hc
    generalize b i = bi at *
    go_enter Try.func19, Try.ntmps19
    go_wp2_with fail
    refine WI.out.mono ?_
    rintro e _ ⟨rfl, rfl⟩
    clear WI
    go_wp2_with fail
    go_ret
    exact HX.out
end
end Go.Proofs.Ytobplcehaeejoaa.Ls
