/- The document's lists: rows of addresses; New, wrong, All, Take, Len, Has. No condition. -/
import Derived.Test.YtobplcehaeejoaaLq
import Derived.Deep.RegionHeld3
set_option linter.unusedVariables false
set_option linter.unusedSimpArgs false
namespace Go.Proofs.Ytobplcehaeejoaa.Rv
open Go.RowKit Se Mq Sm Ls Nx Lw Ln Lm Lq
def srow (g : Nat) (v : Nat → Value) : Array Value := ((List.range g).map v).toArray
theorem srow_get (g : Nat) (v : Nat → Value) (i : Nat) (h : i < g) : (srow g v)[i]? = some (v i) := by simp [srow, h]
theorem srow_set (g : Nat) (v : Nat → Value) (i : Nat) (u : Value) (h : i < g) : (srow g v).setIfInBounds i u = srow g (upd v i u) := by
  apply Array.ext
  · simp [srow]
  · intro j h1 h2
    simp only [srow, List.size_toArray, List.length_map, List.length_range] at h2
    by_cases e : j = i
    · subst e; simp [srow, upd]
    · simp [srow, Array.getElem_setIfInBounds, e, Ne.symm e, upd]
structure Rv (w : World) (x y g : Nat) (v : Nat → Value) (M : Nat → List Int) : Prop where
  obj : w.heap[x]? = some (.cells #[.slice (some ⟨y, 0, none⟩) g g] 53 (0, 0))
  row : w.heap[y]? = some (.cells (srow g v) 22 (0, 0))
  rd : ∀ i, i < g → ∃ p c, v i = .slice p (M i).length c ∧ Sl w p (M i)
  small : 1 ≤ g ∧ g ≤ 4
  ne : x ≠ y
section
variable {w w' : World} {x y g : Nat} {v : Nat → Value} {M : Nat → List Int} {K : Nat → Prop}
theorem Rv.cell (h : Rv w x y g v M) (i : Nat) (hi : i < g) : w.cell? ⟨y, i, none⟩ = some (v i) := (Kit.cell_of h.row i).trans (srow_get g v i hi)
theorem Rv.keepB (h : Rv w x y g v M) (m : Below w.heap.size w w') : Rv w' x y g v M :=
  ⟨Kit.keepB h.obj m, Kit.keepB h.row m, fun i hi => by
    obtain ⟨p, c, e, S⟩ := h.rd i hi
    exact ⟨p, c, e, S.keepB m⟩, h.small, h.ne⟩
theorem Rv.far (h : Rv w x y g v M) {p : Option Addr} {m : List Int} (S : Sl w p m) (h0 : 0 < m.length) : ∀ b off, p = some ⟨b, off, none⟩ → b ≠ x ∧ b ≠ y := fun b off e => by
  obtain ⟨b', off', e', hb, hc⟩ := S.cells h0
  rw [e] at e'
  cases e'
  have c0 := hc 0 h0
  constructor
  · rintro rfl
    rw [Kit.cell_of h.obj] at c0
    rcases Nat.eq_zero_or_pos (off + 0) with e | e
    · rw [e] at c0; cases c0
    · rw [show (#[Value.slice (some ⟨y, 0, none⟩) g g] : Array Value)[off + 0]? = none from Array.getElem?_eq_none (by simp; omega)] at c0
      cases c0
  · rintro rfl
    rw [Kit.cell_of h.row] at c0
    by_cases hl : off + 0 < g
    · rw [srow_get g v _ hl] at c0
      obtain ⟨p, c, e, _⟩ := h.rd _ hl
      rw [e] at c0; cases c0
    · rw [show (srow g v)[off + 0]? = none from Array.getElem?_eq_none (by simp [srow]; omega)] at c0
      cases c0
theorem sl_keepP {p : Option Addr} {ps : List Int} (h : Sl w p ps) (m : ModP K w w') (hp : 0 < ps.length → ∀ q o, p = some ⟨q, o, none⟩ → ¬ K q) : Sl w' p ps :=
  ⟨fun h0 => by
    obtain ⟨b, off, e, hb, hc⟩ := h.cells h0
    exact ⟨b, off, e, Nat.lt_of_lt_of_le hb m.size, fun i hi => (World.cell?_of_block (w := w) (a := ⟨b, off + i, none⟩) (m.block b hb (hp h0 b off e))).trans (hc i hi)⟩⟩
/-- One row is stored anew. -/
theorem Rv.put (h : Rv w x y g v M) (i : Nat) (hi : i < g) (p : Option Addr) (c : Nat) (m : List Int) (S : Sl w p m) : Rv (w.setCell ⟨y, i, none⟩ (.slice p m.length c)) x y g (upd v i (.slice p m.length c)) (upd M i m) ∧ ModP (fun k => k = y) w (w.setCell ⟨y, i, none⟩ (.slice p m.length c)) := by
  have md : ModP (fun k => k = y) w (w.setCell ⟨y, i, none⟩ (.slice p m.length c)) := (ModP.refl (fun k => k = y) w).setCell (p := ⟨y, i, none⟩) (.inl rfl) _
  refine ⟨⟨Kit.set_far h.obj h.ne _, (Kit.set_blk h.row i _).trans (by rw [srow_set g v i _ hi]), fun j hj => ?_, h.small, h.ne⟩, md⟩
  unfold upd
  by_cases e : j = i
  · rw [if_pos e, if_pos e]
    exact ⟨p, c, rfl, sl_keepP S md (fun h0 q o e => (h.far S h0 q o e).2)⟩
  · rw [if_neg e, if_neg e]
    obtain ⟨p', c', e', S'⟩ := h.rd j hj
    exact ⟨p', c', e', sl_keepP S' md (fun h0 q o e => (h.far S' h0 q o e).2)⟩
theorem rnew_bad (w : World) (m : Int) (h : m < 1 ∨ 4 < m) : Calls Try.prog 15 #[.int .i64 m] w fun e w' => e = .returned (.tuple #[.pointer none, .int .i64 2]) ∧ w' = w := by
  by_cases h0 : m < 1
  · have e1 : decide (m < 1) = true := decide_eq_true h0
    clear h
    go_enter Try.func15, Try.ntmps15
    go_wp2_with fail
    go_ret2
    exact ⟨rfl, rfl⟩
  · have e1 : decide (m < 1) = false := decide_eq_false h0
    have e2 : decide (4 < m) = true := decide_eq_true (by omega)
    clear h
    go_enter Try.func15, Try.ntmps15
    go_wp2_with fail
    go_ret2
    exact ⟨rfl, rfl⟩
theorem infoS : (Try.prog.info? 22).map (fun i => (i.zero, i.size, i.bytes)) = some (some (.slice none 0 0), 1, 24) := by kernel_rfl
theorem madeS (w : World) (g : Nat) (hg : g ≤ 1000) : (Instr.makeSlice 51 (.int .i64 g) (.int .i64 g)).run Try.prog w = .ok (.slice (some ⟨w.heap.size, 0, none⟩) g g) (w.alloc (.cells (srow g (fun _ => .slice none 0 0)) 22 (0, 0))) := by
  obtain ⟨i0, hi, hz0, hz1, hz2⟩ := info_parts infoS
  rw [run_make w 51 22 i0 (.slice none 0 0) Try.underlying51 hi hz0 .i64 .i64 g g (by omega) (Int.le_refl _) (by rw [hz2]; omega) (by omega), hz1]
  have : madeCells (Value.slice none 0 0).cells ((g : Int).toNat * 1) = srow g (fun _ => .slice none 0 0) := by
    apply Array.ext
    · simp [size_madeCells, srow]
    · intro j h1 h2
      simp [madeCells, srow, Value.cells, Nat.mod_one]
  rw [this]
  simp
theorem rnew_it (w : World) (g : Nat) (h1 : 1 ≤ g) (h2 : g ≤ 4) : Calls Try.prog 15 #[.int .i64 g] w fun e w' => e = .returned (.tuple #[.pointer (some ⟨w.heap.size + 1, 0, none⟩), .int .i64 0]) ∧ Below w.heap.size w w' ∧ Rv w' (w.heap.size + 1) w.heap.size g (fun _ => .slice none 0 0) (fun _ => []) := by
  have hmk := madeS w g (by omega)
  have e1 : decide ((g : Int) < 1) = false := decide_eq_false (by omega)
  have e2 : decide (4 < (g : Int)) = false := decide_eq_false (by omega)
  go_enter Try.func15, Try.ntmps15
  go_wp2_with fail
  go_ret2
  exact ⟨rfl, Kit.allocB (Kit.allocB (Below.refl _ _) _) _, Kit.new_blk2 w _ _, Kit.keep_alloc (Kit.new_blk w _) _, fun i hi => ⟨none, 0, rfl, ⟨fun h => absurd h (by simp)⟩⟩, ⟨h1, h2⟩, by omega⟩
theorem rwrong_it (h : Rv w x y g v M) (gen at' : Int) : Calls Try.prog 30 #[.pointer (some ⟨x, 0, none⟩), .int .i64 gen, .int .i64 at'] w fun e w' => e = .returned (.int .i64 (wc g gen at' : Nat)) ∧ w' = w := by
  have c1 := Kit.cells1 h.obj
  clear h
  unfold wc
  by_cases h0 : gen < 0
  · have d0 : decide (gen < 0) = true := decide_eq_true h0
    rw [if_pos (.inl h0)]
    go_enter Try.func30, Try.ntmps30
    go_wp2_with fail
    go_ret
    exact ⟨rfl, rfl⟩
  · have d0 : decide (gen < 0) = false := decide_eq_false h0
    by_cases h1 : (g : Int) ≤ gen
    · have d1 : decide ((g : Int) ≤ gen) = true := decide_eq_true h1
      rw [if_pos (.inr h1)]
      go_enter Try.func30, Try.ntmps30
      go_wp2_with fail
      go_ret
      exact ⟨rfl, rfl⟩
    · have d1 : decide ((g : Int) ≤ gen) = false := decide_eq_false h1
      rw [if_neg (by omega)]
      by_cases h2 : at' < 1
      · have d2 : decide (at' < 1) = true := decide_eq_true h2
        rw [if_pos (.inl h2)]
        go_enter Try.func30, Try.ntmps30
        go_wp2_with fail
        go_ret
        exact ⟨rfl, rfl⟩
      · have d2 : decide (at' < 1) = false := decide_eq_false h2
        by_cases h3 : 524288 < at'
        · have d3 : decide (524288 < at') = true := decide_eq_true h3
          rw [if_pos (.inr h3)]
          go_enter Try.func30, Try.ntmps30
          go_wp2_with fail
          go_ret
          exact ⟨rfl, rfl⟩
        · have d3 : decide (524288 < at') = false := decide_eq_false h3
          rw [if_neg (by omega)]
          go_enter Try.func30, Try.ntmps30
          go_wp2_with fail
          go_ret
          exact ⟨rfl, rfl⟩
/-- A row is told, and nothing is changed. -/
def AllR (w : World) (m : List Int) (e : Ending) (w' : World) : Prop := ∃ p c, e = .returned (.slice p m.length c) ∧ Sl w p m ∧ w' = w
theorem rall_it (h : Rv w x y g v M) (gen : Int) : Calls Try.prog 18 #[.pointer (some ⟨x, 0, none⟩), .int .i64 gen] w (AllR w (allF g M gen)) := by
  have c1 := Kit.cells1 h.obj
  unfold allF
  by_cases h0 : gen < 0
  · have d0 : decide (gen < 0) = true := decide_eq_true h0
    rw [if_neg (by omega)]
    clear h
    go_enter Try.func18, Try.ntmps18
    go_wp2_with fail
    go_ret
    exact ⟨none, 0, rfl, ⟨fun h => absurd h (by simp)⟩, rfl⟩
  · have d0 : decide (gen < 0) = false := decide_eq_false h0
    by_cases h1 : (g : Int) ≤ gen
    · have d1 : decide ((g : Int) ≤ gen) = true := decide_eq_true h1
      rw [if_neg (by omega)]
      clear h
      go_enter Try.func18, Try.ntmps18
      go_wp2_with fail
      go_ret
      exact ⟨none, 0, rfl, ⟨fun h => absurd h (by simp)⟩, rfl⟩
    · obtain ⟨i, rfl⟩ : ∃ i : Nat, gen = i := ⟨gen.toNat, by omega⟩
      have d1 : decide ((g : Int) ≤ i) = false := decide_eq_false h1
      rw [if_pos (by omega), Int.toNat_natCast]
      have c2 := h.cell i (by omega)
      have sm := h.small
      obtain ⟨p, c, e, S⟩ := h.rd i (by omega)
      rw [e] at c2
      have HS := Lib.hid S
      have l2 : (i : Int) < g := by omega
      clear h e S
      go_enter Try.func18, Try.ntmps18
      go_wp2_with fail
      go_ret
      exact ⟨p, c, rfl, HS.out, rfl⟩
/-- Take: a row is told and struck. -/
def TakeR (w : World) (x y g : Nat) (v : Nat → Value) (M : Nat → List Int) (gen : Int) (e : Ending) (w' : World) : Prop :=
  ∃ p c v', e = .returned (.slice p (allF g M gen).length c) ∧ Sl w' p (allF g M gen) ∧ Rv w' x y g v' (takeF g M gen) ∧ ModP (fun k => k = y) w w'
theorem rtake_it (h : Rv w x y g v M) (gen : Int) : Calls Try.prog 26 #[.pointer (some ⟨x, 0, none⟩), .int .i64 gen] w (TakeR w x y g v M gen) := by
  have AI := Lib.hid (rall_it h gen)
  by_cases hm : 0 < (allF g M gen).length
  · have hg : 0 ≤ gen ∧ gen < g := by
      unfold allF at hm
      split at hm
      · assumption
      · simp at hm
    obtain ⟨i, rfl⟩ : ∃ i : Nat, gen = i := ⟨gen.toNat, by omega⟩
    have ea : allF g M i = M i := by unfold allF; rw [if_pos hg, Int.toNat_natCast]
    have et : takeF g M i = upd M i [] := by unfold takeF; rw [if_pos hg, Int.toNat_natCast]
    have c1 := Kit.cells1 h.obj
    have c2 := h.cell i (by omega)
    have f2 := Kit.frozen_of h.row i
    have sm := h.small
    have l2 : (i : Int) < g := by omega
    have HP := Lib.hid (h.put i (by omega) none 0 [] ⟨fun h => absurd h (by simp)⟩)
    have HF := Lib.hid (fun (p : Option Addr) (S : Sl w p (M i)) => sl_keepP S (h.put i (by omega) none 0 [] ⟨fun h => absurd h (by simp)⟩).2 (fun h0 q o e => (h.far S h0 q o e).2))
    have HE := Lib.hid ea
    have HT := Lib.hid et
    have d0 : decide (0 < (allF g M i).length) = true := decide_eq_true hm
    obtain ⟨N, hN⟩ : ∃ N, N = (allF g M i).length := ⟨_, rfl⟩
    have HN := Lib.hid hN
    rw [← hN] at d0
    clear h ea et hm hN
    go_enter Try.func26, Try.ntmps26
    go_wp2_with fail
    refine AI.out.mono ?_
    rintro e w1 ⟨p, c, rfl, S, rfl⟩
    have HX := Lib.hid (show TakeR w1 x y g v M i (.returned (.slice p N c)) (w1.setCell ⟨y, i, none⟩ (.slice none 0 0)) from ⟨p, c, _, by rw [HN.out], by rw [HE.out]; exact HF.out p (by rw [← HE.out]; exact S), by rw [HT.out]; exact HP.out.1, HP.out.2⟩)
    rw [← HN.out]
    clear S AI HP HF HE HT HN
    go_wp2_with fail
    go_ret
    exact HX.out
  · have e0 : allF g M gen = [] := List.eq_nil_of_length_eq_zero (by omega)
    have et : takeF g M gen = M := by
      unfold takeF
      split
      · rename_i hg
        have : M gen.toNat = [] := by unfold allF at e0; rw [if_pos hg] at e0; exact e0
        rw [← this, upd_same]
      · rfl
    rw [e0] at AI
    have HX := Lib.hid (fun (p : Option Addr) (c : Nat) => show TakeR w x y g v M gen (.returned (.slice p 0 c)) w from ⟨p, c, v, by rw [e0]; rfl, by rw [e0]; exact ⟨fun h => absurd h (by simp)⟩, by rw [et]; exact h, ModP.refl _ _⟩)
    clear h e0 et hm
    go_enter Try.func26, Try.ntmps26
    go_wp2_with fail
    refine AI.out.mono ?_
    rintro e w1 ⟨p, c, rfl, S, rfl⟩
    clear S AI
    go_wp2_with fail
    go_ret
    exact HX.out p c
set_option maxHeartbeats 2000000 in
theorem rlen_it (h : Rv w x y g v M) (hn : ∀ i, i < g → (M i).length ≤ 1000) : Calls Try.prog 17 #[.pointer (some ⟨x, 0, none⟩)] w fun e w' => e = .returned (.int .i64 (tot M g : Nat)) ∧ w' = w := by
  have c1 := Kit.cells1 h.obj
  have sm := h.small
  have HL := Lib.hid h
  have TL := Lib.hid (fun k (hk : k ≤ g) => tot_le M 1000 k (fun i hi => hn i (by omega)))
  have HM := Lib.hid hn
  clear h hn
  go_enter Try.func17, Try.ntmps17
  go_wp2_with fail
  go_loop [3, 4] (fun c i => ∃ j : Nat, j ≤ g ∧ i = .int .i64 j ∧ c = .int .i64 (tot M j : Nat)) (fun _ i => g - (intOf i).toNat)
  case atStart => exact ⟨0, by omega, rfl, rfl⟩
  case round =>
    obtain ⟨j, hj, rfl, rfl⟩ := hrel
    by_cases hlt : j < g
    · have c2 := HL.out.cell j hlt
      obtain ⟨p, c, e, _⟩ := HL.out.rd j hlt
      rw [e] at c2
      have t1 := TL.out j hj
      have t2 := HM.out j hlt
      have TS := Lib.hid (show tot M (j + 1) = tot M j + (M j).length from rfl)
      generalize tot M j = a at *
      generalize (M j).length = z at *
      have s1 : IntKind.i64.wrap ((a : Int) + z) = (a : Int) + z := IntWalk.i64_in _ (by omega)
      clear t1 t2 e
      go_wp2_with fail
      go_round
      case rel => exact ⟨j + 1, by omega, by simp, by rw [TS.out]; simp⟩
      case measure => simp [intOf]; omega
    · obtain rfl : j = g := by omega
      go_wp2_with fail
      go_ret
      exact ⟨rfl, rfl⟩
end
end Go.Proofs.Ytobplcehaeejoaa.Rv
