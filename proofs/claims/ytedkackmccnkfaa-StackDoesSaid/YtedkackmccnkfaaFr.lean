/- Which frames there may be: the program's and the reference's test of a frame, by contracts. No condition. -/
import Derived.Test.YtedkackmccnkfaaProg
import Derived.Test.YtedkackmccnkfaaKit
import Derived.IntWalk
import Derived.Deep.QuietTactic
import Derived.BigQuiet
set_option linter.unusedVariables false
set_option linter.unusedSimpArgs false
namespace Go.Proofs.Ytedkackmccnkfaa.Fr
open Go.RowKit
/-- A slice that reads as these numbers. -/
structure Sl (w : World) (p : Option Addr) (ps : List Int) : Prop where
  max : ps.length ≤ 9223372036854775807
  cells : 0 < ps.length → ∃ b off, p = some ⟨b, off, none⟩ ∧ b < w.heap.size ∧ ∀ i, i < ps.length → w.cell? ⟨b, off + i, none⟩ = some (.int .i64 (ps.getD i 0))
theorem Sl.keepB {w w' : World} {p : Option Addr} {ps : List Int} (h : Sl w p ps) (m : Below w.heap.size w w') : Sl w' p ps :=
  ⟨h.max, fun h0 => by
    obtain ⟨b, off, e, hb, hc⟩ := h.cells h0
    exact ⟨b, off, e, Nat.lt_of_lt_of_le hb m.size, fun i hi => (m.cell (p := ⟨b, off + i, none⟩) hb).trans (hc i hi)⟩⟩
theorem Sl.keep {w w' : World} {p : Option Addr} {ps : List Int} (h : Sl w p ps) {S : List Nat} (m : Kit.Mod S w w') (hs : ∀ b off, p = some ⟨b, off, none⟩ → b ∉ S) : Sl w' p ps :=
  ⟨h.max, fun h0 => by
    obtain ⟨b, off, e, hb, hc⟩ := h.cells h0
    exact ⟨b, off, e, Nat.lt_of_lt_of_le hb m.size, fun i hi => (World.cell?_of_block (w := w) (a := ⟨b, off + i, none⟩) (m.block b hb (hs b off e))).trans (hc i hi)⟩⟩
theorem Sl.heap {w w' : World} {p : Option Addr} {ps : List Int} (h : Sl w p ps) (e : w'.heap = w.heap) : Sl w' p ps :=
  ⟨h.max, fun h0 => by
    obtain ⟨b, off, e1, hb, hc⟩ := h.cells h0
    exact ⟨b, off, e1, by rw [e]; exact hb, fun i hi => (by unfold World.cell?; rw [e] : w'.cell? ⟨b, off + i, none⟩ = w.cell? ⟨b, off + i, none⟩).trans (hc i hi)⟩⟩
/-- What a frame of a kind may have. -/
def mostOf (k : Int) : Option (Int × Int × Int × Int × Int) :=
  if k = 1 then some (0, 1048575, 0, 0, 1000) else if k = 2 then some (0, 0, 0, 1, 1) else if k = 3 then some (0, 0, 0, 1, 8) else if k = 4 then some (1, 16, 2, 1, 3) else if k = 5 then some (0, 1048575, 7, 0, 0) else none
def rangeE (ps : List Int) : Int := if ∀ p, p ∈ ps → 0 ≤ p ∧ p ≤ 524288 then 0 else 4
/-- What is wrong with a frame. -/
def rightE (k a b : Int) (ps : List Int) : Int :=
  match mostOf k with
  | none => 6
  | some (lA, mA, mB, lP, mP) => if lP ≤ ps.length ∧ ps.length ≤ mP then (if lA ≤ a ∧ a ≤ mA ∧ 0 ≤ b ∧ b ≤ mB then rangeE ps else 2) else 7
def frameV (k a b : Int) (p : Option Addr) (n c : Nat) : Value := .agg #[.int .i64 k, .int .i64 a, .int .i64 b, .slice p n c]
def ofV (k : Int) : Value := match mostOf k with
  | none => .tuple #[.agg #[.int .i64 0, .int .i64 0, .int .i64 0, .int .i64 0, .int .i64 0], .bool false]
  | some (lA, mA, mB, lP, mP) => .tuple #[.agg #[.int .i64 lA, .int .i64 mA, .int .i64 mB, .int .i64 lP, .int .i64 mP], .bool true]
theorem of_it (k : Int) (w : World) : Calls Try.prog 29 #[.int .i64 k] w fun e w' => e = .returned (ofV k) ∧ Below w.heap.size w w' := by
  unfold ofV mostOf
  by_cases h1 : k = 1
  · subst h1
    rw [if_pos rfl]
    go_enter Try.func29, Try.ntmps29
    go_wp2_with fail
    exact bodyPost_ret (v := .tuple #[.agg #[.int .i64 0, .int .i64 1048575, .int .i64 0, .int .i64 0, .int .i64 1000], .bool true]) (by simp [results, Try.results29, go_sem]) rfl ⟨rfl, (Below.refl _ _).alloc (Nat.le_refl _) _⟩
  have e1 : (k == 1) = false := beq_eq_false_iff_ne.2 h1
  rw [if_neg h1]
  by_cases h2 : k = 2
  · subst h2
    rw [if_pos rfl]
    go_enter Try.func29, Try.ntmps29
    go_wp2_with fail
    exact bodyPost_ret (v := .tuple #[.agg #[.int .i64 0, .int .i64 0, .int .i64 0, .int .i64 1, .int .i64 1], .bool true]) (by simp [results, Try.results29, go_sem]) rfl ⟨rfl, (Below.refl _ _).alloc (Nat.le_refl _) _⟩
  have e2 : (k == 2) = false := beq_eq_false_iff_ne.2 h2
  rw [if_neg h2]
  by_cases h3 : k = 3
  · subst h3
    rw [if_pos rfl]
    go_enter Try.func29, Try.ntmps29
    go_wp2_with fail
    exact bodyPost_ret (v := .tuple #[.agg #[.int .i64 0, .int .i64 0, .int .i64 0, .int .i64 1, .int .i64 8], .bool true]) (by simp [results, Try.results29, go_sem]) rfl ⟨rfl, (Below.refl _ _).alloc (Nat.le_refl _) _⟩
  have e3 : (k == 3) = false := beq_eq_false_iff_ne.2 h3
  rw [if_neg h3]
  by_cases h4 : k = 4
  · subst h4
    rw [if_pos rfl]
    go_enter Try.func29, Try.ntmps29
    go_wp2_with fail
    exact bodyPost_ret (v := .tuple #[.agg #[.int .i64 1, .int .i64 16, .int .i64 2, .int .i64 1, .int .i64 3], .bool true]) (by simp [results, Try.results29, go_sem]) rfl ⟨rfl, (Below.refl _ _).alloc (Nat.le_refl _) _⟩
  have e4 : (k == 4) = false := beq_eq_false_iff_ne.2 h4
  rw [if_neg h4]
  by_cases h5 : k = 5
  · subst h5
    rw [if_pos rfl]
    go_enter Try.func29, Try.ntmps29
    go_wp2_with fail
    exact bodyPost_ret (v := .tuple #[.agg #[.int .i64 0, .int .i64 1048575, .int .i64 7, .int .i64 0, .int .i64 0], .bool true]) (by simp [results, Try.results29, go_sem]) rfl ⟨rfl, (Below.refl _ _).alloc (Nat.le_refl _) _⟩
  have e5 : (k == 5) = false := beq_eq_false_iff_ne.2 h5
  rw [if_neg h5]
  clear h1 h2 h3 h4 h5
  go_enter Try.func29, Try.ntmps29
  go_wp2_with fail
  exact bodyPost_ret (v := .tuple #[.agg #[.int .i64 0, .int .i64 0, .int .i64 0, .int .i64 0, .int .i64 0], .bool false]) (by simp [results, Try.results29, go_sem]) rfl ⟨rfl, (Below.refl _ _).alloc (Nat.le_refl _) _⟩
theorem pointer_it (p : Int) (w : World) : Calls Try.prog 30 #[.int .i64 p] w fun e w' => e = .returned (.bool (decide (0 ≤ p ∧ p ≤ 524288))) ∧ w' = w := by
  by_cases h1 : 0 ≤ p
  · have e1 : decide (0 ≤ p) = true := decide_eq_true h1
    rw [show decide (0 ≤ p ∧ p ≤ 524288) = decide (p ≤ 524288) by simp [h1]]
    go_enter Try.func30, Try.ntmps30
    go_wp2_with fail
    go_ret
    exact ⟨rfl, rfl⟩
  · have e1 : decide (0 ≤ p) = false := decide_eq_false h1
    rw [show decide (0 ≤ p ∧ p ≤ 524288) = false by simp [h1]]
    go_enter Try.func30, Try.ntmps30
    go_wp2_with fail
    go_ret
    exact ⟨rfl, rfl⟩
theorem between_it (n lo hi : Int) (w : World) : Calls Try.prog 31 #[.int .i64 n, .int .i64 lo, .int .i64 hi] w fun e w' => e = .returned (.bool (decide (lo ≤ n ∧ n ≤ hi))) ∧ w' = w := by
  by_cases h1 : lo ≤ n
  · have e1 : decide (lo ≤ n) = true := decide_eq_true h1
    rw [show decide (lo ≤ n ∧ n ≤ hi) = decide (n ≤ hi) by simp [h1]]
    go_enter Try.func31, Try.ntmps31
    go_wp2_with fail
    go_ret
    exact ⟨rfl, rfl⟩
  · have e1 : decide (lo ≤ n) = false := decide_eq_false h1
    rw [show decide (lo ≤ n ∧ n ≤ hi) = false by simp [h1]]
    go_enter Try.func31, Try.ntmps31
    go_wp2_with fail
    go_ret
    exact ⟨rfl, rfl⟩
end Go.Proofs.Ytedkackmccnkfaa.Fr
