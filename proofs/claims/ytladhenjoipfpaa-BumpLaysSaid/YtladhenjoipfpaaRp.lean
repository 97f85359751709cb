/- The reference's pool: its calls by contracts. No condition. -/
import Derived.Test.YtladhenjoipfpaaGq
set_option linter.unusedVariables false
set_option linter.unusedSimpArgs false
namespace Go.Proofs.Ytladhenjoipfpaa.Rp
open Go.RowKit
open Pl Rn Ov Lf Wl Gp Ct Sn Gq
theorem ret_bool {a b : Bool} (h : a = b) : Ending.returned (.bool a) = .returned (.bool b) := by rw [h]
/-- The reference's pool: of each block whose it is. -/
structure RP (w : World) (x r cap : Nat) (fs : List Int) : Prop where
  obj : w.heap[x]? = some (.cells #[.slice (some ⟨r, 0, none⟩) fs.length cap] 81 (0, 0))
  row : ∃ cur : Array Value, w.heap[r]? = some (.cells cur 3 (0, 0)) ∧ cur.toList.take fs.length = ints fs
  ne : x ≠ r
  small : 1 ≤ fs.length ∧ fs.length ≤ 4096
section
variable {w w' : World} {x r cap : Nat} {fs : List Int}
theorem RP.keep (h : RP w x r cap fs) {S : List Nat} (m : Kit.Mod S w w') (hx : x ∉ S) (hr : r ∉ S) : RP w' x r cap fs := by
  obtain ⟨cur, h1, h2⟩ := h.row
  exact ⟨Kit.keep h.obj m hx, ⟨cur, Kit.keep h1 m hr, h2⟩, h.ne, h.small⟩
theorem RP.keepB (h : RP w x r cap fs) (m : Below w.heap.size w w') : RP w' x r cap fs := by
  obtain ⟨cur, h1, h2⟩ := h.row
  exact ⟨Kit.keepB h.obj m, ⟨cur, Kit.keepB h1 m, h2⟩, h.ne, h.small⟩
theorem RP.heap (h : RP w x r cap fs) (e : w'.heap = w.heap) : RP w' x r cap fs := ⟨by rw [e]; exact h.obj, by rw [e]; exact h.row, h.ne, h.small⟩
theorem RP.size {cur : Array Value} (h : cur.toList.take fs.length = ints fs) : fs.length ≤ cur.size := by
  have := congrArg List.length h
  simp [ints] at this
  omega
theorem RP.cell (h : RP w x r cap fs) (i : Nat) (hi : i < fs.length) : w.cell? ⟨r, i, none⟩ = some (.int .i64 (fs.getD i 0)) := by
  obtain ⟨cur, h1, h2⟩ := h.row
  rw [Kit.cell_of h1 i]
  have e : (cur.toList.take fs.length)[i]? = (ints fs)[i]? := by rw [h2]
  rw [ints_get fs i hi, List.getElem?_take_of_lt hi] at e
  simpa using e
theorem RP.frozen (h : RP w x r cap fs) (i : Nat) : w.frozen? ⟨r, i, none⟩ = false := by
  obtain ⟨cur, h1, h2⟩ := h.row
  exact Kit.frozen_of h1 i
theorem RP.put (h : RP w x r cap fs) (i : Nat) (v : Int) : RP (w.setCell ⟨r, i, none⟩ (.int .i64 v)) x r cap (fs.set i v) := by
  obtain ⟨cur, h1, h2⟩ := h.row
  refine ⟨by rw [List.length_set]; exact Kit.set_far h.obj h.ne _, ⟨_, Kit.set_blk h1 i _, ?_⟩, h.ne, by rw [List.length_set]; exact h.small⟩
  rw [List.length_set, Array.toList_setIfInBounds, List.take_set, h2]
  simp [ints]
theorem rnew_bad (w : World) (m : Int) (h : m < 1 ∨ 4096 < m) : Calls Try.prog 26 #[.int .i64 m] w fun e w' => e = .returned (.tuple #[.pointer none, .int .i64 7]) ∧ w' = w := by
  rcases h with h | h
  · have e1 : decide (m < 1) = true := decide_eq_true h
    go_enter Try.func26, Try.ntmps26
    go_wp2_with fail
    go_ret2
    exact ⟨rfl, rfl⟩
  · have e1 : decide (m < 1) = false := decide_eq_false (by omega)
    have e2 : decide (4096 < m) = true := decide_eq_true h
    go_enter Try.func26, Try.ntmps26
    go_wp2_with fail
    go_ret2
    exact ⟨rfl, rfl⟩
/-- On the way: the box holds what has been gathered. -/
structure Rw1 (w wr : World) (j : Nat) (v : Value) : Prop where
  obj : wr.heap[w.heap.size]? = some (.cells #[v] 81 (0, 0))
  own : wr.ownsRow (w.heap.size + 1) 3 1 v j (ints (List.replicate j (-1)))
  bel : Below w.heap.size w wr
  lt : w.heap.size + 1 ≤ wr.heap.size
set_option maxHeartbeats 1000000 in
set_option maxRecDepth 100000 in
theorem rnew_it (w : World) (n : Nat) (h1 : 1 ≤ n) (h2 : n ≤ 4096) :
    Calls Try.prog 26 #[.int .i64 n] w fun e w' => ∃ x r cap, e = .returned (.tuple #[.pointer (some ⟨x, 0, none⟩), .int .i64 0]) ∧ RP w' x r cap (List.replicate n (-1)) ∧ (w.heap.size ≤ x ∧ w.heap.size ≤ r) ∧ Below w.heap.size w w' := by
  have e1 : decide ((n : Int) < 1) = false := decide_eq_false (by omega)
  have e2 : decide (4096 < (n : Int)) = false := decide_eq_false (by omega)
  obtain ⟨i0, hi, hz0, hz1, hz2⟩ := info_parts Pl.infoI
  have HI := Lib.hid (And.intro hi (And.intro hz0 (And.intro hz1 hz2)))
  clear hi hz0 hz1 hz2
  have R0 : Hid (Rw1 w (w.alloc (.cells #[.slice none 0 0] 81)) 0 (.slice none 0 0)) := ⟨Kit.new_blk w _, World.ownsRow_nil _ _ _ _, Kit.allocB (Below.refl _ _) _, by simp⟩
  go_enter Try.func26, Try.ntmps26
  go_wp2_with fail
  go_loopg [5] n (fun k i wr => ∃ j : Nat, (j ≤ n ∧ k = n - j) ∧ i = .int .i64 j ∧ Hid (∃ v, Rw1 w wr j v))
  case atStart => exact ⟨0, ⟨Nat.zero_le _, rfl⟩, rfl, _, R0.out⟩
  case round =>
    obtain ⟨j, ⟨hj, rfl⟩, rfl, H⟩ := hrel
    obtain ⟨v, R⟩ := H.out
    by_cases hlt : j < n
    · have HR := Lib.hid R
      have cx := Kit.cells1 R.obj
      have hlt2 := R.lt
      have fx := Kit.frozen_of R.obj 0
      clear R H R0
      go_wp2_with (at_builtin; go_loud (refine wpList_append_own _ rfl _ _ 43 rfl (w.heap.size + 1) 3 i0 (.int .i64 0) 1 8 Try.underlying43 HI.out.1 HI.out.2.1 HI.out.2.2.1 HI.out.2.2.2 rfl (by decide) _ _ _ rfl (HR.out.own.alloc _) ⟨wr.heap.size, 0, none⟩ 1 1 [.int .i64 (-1)] rfl rfl (cell_one_new wr (.int .i64 (-1)) 3) (fun x hx => by simp at hx; subst hx; rfl) (by unfold maxLen; omega) (by omega) (by simp; omega) ?_))
      intro v' w2 hown' hgrow _
      obtain ⟨va', vc', rfl⟩ : ∃ a c, v' = .slice a (j + 1) c := by
        rcases hown'.2 with ⟨rfl, e⟩ | ⟨g, cap, cur, rfl, _⟩
        · omega
        · exact ⟨_, _, rfl⟩
      have x2 := (hgrow.block _ (by simp; omega) (fun e => by have := (HR.out.own.lt _ e.symm).1; omega)).trans (Kit.keep_alloc HR.out.obj (.cells #[.int .i64 (-1)] 3))
      have cx2 := Kit.cells1 x2
      have fx2 := Kit.frozen_of x2 0
      have g2 := hgrow.size
      have eo : ints (List.replicate j (-1)) ++ [.int .i64 (-1)] = ints (List.replicate (j + 1) (-1)) := by simp [ints, List.replicate_succ']
      rw [eo] at hown'
      have R2 : Hid (Rw1 w (w2.setCell ⟨w.heap.size, 0, none⟩ (.slice va' (j + 1) vc')) (j + 1) (.slice va' (j + 1) vc')) := by
        refine ⟨by have := Kit.set_blk x2 0 (.slice va' (j + 1) vc'); simpa using this, ?_, ?_, ?_⟩
        · have gr : w2.grownBy (w2.setCell ⟨w.heap.size, 0, none⟩ (.slice va' (j + 1) vc')) (some w.heap.size) := ⟨rfl, rfl, rfl, by simp [World.setCell], fun k hk hne => Below.heap_setCell w2 _ (.slice va' (j + 1) vc') k (fun e => hne (by simp [e]))⟩
          refine hown'.kept gr ?_
          cases hv : (Value.slice va' (j + 1) vc').ownBlock with
          | none => exact .inl rfl
          | some q => right; have := (hown'.lt q hv).1; simp; omega
        · exact ((Kit.Mod.of_below (S := []) (Kit.allocB HR.out.bel _)).grown hgrow (fun k hk => .inr (by have := (HR.out.own.lt _ hk).1; omega))).below.setCell (p := ⟨w.heap.size, 0, none⟩) (Nat.le_refl _) (.slice va' (j + 1) vc')
        · have : (w2.setCell ⟨w.heap.size, 0, none⟩ (.slice va' (j + 1) vc')).heap.size = w2.heap.size := by simp [World.setCell]
          rw [this]; simp at g2; omega
      clear hown' hgrow x2 cx g2 eo fx
      go_wp2_with fail
      go_roundg (n - (j + 1))
      case measure => omega
      case rel => exact ⟨j + 1, ⟨by omega, rfl⟩, by simp, _, R2.out⟩
    · obtain rfl : j = n := by omega
      have HR := Lib.hid R
      clear R H R0
      go_wp2_with fail
      go_ret2
      have R := HR.out
      rcases R.own.2 with ⟨_, h0⟩ | ⟨g, cap, cur, e, hb, hg, hc, hm, hs, ht⟩
      · omega
      · refine ⟨w.heap.size, g, cap, rfl, ⟨?_, ⟨cur, hg, by simpa using ht⟩, by omega, by simp; omega⟩, ⟨by omega, by omega⟩, R.bel⟩
        rw [List.length_replicate, ← e]; exact R.obj
/-- Are so many blocks from a place on free? -/
def Fits (fs : List Int) (p N : Nat) : Prop := p + N ≤ fs.length ∧ ∀ i, p ≤ i → i < p + N → fs.getD i 0 < 0
theorem fits_big (P : RP w x r cap fs) (p N : Nat) (hp : p ≤ fs.length) (hN : N ≤ 9223372036854775807) (h : fs.length < p + N) :
    Calls Try.prog 42 #[.pointer (some ⟨x, 0, none⟩), .int .i64 p, .int .i64 N] w fun e w' => e = .returned (.bool false) ∧ w' = w := by
  have c1 := Kit.cells1 P.obj
  have hs := P.small
  have s1 : IntKind.i64.wrap ((fs.length : Int) - p) = (fs.length : Int) - p := IntWalk.i64_in _ (by omega)
  have d1 : decide ((fs.length : Int) - p < N) = true := decide_eq_true (by omega)
  clear P
  go_enter Try.func42, Try.ntmps42
  go_wp2_with fail
  go_ret
  exact ⟨rfl, rfl⟩
/-- The first m blocks from a place on are free; then what stands next decides. -/
theorem fits_it (P : RP w x r cap fs) (p N m : Nat) (h : p + N ≤ fs.length) (hm : m ≤ N) (hf : ∀ i, p ≤ i → i < p + m → fs.getD i 0 < 0) (he : m < N → 0 ≤ fs.getD (p + m) 0) :
    Calls Try.prog 42 #[.pointer (some ⟨x, 0, none⟩), .int .i64 p, .int .i64 N] w fun e w' => e = .returned (.bool (decide (m = N))) ∧ w' = w := by
  have c1 := Kit.cells1 P.obj
  have hs := P.small
  have s1 : IntKind.i64.wrap ((fs.length : Int) - p) = (fs.length : Int) - p := IntWalk.i64_in _ (by omega)
  have d1 : decide ((fs.length : Int) - p < N) = false := decide_eq_false (by omega)
  have HP := Lib.hid P
  have HF := Lib.hid hf
  have HE := Lib.hid he
  clear P hf he
  go_enter Try.func42, Try.ntmps42
  go_wp2_with fail
  clear s1 d1
  have s2 : IntKind.i64.wrap ((p : Int) + N) = (p : Int) + N := IntWalk.i64_in _ (by omega)
  go_loop [7] (fun i => ∃ j : Nat, j ≤ m ∧ i = .int .i64 ((p + j : Nat) : Int)) (fun i => p + N - (intOf i).toNat)
  case atStart => exact ⟨0, Nat.zero_le _, by simp⟩
  case round =>
    obtain ⟨j, hj, rfl⟩ := hrel
    by_cases hlt : j < m
    · have c3 := HP.out.cell (p + j) (by omega)
      have neg := HF.out (p + j) (by omega) (by omega)
      generalize fs.getD (p + j) 0 = y at c3 neg
      have d2 : decide (((p + j : Nat) : Int) < (p : Int) + N) = true := decide_eq_true (by omega)
      have d3 : decide ((0 : Int) ≤ y) = false := decide_eq_false (by omega)
      have l1 : ((p + j : Nat) : Int) < fs.length := by omega
      go_wp2_with fail
      go_round
      case rel => exact ⟨j + 1, by omega, by simp; omega⟩
      case measure => simp [intOf]; omega
    · obtain rfl : j = m := by omega
      by_cases hN : j < N
      · have c3 := HP.out.cell (p + j) (by omega)
        have pos := HE.out hN
        generalize fs.getD (p + j) 0 = y at c3 pos
        have d2 : decide (((p + j : Nat) : Int) < (p : Int) + N) = true := decide_eq_true (by omega)
        have d3 : decide ((0 : Int) ≤ y) = true := decide_eq_true pos
        have l1 : ((p + j : Nat) : Int) < fs.length := by omega
        go_wp2_with fail
        go_ret
        exact ⟨ret_bool (decide_eq_false (show ¬ j = N by omega)).symm, rfl⟩
      · obtain rfl : j = N := by omega
        have d2 : decide (((p + j : Nat) : Int) < (p : Int) + j) = false := decide_eq_false (by omega)
        go_wp2_with fail
        go_ret
        first | exact ⟨rfl, rfl⟩ | exact ⟨ret_bool (decide_eq_true rfl).symm, rfl⟩
/-- Where it fits, and where it does not. -/
theorem fits_yes (P : RP w x r cap fs) (p N : Nat) (h : Fits fs p N) :
    Calls Try.prog 42 #[.pointer (some ⟨x, 0, none⟩), .int .i64 p, .int .i64 N] w fun e w' => e = .returned (.bool true) ∧ w' = w := by
  have := fits_it P p N N h.1 (Nat.le_refl _) h.2 (fun h => by omega)
  simpa using this
theorem first_bad (p N : Nat) (h : ¬ ∀ i, p ≤ i → i < p + N → fs.getD i 0 < 0) : ∃ m, m < N ∧ (∀ i, p ≤ i → i < p + m → fs.getD i 0 < 0) ∧ 0 ≤ fs.getD (p + m) 0 := by
  induction N with
  | zero => exact absurd (fun i a b => by omega) h
  | succ N ih =>
    by_cases h' : ∀ i, p ≤ i → i < p + N → fs.getD i 0 < 0
    · refine ⟨N, by omega, h', ?_⟩
      rcases Int.lt_or_le (fs.getD (p + N) 0) 0 with c | c
      · exact absurd (fun i a b => by
          by_cases e : i = p + N
          · rw [e]; exact c
          · exact h' i a (by omega)) h
      · exact c
    · obtain ⟨m, a, b, c⟩ := ih h'
      exact ⟨m, by omega, b, c⟩
theorem fits_no (P : RP w x r cap fs) (p N : Nat) (hp : p ≤ fs.length) (hN : N ≤ 9223372036854775807) (h : ¬ Fits fs p N) :
    Calls Try.prog 42 #[.pointer (some ⟨x, 0, none⟩), .int .i64 p, .int .i64 N] w fun e w' => e = .returned (.bool false) ∧ w' = w := by
  by_cases hl : p + N ≤ fs.length
  · obtain ⟨m, a, b, c⟩ := first_bad (fs := fs) p N (fun h' => h ⟨hl, h'⟩)
    have := fits_it P p N m hl (by omega) b (fun _ => c)
    rw [decide_eq_false (show ¬ m = N by omega)] at this
    exact this
  · exact fits_big P p N hp hN (by omega)
end
end Go.Proofs.Ytladhenjoipfpaa.Rp
