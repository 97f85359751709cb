/- The pool's range over its runs, for every body of a loop that keeps what lay. No condition. -/
import Derived.Test.YtladhenjoipfpaaRn
import Derived.RangeFuncNested
import Derived.RangeFuncBound
import Derived.RangeFuncCalls
import Derived.RangeFuncLeaves
import Derived.RangeFuncBox
import Derived.Shelf.Abstract
import Derived.Shelf.RegionOpen
import Derived.OwnWalkIn
import Derived.TacticsInMore
import Derived.LoopNIn
import Derived.LoopIn
import Derived.Sort.QuietIn
set_option linter.unusedVariables false
set_option linter.unusedSimpArgs false
namespace Go.Proofs.Ytladhenjoipfpaa.Rs
open Go.RowKit Go.Shelf
open Pl Rn
attribute [local go_sem] Oper.semAt_some
theorem grown_drewN (w : World) (n : Nat) : w.grownBy (w.drewN n) none := ⟨rfl, rfl, rfl, Nat.le_refl _, fun _ _ _ => rfl⟩
/-- Stretches of blocks that are there. -/
abbrev Ru (N : Nat) := { x : Nat × Nat // x.1 + x.2 ≤ N }
def encN {N : Nat} (x : Ru N) : Array Value := #[.int .i64 (x.1.1 : Int), .int .i64 (x.1.2 : Int)]
set_option maxRecDepth 100000 in
set_option maxHeartbeats 4000000 in
theorem runs1_in (n : Nat) (hn : 1 ≤ n) (l B n₀ g a b : Nat) (fs ms : List Int) (WF : Wf fs ms) (hB : B < n₀ ∧ g < n₀ ∧ a < n₀ ∧ b < n₀) (J Jx : List (Ru fs.length) → World → Prop)
    (hY : ∀ pre x W, J pre W → pre.length < fs.length → YieldAt Fence.wide (n - 1) Try.prog l (encN x) W fun e W' =>
      (e = .returned (.bool true) ∧ J (pre ++ [x]) W' ∧ Below n₀ W W') ∨ (e = .returned (.bool false) ∧ Jx (pre ++ [x]) W'))
    (W : World) (hJ : AbidesFrom W.heap.size J) (P : Pool W g a b fs ms) (hBc : W.cell? ⟨B, 0, none⟩ = some (.pointer (some ⟨g, 0, none⟩))) (h0 : J [] W) :
    CallsIn Fence.wide n Try.prog 48 #[.func (.yield l) #[] #[], .pointer (some ⟨B, 0, none⟩)] W fun e W' => (∃ v, e = .returned v) ∧
      ((∃ ys : List (Ru fs.length), ys.map (·.1) = runsFrom fs 0 ∧ J ys W') ∨ (∃ pre : List (Ru fs.length), (∃ post, runsFrom fs 0 = pre.map (·.1) ++ post) ∧ Jx pre W')) := by
  have hs := P.small
  have HP := Lib.hid P
  have HW := Lib.hid WF
  have HN := Lib.hid hB
  have HJ := Lib.hid hJ
  have hlm := P.len
  have RL := Lib.hid (runs_length (fs := fs) 0)
  clear P WF hJ
  refine callsIn_of_wp Try.func48 rfl trivial ?_ rfl
  simp only [Try.ntmps48, List.size_toArray, List.length_cons, List.length_nil, Nat.reduceAdd, Nat.reduceSub, Array.replicate_succ, Array.replicate_zero, List.push_toArray, List.append_toArray, List.nil_append, List.cons_append]
  gi_wp2
  gi_loopw [3] (fun i wr => ∃ p : Nat, p ≤ fs.length ∧ i = .int .i64 p ∧ Hid (Rn.Edge fs p ∧ (∃ pre : List (Ru fs.length), runsFrom fs 0 = pre.map (·.1) ++ runsFrom fs p ∧ J pre wr) ∧ Below n₀ W wr))
    (fun i _ => fs.length - (intOf i).toNat)
  case atStart => exact ⟨0, Nat.zero_le _, rfl, Rn.Edge.zero HW.out, ⟨[], rfl, h0⟩, Below.refl _ _⟩
  case round =>
    obtain ⟨p, hp, rfl, H⟩ := hrel
    obtain ⟨hE, ⟨pre, hpre, hJp⟩, bel⟩ := H.out
    have PW : Pool wr g a b fs ms := ⟨(bel.block g HN.out.2.1).trans HP.out.obj, (bel.block a HN.out.2.2.1).trans HP.out.one, (bel.block b HN.out.2.2.2).trans HP.out.two, HP.out.ne, HP.out.len, HP.out.small⟩
    have cB := (bel.cell (p := ⟨B, 0, none⟩) HN.out.1).trans hBc
    have c2 := Kit.cells2 PW.obj
    have HPW := Lib.hid PW
    have HBL := Lib.hid bel
    have HPR := Lib.hid hpre
    have HEE := Lib.hid hE
    clear PW bel hpre hE H
    by_cases hlt : p < fs.length
    · have c1 := Rw.cell HPW.out.one p hlt
      by_cases hneg : fs.getD p 0 < 0
      · have RU := Lib.hid (run_it HPW.out p (fl fs p) (fl_le p hp) (fun i h1 h2 => fl_neg p i h1 h2) (fun h => fl_end p h))
        have hk := fl_pos p hlt hneg
        have hle := fl_le (fs := fs) p hp
        have HRF := Lib.hid (runs_free p hlt hneg)
        have HER := Lib.hid (Rn.Edge.run HW.out p hlt hneg)
        generalize fl fs p = k at *
        generalize fs.getD p 0 = x at c1 hneg
        have d0 : decide ((0 : Int) ≤ x) = false := decide_eq_false (by omega)
        obtain ⟨fn, tmps, assign, body, hy, hR⟩ := hY pre ⟨(p, k), hle⟩ wr hJp (by have := RL.out; rw [HPR.out, HRF.out] at this; simp at this; omega)
        dsimp only [encN] at hy
        have HR := Lib.hid hR
        clear hR
        gi_wp2
        refine ⟨trivial, ?_⟩
        refine (callsIn_wide.2 RU.out).mono ?_
        rintro e w1 ⟨rfl, rfl⟩
        gi_wp2
        refine HR.out.mono ?_
        rintro e W3 (⟨rfl, hJ3, hk3⟩ | ⟨rfl, hJx3⟩)
        · have HK3 := Lib.hid (HBL.out.trans hk3)
          have HJ3 := Lib.hid hJ3
          clear hk3 hJ3
          gi_wp2
          go_roundw
          case rel => exact ⟨p + k, by omega, by simp, HER.out, ⟨pre ++ [⟨(p, k), hle⟩], by rw [HPR.out, HRF.out]; simp, HJ3.out⟩, HK3.out⟩
          case measure => simp [intOf]; omega
        · have HJ3 := Lib.hid hJx3
          clear hJx3
          gi_wp2
          refine bodyPost_ret (results_none rfl _ _ _) rfl ?_
          exact ⟨⟨_, rfl⟩, .inr ⟨pre ++ [⟨(p, k), hle⟩], ⟨runsFrom fs (p + k), by rw [HPR.out, HRF.out]; simp⟩, HJ3.out⟩⟩
      · obtain ⟨m, e1, e2, e3, e4, e5, e6⟩ := Rn.Edge.group HW.out p hlt HEE.out (by omega)
        have c3 := Rw.cell HPW.out.two p (by rw [hlm]; exact hlt)
        rw [e1] at c1
        rw [e2] at c3
        have hsk := runs_skip p m e4 (fun j h1 h2 => by rw [e5 j h1 h2]; omega)
        have HSK := Lib.hid hsk
        have HE6 := Lib.hid e6
        have d0 : decide ((0 : Int) ≤ (p : Int)) = true := decide_eq_true (by omega)
        have b2 : (p : Int) < fs.length := by omega
        have s1 : IntKind.i64.wrap ((p : Int) + m) = p + m := IntWalk.i64_in _ (by omega)
        clear e1 e2 e5 e6 hsk hneg
        gi_wp2
        gi_quiet (fail)
        gi_wp2
        go_roundw
        case rel => exact ⟨p + m, by omega, by simp, HE6.out, ⟨pre, by rw [HPR.out, HSK.out], HJ.out _ _ _ none hJp (grown_drewN _ _) (fun r e => by cases e)⟩, ⟨HBL.out.os, HBL.out.tape, HBL.out.output, HBL.out.size, HBL.out.block⟩⟩
        case measure => simp [intOf]; omega
    · obtain rfl : p = fs.length := by omega
      have hend : runsFrom fs 0 = pre.map (·.1) := by rw [HPR.out, runs_end _ (Nat.le_refl _), List.append_nil]
      have HEND := Lib.hid hend
      clear hend
      gi_wp2
      go_end0
      exact ⟨⟨_, rfl⟩, .inl ⟨_, HEND.out.symm, hJp⟩⟩
theorem runs_stops (n : Nat) (hn : 1 ≤ n) (B n₀ g a b : Nat) (fs ms : List Int) (WF : Wf fs ms) (hB : B < n₀ ∧ g < n₀ ∧ a < n₀ ∧ b < n₀) (w : World) (hn0 : n₀ ≤ w.heap.size) (P : Pool w g a b fs ms) (hBc : w.cell? ⟨B, 0, none⟩ = some (.pointer (some ⟨g, 0, none⟩))) :
    SeqStopsK Fence.wide n Try.prog 48 #[.pointer (some ⟨B, 0, none⟩)] (encN (N := fs.length)) (Below n₀) (fun ys => ys.map (·.1) = runsFrom fs 0) (fun pre => ∃ post, runsFrom fs 0 = pre.map (·.1) ++ post) fs.length w := fun l J Jx W hW hJ hJx hY h0 => by
  refine (runs1_in n hn l B n₀ g a b fs ms WF hB J Jx hY W hJ (P.keepB hW) ((hW.cell (p := ⟨B, 0, none⟩) (by simp; omega)).trans hBc) h0).mono ?_
  rintro e W' h
  exact h
theorem runs_call (w : World) (g : Nat) : Calls Try.prog 41 #[.pointer (some ⟨g, 0, none⟩)] w fun e w' => e = .returned (.func (.func 48) #[] #[.pointer (some ⟨w.heap.size, 0, none⟩)]) ∧ w' = w.alloc (.cells #[.pointer (some ⟨g, 0, none⟩)] 27) := by
  go_enter Try.func41, Try.ntmps41
  go_wp2_with fail
  go_ret
  exact ⟨rfl, rfl⟩
/-- What abides the turn of a block laid since. -/
theorem ownFrom_blk {β : Type} {B k : Nat} {o : Obj} (hk : k < B) : OwnFrom B (fun (_ : β) W => W.heap[k]? = some o) := fun s W W' row hs hg hr => by
  refine (hg.block k (Kit.lt_of hs) (fun e => ?_)).trans hs
  have := (hr k e.symm).1
  omega
theorem ownFrom_mod {β : Type} {B : Nat} {S : List Nat} {w : World} (hB : w.heap.size ≤ B) : OwnFrom B (fun (_ : β) W => Kit.Mod S w W) := fun s W W' row hs hg hr =>
  ⟨hg.os.trans hs.os, hg.tape.trans hs.tape, hg.output.trans hs.output, Nat.le_trans hs.size hg.size, fun k hk hn => (hg.block k (Nat.lt_of_lt_of_le hk hs.size) (fun e => by have := (hr k e.symm).1; omega)).trans (hs.block k hk hn)⟩
theorem ownFrom_pool {β : Type} {B g a b : Nat} {fs ms : List Int} (h : g < B ∧ a < B ∧ b < B) : OwnFrom B (fun (_ : β) W => Pool W g a b fs ms) := fun s W W' row hs hg hr =>
  ⟨ownFrom_blk (β := β) h.1 s W W' row hs.obj hg hr, ownFrom_blk (β := β) h.2.1 s W W' row hs.one hg hr, ownFrom_blk (β := β) h.2.2 s W W' row hs.two hg hr, hs.ne, hs.len, hs.small⟩
theorem ownFrom_pure {β : Type} {B : Nat} (p : β → Prop) : OwnFrom B (fun s (_ : World) => p s) := fun _ _ _ _ hs _ _ => hs
end Go.Proofs.Ytladhenjoipfpaa.Rs
