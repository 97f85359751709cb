/- What Frames tells: to any body of a range, and to the laws' helper frames. No condition. -/
import Derived.Test.YtedkackmccnkfaaFz
import Derived.RangeFuncNested
import Derived.RangeFuncBound
import Derived.RangeFuncCalls
import Derived.RangeFuncLeaves
import Derived.RangeFuncBox
import Derived.Shelf.Abstract
import Derived.Shelf.RegionOpen
import Derived.OwnWalkIn
import Derived.TacticsInMore
import Derived.LoopNIn
import Derived.LoopIn
import Derived.Sort.QuietIn
import Derived.Sort.LoopGhostIn
import Derived.RegionIn
set_option linter.unusedVariables false
set_option linter.unusedSimpArgs false
namespace Go.Proofs.Ytedkackmccnkfaa.Fy
open Go.RowKit Go.Shelf
open Fr Fs Ft Ar Sk Pu Pv Fa Po Nw Bk Fz
attribute [local go_sem] Oper.semAt_some
theorem hnil (f : Fn) (a b : Array Value) (w : World) : Sem.run Try.prog (binOp BinOp.eql 62 (.func f a b) .nilFunc) w = .ok (.bool false) w := by kernel_rfl
/-- Frames of a bounded size. -/
abbrev FI := { x : In // x.1.ps.length ≤ 1000 }
def valI (x : In) : Value := .agg #[.int .i64 x.1.k, .int .i64 x.1.a, .int .i64 x.1.b, .slice x.2.1 x.1.ps.length x.2.2]
def encI (x : FI) : Array Value := #[valI x.1]
/-- The box and the row stay. -/
def GK (B M p : Nat) (v : Value) (inn : List In) (W W' : World) : Prop := Rws B M p W v inn → Rws B M p W' v inn
theorem gk_t {B M p : Nat} {v : Value} {inn : List In} {X Y Z : World} (h : GK B M p v inn X Y) (k : GK B M p v inn Y Z) : GK B M p v inn X Z := fun t => k (h t)
theorem gk_b {B M p : Nat} {v : Value} {inn : List In} {W : World} {l : Nat} {o : Obj} (o' : Obj) (hl : W.heap[l]? = some o) (ho : o.isCells = false) : GK B M p v inn W (W.putObj l o') := fun t =>
  t.other (grownBy_putObj' W l o') (fun k e => by cases e; exact ⟨_, hl, ho⟩)
section
variable {B M p : Nat} {v : Value} {inn : List In}
theorem row_shape {w : World} (T : Rws B M p w v inn) : ∃ aa ca, v = .slice aa inn.length ca ∧ (aa = none ∨ ∃ q, aa = some ⟨q, 0, none⟩) ∧ inn.length ≤ ca := by
  rcases T.own.2 with ⟨e, e0⟩ | ⟨q, cp, cur, e, hb, hg, hc, _⟩
  · exact ⟨none, 0, by rw [e, e0], .inl rfl, by omega⟩
  · exact ⟨_, _, e, .inr ⟨q, rfl⟩, by omega⟩
set_option maxRecDepth 100000 in
set_option maxHeartbeats 4000000 in
theorem iter_in (n : Nat) (hn : 1 ≤ n) (l : Nat) (hin : inn.length ≤ 65536) (J Jx : List FI → World → Prop)
    (hY : ∀ pre x W, J pre W → pre.length < 65536 → YieldAt Fence.wide (n - 1) Try.prog l (encI x) W fun e W' =>
      (e = .returned (.bool true) ∧ J (pre ++ [x]) W' ∧ GK B M p v inn W W') ∨ (e = .returned (.bool false) ∧ Jx (pre ++ [x]) W'))
    (W : World) (hJ : AbidesFrom W.heap.size J) (T : Rws B M p W v inn) (h0 : J [] W) :
    CallsIn Fence.wide n Try.prog 42 #[.func (.yield l) #[] #[], .pointer (some ⟨p, 0, none⟩)] W fun e W' => (∃ v, e = .returned v) ∧
      ((∃ ys : List FI, ys.map (·.1) = inn ∧ J ys W') ∨ (∃ pre : List FI, (∃ post, inn = pre.map (·.1) ++ post) ∧ Jx pre W')) := by
  have HT := Lib.hid T
  have HJ := Lib.hid hJ
  have HY := Lib.hid hY
  have cp := Kit.cells1 T.box
  obtain ⟨kk, cc, hva, hk0, hcap⟩ := row_shape T
  subst hva
  clear T hJ hY hk0
  refine callsIn_of_wp Try.func42 rfl trivial ?_ rfl
  simp only [Try.ntmps42, List.size_toArray, List.length_cons, List.length_nil, Nat.reduceAdd, Nat.reduceSub, Array.replicate_succ, Array.replicate_zero, List.push_toArray, List.append_toArray, List.nil_append, List.cons_append]
  gi_wp2
  gi_loopw [7] (fun i wr => ∃ k : Nat, k ≤ inn.length ∧ i = .int .i64 k ∧ Hid ((∃ pre : List FI, pre.map (·.1) = inn.take k ∧ J pre wr) ∧ Rws B M p wr (.slice kk inn.length cc) inn))
    (fun i _ => inn.length - (intOf i).toNat)
  case atStart => exact ⟨0, Nat.zero_le _, rfl, ⟨[], rfl, h0⟩, HT.out⟩
  case round =>
    obtain ⟨k, hk, rfl, H⟩ := hrel
    obtain ⟨⟨pre, hpre, hJp⟩, bel⟩ := H.out
    by_cases hlt : k < inn.length
    · have d1 : decide ((k : Int) < (inn.length : Int)) = true := decide_eq_true (by omega)
      obtain ⟨q, rfl, -, -, c0, c1, c2, c3⟩ := bel.at_ k hlt (⟨0, 0, 0, []⟩, none, 0)
      have hx1 : (inn.getD k (⟨0, 0, 0, []⟩, none, 0)).1.ps.length ≤ 1000 := (bel.sls _ (by rw [List.getD_eq_getElem?_getD, List.getElem?_eq_getElem hlt]; exact List.getElem_mem hlt)).2
      have hxk : inn[k]? = some (inn.getD k (⟨0, 0, 0, []⟩, none, 0)) := by simp [List.getD_eq_getElem?_getD, hlt]
      generalize inn.getD k (⟨0, 0, 0, []⟩, none, 0) = x at *
      obtain ⟨⟨fk, fa, fb, ps⟩, px, cx⟩ := x
      simp only at c0 c1 c2 c3 hx1
      have HXK := Lib.hid hxk
      have J1 : J pre (wr.alloc (.cells #[.int .i64 fk, .int .i64 fa, .int .i64 fb, .slice px ps.length cx] 24)) := HJ.out _ _ _ none hJp (World.grownBy_alloc wr _ none) (fun r e => by cases e)
      have pl : pre.length < 65536 := by
        have := congrArg List.length hpre
        simp at this; omega
      obtain ⟨fn, tmps, assign, body, hy, hR⟩ := HY.out pre ⟨(⟨fk, fa, fb, ps⟩, px, cx), hx1⟩ _ J1 pl
      simp only [encI, valI] at hy
      have HR := Lib.hid hR
      have HB := Lib.hid (bel.other (World.grownBy_alloc wr (.cells #[.int .i64 fk, .int .i64 fa, .int .i64 fb, .slice px ps.length cx] 24) none) (fun r e => by cases e))
      have HPR := Lib.hid hpre
      clear hR bel hpre hJp J1 hxk HT
      have hlt2 : (k : Int) < inn.length := by omega
      have hk2 : (0 : Int) ≤ (k : Int) := by omega
      gi_wp2
      refine HR.out.mono ?_
      rintro e W3 (⟨rfl, hJ3, hk3⟩ | ⟨rfl, hJx3⟩)
      · have HK3 := Lib.hid (hk3 HB.out)
        have HJ3 := Lib.hid hJ3
        clear hk3 hJ3
        gi_wp2
        go_roundw
        case rel => exact ⟨k + 1, by omega, by simp, ⟨pre ++ [⟨(⟨fk, fa, fb, ps⟩, px, cx), hx1⟩], by rw [List.take_add_one, HXK.out]; simp [HPR.out], HJ3.out⟩, HK3.out⟩
        case measure => simp [intOf]; omega
      · have HJ3 := Lib.hid hJx3
        clear hJx3
        gi_wp2
        refine bodyPost_ret (results_none rfl _ _ _) rfl ?_
        refine ⟨⟨_, rfl⟩, .inr ⟨pre ++ [⟨(⟨fk, fa, fb, ps⟩, px, cx), hx1⟩], ⟨inn.drop (k + 1), ?_⟩, HJ3.out⟩⟩
        have e : pre.map (·.1) ++ [((⟨fk, fa, fb, ps⟩, px, cx) : In)] = inn.take (k + 1) := by rw [List.take_add_one, HXK.out]; simp [HPR.out]
        simp only [List.map_append, List.map_cons, List.map_nil]
        rw [e, List.take_append_drop]
    · obtain rfl : k = inn.length := by omega
      have HEND := Lib.hid (show pre.map (·.1) = inn by rw [hpre]; simp)
      clear hpre
      gi_wp2
      go_end0
      exact ⟨⟨_, rfl⟩, .inl ⟨_, HEND.out, hJp⟩⟩
theorem iter_stops (n : Nat) (hn : 1 ≤ n) (hin : inn.length ≤ 65536) (w : World) (T : Rws B M p w v inn) :
    SeqStopsK Fence.wide n Try.prog 42 #[.pointer (some ⟨p, 0, none⟩)] encI (GK B M p v inn) (fun ys => ys.map (·.1) = inn) (fun pre => ∃ post, inn = pre.map (·.1) ++ post) 65536 w := fun l J Jx W hW hJ hJx hY h0 => by
  refine (iter_in n hn l hin J Jx hY W hJ (T.stepB hW) h0).mono ?_
  rintro e W' h
  exact h
end
end Go.Proofs.Ytedkackmccnkfaa.Fy
