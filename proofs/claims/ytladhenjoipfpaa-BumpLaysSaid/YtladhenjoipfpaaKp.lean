/- What another range tells is kept. No condition. -/
import Derived.Test.YtladhenjoipfpaaRs
import Derived.Test.YtladhenjoipfpaaTw
import Derived.Sort.LoopGhostIn
import Derived.RegionIn
import Derived.Laws.AppendOwn
import Derived.OwnWalk
import Derived.Maps.AppendAt
set_option linter.unusedVariables false
set_option linter.unusedSimpArgs false
namespace Go.Proofs.Ytladhenjoipfpaa.Kp
open Go.RowKit Go.Shelf
open Pl Rn Rs Ov Tw
attribute [local go_sem] Oper.semAt_some
def fstV (l : List (Nat × Nat)) : List Value := l.map fun x => .int .i64 (x.1 : Int)
def sndV (l : List (Nat × Nat)) : List Value := l.map fun x => .int .i64 (x.2 : Int)
def firsts {N : Nat} (l : List (Ru N)) : List Value := fstV (l.map (·.1))
def manys {N : Nat} (l : List (Ru N)) : List Value := sndV (l.map (·.1))
set_option maxRecDepth 100000 in
set_option maxHeartbeats 4000000 in
theorem kept_in (w : World) (gf : Nat) (hgf : gf < 100) (lb : Array Value) (N : Nat) (hN : N ≤ 4096) (rs : List (Nat × Nat)) (n₀ : Nat) (hn : n₀ ≤ w.heap.size) (eg : ∀ args w, (callFunc gf args).run Try.prog w = .ok (.enter gf args) w)
    (hS : ∀ w', Below w.heap.size w w' → SeqStopsK Fence.wide 5 Try.prog gf lb (encN (N := N)) (Below n₀) (fun ys => ys.map (·.1) = rs) (fun pre => ∃ post, rs = pre.map (·.1) ++ post) N w') :
    Calls Try.prog 46 #[.func (.func gf) #[] lb] w fun e w' => ∃ va vb : Value, e = .returned (.func (.func 50) #[] #[.pointer (some ⟨w.heap.size, 0, none⟩), .pointer (some ⟨w.heap.size + 1, 0, none⟩)]) ∧ Below w.heap.size w w' ∧ w'.heap[w.heap.size]? = some (.cells #[va] 43 (0, 0)) ∧ w'.heap[w.heap.size + 1]? = some (.cells #[vb] 43 (0, 0)) ∧ w'.ownsRow (w.heap.size + 2) 3 1 va rs.length (fstV rs) ∧ w'.ownsRow (w.heap.size + 2) 3 1 vb rs.length (sndV rs) := by
  refine (callsIn_wide (n := 6)).1 ?_
  refine callsIn_of_wp_marks Try.func46 rfl trivial ?_ rfl
  simp only [Try.ntmps46, List.size_toArray, List.length_cons, List.length_nil, Nat.reduceAdd, Nat.reduceSub, Array.replicate_succ, Array.replicate_zero, List.push_toArray, List.append_toArray, List.nil_append, List.cons_append]
  gi_wp2
  obtain ⟨V, hV⟩ : ∃ V, V = (w.alloc (Obj.cells #[Value.slice none 0 0] 43)).alloc (Obj.cells #[Value.slice none 0 0] 43) := ⟨_, rfl⟩
  have bl : Below w.heap.size w V := by rw [hV]; exact Kit.allocB (Kit.allocB (Below.refl _ _) _) _
  have k10 : V.heap[w.heap.size]? = some (.cells #[.slice none 0 0] 43 (0, 0)) := by rw [hV]; exact Kit.keep_alloc (Kit.new_blk w _) _
  have k11 : V.heap[w.heap.size + 1]? = some (.cells #[.slice none 0 0] 43 (0, 0)) := by rw [hV]; exact Kit.new_blk2 w _ _
  have sz : V.heap.size = w.heap.size + 2 := by rw [hV]; simp
  rw [← hV]
  refine wpIn_rangeFunc_ownG rfl (by decide) (gf := gf) (lb := lb) rfl trivial eg (hS V bl) belowK_t (belowK_b (by omega)) (Below.refl _ _) (fun _ => rfl)
    (fun pre W => Below w.heap.size w W ∧ w.heap.size + 2 ≤ W.heap.size ∧ ∃ va vb, W.heap[w.heap.size]? = some (.cells #[va] 43 (0, 0)) ∧ W.heap[w.heap.size + 1]? = some (.cells #[vb] 43 (0, 0)) ∧ W.ownsRow (w.heap.size + 2) 3 1 va pre.length (firsts pre) ∧ W.ownsRow (w.heap.size + 2) 3 1 vb pre.length (manys pre) ∧ (va.ownBlock = none ∨ va.ownBlock ≠ vb.ownBlock))
    (fun c pre W => False)
    ?hI ?hIx ⟨bl, by omega, _, _, k10, k11, World.ownsRow_nil _ _ _ _, World.ownsRow_nil _ _ _ _, .inl rfl⟩
    (fun x => { tmps := #[.func (.func gf) #[] lb, undef, .nilFunc, .pointer (some ⟨w.heap.size, 0, none⟩), .pointer (some ⟨w.heap.size + 1, 0, none⟩), .int .i64 (x.1.1 : Int), .int .i64 (x.1.2 : Int), .func (.func gf) #[] lb, .int .i64 (x.1.1 : Int), .int .i64 (x.1.2 : Int), undef, undef, undef, undef, undef, undef, undef, undef, undef], defers := [] }) ?assign ?body ?done ?stop
  case hI =>
    rintro s W W' row ⟨hB, hz, va, vb, h1, h2, o1, o2, hne⟩ hg hr
    have hr' : ∀ k, row = some k → ∃ o : Obj, W.heap[k]? = some o ∧ o.isCells = false := fun k e => (hr k e).2
    exact ⟨hB.trans ⟨hg.os, hg.tape, hg.output, hg.size, fun k hk => hg.block k (Nat.lt_of_lt_of_le hk hB.size) (fun e => by have := (hr k e.symm).1; omega)⟩, Nat.le_trans hz hg.size, va, vb, blk_other h1 hg hr', blk_other h2 hg hr', own_other o1 hg hr', own_other o2 hg hr', hne⟩
  case hIx => exact fun c s W W' row hs _ _ => hs
  case assign =>
    intro l x W K hK
    dsimp only [encN]
    gi_wp2
    exact hK
  case body =>
    rintro l pre x W ⟨hB, hz, va, vb, h1, h2, o1, o2, hne⟩ hlen
    have hmx : Try.prog.follows .mixedOrders = true := by kernel_rfl
    have c1 := Kit.cells1 h1
    have c2 := Kit.cells1 h2
    gi_wp2
    refine wpIn_two (A := fun v => { tmps := #[.func (.func gf) #[] lb, undef, .nilFunc, .pointer (some ⟨w.heap.size, 0, none⟩), .pointer (some ⟨w.heap.size + 1, 0, none⟩), .int .i64 (x.1.1 : Int), .int .i64 (x.1.2 : Int), .func (.func gf) #[] lb, .int .i64 (x.1.1 : Int), .int .i64 (x.1.2 : Int), v 0, v 1, v 2, v 3, v 4, v 5, v 6, v 7, undef], defers := [] })
      (r1 := w.heap.size) (r2 := w.heap.size + 1) (X := (x.1.1 : Int)) (Y := (x.1.2 : Int)) (B := w.heap.size + 2) ?shape (by omega) (k1 := pre.length) (k2 := pre.length) (by omega) (by omega) hmx (fun _ => undef) W (by omega) (by omega) hz h1 h2 o1 o2 hne ?_
    case shape =>
      refine ⟨rfl, fun j o ho e he => ?_, ⟨_, _, rfl, rfl, rfl, fun _ => rfl, fun _ _ => rfl⟩, ⟨_, _, rfl, rfl, rfl, fun _ => rfl, fun _ _ => rfl⟩, ⟨_, _, rfl, rfl, rfl, fun _ => rfl, fun _ _ => rfl⟩, ⟨_, _, _, rfl, rfl, rfl, fun _ => ⟨rfl, rfl⟩, fun _ _ => rfl⟩,
        ⟨_, _, rfl, rfl, rfl, fun _ => rfl, fun _ _ => rfl⟩, ⟨_, _, rfl, rfl, rfl, fun _ => rfl, fun _ _ => rfl⟩, ⟨_, _, rfl, rfl, rfl, fun _ => rfl, fun _ _ => rfl⟩, ⟨_, _, _, rfl, rfl, rfl, fun _ => ⟨rfl, rfl⟩, fun _ _ => rfl⟩,
        ⟨_, _, _, rfl, rfl, rfl, fun _ => ⟨rfl, rfl⟩, fun _ _ => rfl⟩, ⟨_, _, _, rfl, rfl, rfl, fun _ => ⟨rfl, rfl⟩, fun _ _ => rfl⟩, ?_, ?_, ?_, ?_, ?_, ?_⟩
      · rcases j with _ | _ | _ | _ | _ | _ | _ | _ | _ | _ | j
        all_goals (first | (cases ho; simp at he; done) | (cases ho; simp at he; rcases he with rfl; decide) | (cases ho; simp at he; omega) | (cases ho; simp at he; rcases he with rfl | rfl <;> decide) | (cases ho; simp at he; rcases he with rfl | rfl | rfl <;> decide) | (cases ho; simp at he; rcases he with rfl | rfl | rfl | rfl | rfl | rfl | rfl | rfl | rfl | rfl <;> decide) | (cases ho; simp at he; rcases he with rfl | rfl | rfl | rfl | rfl | rfl | rfl | rfl | rfl | rfl | rfl <;> decide) | (simp at ho))
      · intro L h; obtain ⟨_, o, ho, hall⟩ := mem_ready.1 h; cases ho; exact hall ⟨1, .data⟩ (by simp) rfl
      · intro L h; obtain ⟨_, o, ho, hall⟩ := mem_ready.1 h; cases ho; exact ⟨hall ⟨0, .data⟩ (by simp) rfl, hall ⟨2, .data⟩ (by simp) rfl⟩
      · intro L h; obtain ⟨_, o, ho, hall⟩ := mem_ready.1 h; cases ho; exact hall ⟨5, .data⟩ (by simp) rfl
      · intro L h; obtain ⟨_, o, ho, hall⟩ := mem_ready.1 h; cases ho; exact ⟨hall ⟨4, .data⟩ (by simp) rfl, hall ⟨6, .data⟩ (by simp) rfl⟩
      · intro L h; obtain ⟨_, o, ho, hall⟩ := mem_ready.1 h; cases ho; exact hall ⟨3, .data⟩ (by simp) rfl
      · intro L h; obtain ⟨_, o, ho, hall⟩ := mem_ready.1 h; cases ho; exact hall ⟨7, .data⟩ (by simp) rfl
    intro v w' va' vb' hF h1' h2' o1' o2' hne'
    gi_wp2
    have hBW : Below w.heap.size W w' := ⟨hF.os, hF.tape, hF.output, hF.size, fun k hk => hF.block k (by omega) (by omega) (by omega)⟩
    refine ⟨hF.others.from _, ?_, hB.trans hBW, Nat.le_trans hz hF.size, va', vb', h1', h2', by simpa [firsts, fstV, X1] using o1', by simpa [manys, sndV, X1] using o2', hne'⟩
    exact hBW.mono hn
  case done =>
    rintro D ys W hD hys ⟨hB, hz, va, vb, h1, h2, o1, o2, hne⟩ hK
    gi_wp2
    refine ⟨by simp, .inl ⟨_, _, rfl, run_takeDeferred hK, ?_⟩⟩
    have hg := grownBy_putObj' W D (.deferred none)
    have hr : ∀ k, some D = some k → ∃ o : Obj, W.heap[k]? = some o ∧ o.isCells = false := fun k e => by cases e; exact ⟨_, hK, rfl⟩
    refine ⟨_, ?_, va, vb, rfl, hB.trans (belowK_b (w := w) (Nat.le_refl _) W D _ _ (by omega) hK rfl rfl), blk_other h1 hg hr, blk_other h2 hg hr, ?_, ?_⟩
    · simp [results, Try.f46, go_sem]
    · have := own_other o1 hg hr
      rw [← hys]; simpa [firsts] using this
    · have := own_other o2 hg hr
      rw [← hys]; simpa [manys] using this
  case stop => exact fun D c pre W hD _ h _ => h.elim
end Go.Proofs.Ytladhenjoipfpaa.Kp
