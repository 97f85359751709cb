/- The laws' helper pairs: what it does of each pair that it is told. No condition. -/
import Derived.Test.YtladhenjoipfpaaLf
set_option linter.unusedVariables false
set_option linter.unusedSimpArgs false
namespace Go.Proofs.Ytladhenjoipfpaa.Pr
open Go.RowKit Go.Shelf
open Pl Rn Rs Ov Tw Kp Rc K1 Lf
attribute [local go_sem] Oper.semAt_some
/-- Two boxes below B and the rows that grow in them, at or beyond B. -/
structure Gr (W : World) (B p q : Nat) (va vb : Value) (l : List (Nat × Nat)) : Prop where
  one : W.heap[p]? = some (.cells #[va] 43 (0, 0))
  two : W.heap[q]? = some (.cells #[vb] 43 (0, 0))
  fst : W.ownsRow B 3 1 va l.length (fstV l)
  snd : W.ownsRow B 3 1 vb l.length (sndV l)
  far : va.ownBlock = none ∨ va.ownBlock ≠ vb.ownBlock
  lt : p < B ∧ q < B ∧ B ≤ W.heap.size ∧ p ≠ q
set_option maxRecDepth 100000 in
set_option maxHeartbeats 4000000 in
theorem pairs1_it (W : World) (B p q : Nat) (va vb : Value) (l : List (Nat × Nat)) (x y : Nat) (G : Gr W B p q va vb l) (hl : l.length + 1 ≤ 1000000) :
    Calls Try.prog 31 #[.int .i64 x, .int .i64 y, .pointer (some ⟨p, 0, none⟩), .pointer (some ⟨q, 0, none⟩)] W fun e w' => e = .returned (.bool true) ∧ Fr B p q W w' ∧ ∃ va' vb', Gr w' B p q va' vb' (l ++ [(x, y)]) := by
  refine (callsIn_wide (n := 6)).1 ?_
  refine callsIn_of_wp Try.func31 rfl trivial ?_ rfl
  simp only [Try.ntmps31, List.size_toArray, List.length_cons, List.length_nil, Nat.reduceAdd, Nat.reduceSub, Array.replicate_succ, Array.replicate_zero, List.push_toArray, List.append_toArray, List.nil_append, List.cons_append]
  have hmx : Try.prog.follows .mixedOrders = true := by kernel_rfl
  gi_wp2
  refine wpIn_two (A := fun v => { tmps := #[.int .i64 x, .int .i64 y, .pointer (some ⟨p, 0, none⟩), .pointer (some ⟨q, 0, none⟩), undef, undef, .bool false, v 0, v 1, v 2, v 3, v 4, v 5, v 6, v 7], defers := [] })
    (r1 := p) (r2 := q) (X := (x : Int)) (Y := (y : Int)) (B := B) ?shape G.lt.2.2.2 (k1 := l.length) (k2 := l.length) hl hl hmx (fun _ => undef) W G.lt.1 G.lt.2.1 G.lt.2.2.1 G.one G.two G.fst G.snd G.far ?_
  case shape =>
    refine ⟨rfl, fun j o ho e he => ?_, ⟨_, _, rfl, rfl, rfl, fun _ => rfl, fun _ _ => rfl⟩, ⟨_, _, rfl, rfl, rfl, fun _ => rfl, fun _ _ => rfl⟩, ⟨_, _, rfl, rfl, rfl, fun _ => rfl, fun _ _ => rfl⟩, ⟨_, _, _, rfl, rfl, rfl, fun _ => ⟨rfl, rfl⟩, fun _ _ => rfl⟩,
      ⟨_, _, rfl, rfl, rfl, fun _ => rfl, fun _ _ => rfl⟩, ⟨_, _, rfl, rfl, rfl, fun _ => rfl, fun _ _ => rfl⟩, ⟨_, _, rfl, rfl, rfl, fun _ => rfl, fun _ _ => rfl⟩, ⟨_, _, _, rfl, rfl, rfl, fun _ => ⟨rfl, rfl⟩, fun _ _ => rfl⟩,
      ⟨_, _, _, rfl, rfl, rfl, fun _ => ⟨rfl, rfl⟩, fun _ _ => rfl⟩, ⟨_, _, _, rfl, rfl, rfl, fun _ => ⟨rfl, rfl⟩, fun _ _ => rfl⟩, ?_, ?_, ?_, ?_, ?_, ?_⟩
    · rcases j with _ | _ | _ | _ | _ | _ | _ | _ | _ | _ | j
      all_goals (first | (cases ho; simp at he; done) | (cases ho; simp at he; rcases he with rfl; decide) | (cases ho; simp at he; omega) | (cases ho; simp at he; rcases he with rfl | rfl <;> decide) | (cases ho; simp at he; rcases he with rfl | rfl | rfl <;> decide) | (cases ho; simp at he; rcases he with rfl | rfl | rfl | rfl | rfl | rfl | rfl | rfl | rfl | rfl <;> decide) | (cases ho; simp at he; rcases he with rfl | rfl | rfl | rfl | rfl | rfl | rfl | rfl | rfl | rfl | rfl <;> decide) | (simp at ho))
    · intro L h; obtain ⟨_, o, ho, hall⟩ := mem_ready.1 h; cases ho; exact hall ⟨1, .data⟩ (by simp) rfl
    · intro L h; obtain ⟨_, o, ho, hall⟩ := mem_ready.1 h; cases ho; exact ⟨hall ⟨0, .data⟩ (by simp) rfl, hall ⟨2, .data⟩ (by simp) rfl⟩
    · intro L h; obtain ⟨_, o, ho, hall⟩ := mem_ready.1 h; cases ho; exact hall ⟨5, .data⟩ (by simp) rfl
    · intro L h; obtain ⟨_, o, ho, hall⟩ := mem_ready.1 h; cases ho; exact ⟨hall ⟨4, .data⟩ (by simp) rfl, hall ⟨6, .data⟩ (by simp) rfl⟩
    · intro L h; obtain ⟨_, o, ho, hall⟩ := mem_ready.1 h; cases ho; exact hall ⟨3, .data⟩ (by simp) rfl
    · intro L h; obtain ⟨_, o, ho, hall⟩ := mem_ready.1 h; cases ho; exact hall ⟨7, .data⟩ (by simp) rfl
  intro v w' va' vb' hF h1' h2' o1' o2' hne'
  have HF := Lib.hid hF
  have HG : Hid (Gr w' B p q va' vb' (l ++ [(x, y)])) := ⟨h1', h2', by simpa [fstV, X1] using o1', by simpa [sndV, X1] using o2', hne', G.lt.1, G.lt.2.1, Nat.le_trans G.lt.2.2.1 hF.size, G.lt.2.2.2⟩
  clear hF h1' h2' o1' o2' hne'
  gi_wp2
  refine bodyPost_ret (v := .bool true) (by simp [results, Try.f31, go_sem]) rfl ?_
  exact ⟨rfl, HF.out, _, _, HG.out⟩
end Go.Proofs.Ytladhenjoipfpaa.Pr
