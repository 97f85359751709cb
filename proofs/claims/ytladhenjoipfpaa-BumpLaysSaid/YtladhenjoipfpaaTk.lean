/- A space takes a group of its pool. No condition. -/
import Derived.Test.YtladhenjoipfpaaSc
set_option linter.unusedVariables false
set_option linter.unusedSimpArgs false
namespace Go.Proofs.Ytladhenjoipfpaa.Tk
open Go.RowKit
open Pl Rn Ov Lf Wl Gp Ct Sn Gq Tf Mt Rr Kp Sc Nn
/-- Where the first run of so many blocks begins. -/
def findR (fs : List Int) (N : Nat) : Option Nat := ((runsFrom fs 0).find? fun r => decide (N ≤ r.2)).map (·.1)
theorem findR_none {fs : List Int} {N : Nat} (h : ∀ r : Nat × Nat, r ∈ runsFrom fs 0 → (r.2 : Int) < N) : findR fs N = none := by
  unfold findR
  rw [Option.map_eq_none_iff, List.find?_eq_none]
  intro r hr
  have := h r hr
  simp; omega
theorem findR_some {fs : List Int} {N : Nat} {ini post : List (Nat × Nat)} {p k : Nat} (e : runsFrom fs 0 = ini ++ (p, k) :: post) (hi : ∀ r : Nat × Nat, r ∈ ini → (r.2 : Int) < N) (hk : (N : Int) ≤ k) : findR fs N = some p := by
  unfold findR
  rw [e, List.find?_append, List.find?_eq_none.2 (fun r hr => by have := hi r hr; simp; omega), List.find?_cons_of_pos (by simp; omega)]
  rfl
/-- A pool and an arena, apart. -/
structure Env (w : World) (g a b ga ar : Nat) (fs xs : List Int) : Prop where
  pool : ∃ ms, Pool w g a b fs ms ∧ Wf fs ms
  arena : Ar.Own 75 w ga ar xs
  ne : (ga ≠ g ∧ ga ≠ a ∧ ga ≠ b) ∧ ar ≠ g ∧ ar ≠ a ∧ ar ≠ b
section
variable {w w' : World} {g a b ga ar : Nat} {fs xs : List Int}
theorem Env.keepB (h : Env w g a b ga ar fs xs) (m : Below w.heap.size w w') : Env w' g a b ga ar fs xs := by
  obtain ⟨ms, P, W⟩ := h.pool
  exact ⟨⟨ms, P.keepB m, W⟩, h.arena.keepB m, h.ne⟩
theorem Env.keepP {K : Nat → Prop} (h : Env w g a b ga ar fs xs) (m : ModP K w w') (hd : ¬ K g ∧ ¬ K a ∧ ¬ K b ∧ ¬ K ga ∧ ¬ K ar) : Env w' g a b ga ar fs xs := by
  obtain ⟨ms, P, W⟩ := h.pool
  have e : ∀ k, k < w.heap.size → ¬ K k → w'.heap[k]? = w.heap[k]? := m.block
  exact ⟨⟨ms, ⟨(e g (Kit.lt_of P.obj) hd.1).trans P.obj, (e a (Kit.lt_of P.one) hd.2.1).trans P.one, (e b (Kit.lt_of P.two) hd.2.2.1).trans P.two, P.ne, P.len, P.small⟩, W⟩,
    ⟨(e ga (Kit.lt_of h.arena.obj) hd.2.2.2.1).trans h.arena.obj, (e ar (Kit.lt_of h.arena.row) hd.2.2.2.2).trans h.arena.row, h.arena.small, h.arena.rng⟩, h.ne⟩
theorem Env.small (h : Env w g a b ga ar fs xs) : 1 ≤ fs.length ∧ fs.length ≤ 4096 := by
  obtain ⟨ms, P, W⟩ := h.pool
  exact P.small
end
def takeF (fs : List Int) (words : Nat) (σ : Sq) (N : Nat) : Option (Nat × List Int × Sq) :=
  match findR fs N with
  | none => none
  | some p => if p + N ≤ words / 64 then some (p, fill fs p N p, { σ with groups := σ.groups ++ [p], blocks := σ.blocks + N }) else none
/-- Blocks of a space are none of the pool's or the arena's. -/
def Dj (K : Nat → Prop) (g a b ga ar : Nat) : Prop := ¬ K g ∧ ¬ K a ∧ ¬ K b ∧ ¬ K ga ∧ ¬ K ar
/-- What take leaves. -/
inductive Took (w : World) (s g a b ga ar m B : Nat) (K : Nat → Prop) (va vm : Value) (fs xs : List Int) (σ : Sq) (N : Nat) : Ending → World → Prop
  | no {w' : World} {vg : Value} (h : takeF fs xs.length σ N = none) (S : Sv w' s g ga m B K vg va vm σ) (E : Env w' g a b ga ar fs xs) (M : ModP (fun k => k = a ∨ k = b) w w') : Took w s g a b ga ar m B K va vm fs xs σ N (.returned (.tuple #[.int .i64 0, .int .i64 5])) w'
  | yes {w' : World} {p : Nat} {fs' : List Int} {σ' : Sq} {vg : Value} {K' : Nat → Prop} (h : takeF fs xs.length σ N = some (p, fs', σ')) (hp : p + N ≤ xs.length / 64 ∧ p + N ≤ fs.length) (S : Sv w' s g ga m B K' vg va vm σ') (E : Env w' g a b ga ar fs' xs) (hk : ∀ k, K' k → K k ∨ w.heap.size ≤ k) (hk2 : ∀ k, K k → K' k)
      (M : ModP (fun k => K k ∨ k = a ∨ k = b) w w') : Took w s g a b ga ar m B K va vm fs xs σ N (.returned (.tuple #[.int .i64 ((64 * p : Nat) : Int), .int .i64 0])) w'
set_option maxHeartbeats 4000000 in
set_option maxRecDepth 100000 in
theorem take_it (w : World) (s g a b ga ar m B : Nat) (K : Nat → Prop) (vg va vm : Value) (fs xs : List Int) (σ : Sq) (N : Nat) (S : Sv w s g ga m B K vg va vm σ) (E : Env w g a b ga ar fs xs) (D : Dj K g a b ga ar) (h1 : 1 ≤ N) (h2 : N ≤ 64) (hl : σ.groups.length + 1 ≤ 1000000) (hb : σ.blocks ≤ 1000000000) :
    Calls Try.prog 28 #[.pointer (some ⟨s, 0, none⟩), .int .i64 N] w (Took w s g a b ga ar m B K va vm fs xs σ N) := by
  obtain ⟨ms, P, WF⟩ := E.pool
  have AL := Lib.hid (Al.alloc_all w g a b fs ms N WF P h1 (by omega))
  obtain ⟨⟨c0, _, _, _, _⟩, _⟩ := S.cells
  have HS := Lib.hid S
  have HE := Lib.hid E
  have HP := Lib.hid P
  have HW := Lib.hid WF
  have HD := Lib.hid D
  have hs := P.small
  have hx := E.arena.small
  clear S E P WF D
  go_enter Try.func28, Try.ntmps28
  go_wp2_with fail
  refine AL.out.mono ?_
  rintro e w1 (⟨rfl, hno, b1⟩ | ⟨ini, p, k, post, hr, hi, hk, rfl, P1, m1⟩)
  · have F := Lib.hid (findR_none hno)
    have T1 := Lib.hid (show Sv w1 s g ga m B K vg va vm σ ∧ Env w1 g a b ga ar fs xs ∧ ModP (fun k => k = a ∨ k = b) w w1 from ⟨HS.out.keepB b1, HE.out.keepB b1, ModP.of_below b1⟩)
    clear hno b1 AL
    go_wp2_with fail
    go_ret2
    exact Took.no (by unfold takeF; rw [F.out]) T1.out.1 T1.out.2.1 T1.out.2.2
  · have F := Lib.hid (findR_some hr hi hk)
    obtain ⟨WF1, hp, hneg⟩ := wf_alloc_run HW.out HP.out.len hr h1 (by omega : N ≤ k)
    have M1 := Lib.hid (show ModP (fun k => k = a ∨ k = b) w w1 from ModP.of_mod m1 (fun k hk => by simpa using hk))
    have S1 := Lib.hid (HS.out.keepP M1.out (fun k hk c => by rcases c with rfl | rfl; exact HD.out.2.1 hk; exact HD.out.2.2.1 hk))
    have A1 := Lib.hid (show Ar.Own 75 w1 ga ar xs from HE.out.arena.keep m1 (by have := HE.out.ne; simp; omega) (by have := HE.out.ne; simp; omega))
    have LEN := Lib.hid (Ar.len_any w1 ga ar xs A1.out)
    obtain ⟨⟨d0, d1, d2, d3, _⟩, _⟩ := S1.out.cells
    have HP1 := Lib.hid P1
    have HW1 := Lib.hid WF1
    have HN := Lib.hid hneg
    have s1 : IntKind.i64.wrap ((p : Int) + N) = (p : Int) + N := IntWalk.i64_in _ (by omega)
    clear hr hi hk P1 m1 WF1 hneg AL c0
    by_cases hle : p + N ≤ xs.length / 64
    · have q1 : decide ((xs.length : Int) / 64 < (p : Int) + N) = false := decide_eq_false (by omega)
      obtain ⟨v', w2, hr2, ⟨pa, pc, ev⟩, cv, fv, K1, SP, hK1, hK2, MP⟩ := S1.out.push p hl
      subst ev
      have HR2 := Lib.hid hr2
      have HSP := Lib.hid SP
      have HMP := Lib.hid MP
      have HK := Lib.hid (And.intro hK1 hK2)
      obtain ⟨⟨_, _, _, e3, _⟩, _⟩ := SP.cells
      have f3 := SP.frozen 3
      have s2 : IntKind.i64.wrap ((σ.blocks : Int) + N) = (σ.blocks : Int) + N := IntWalk.i64_in _ (by omega)
      have s3 : IntKind.i64.wrap ((p : Int) * 64) = (p : Int) * 64 := IntWalk.i64_in _ (by omega)
      have hsz1 := M1.out.size
      clear hr2 SP MP hK1 hK2 d3
      dsimp only at e3
      go_wp2_with fail
      refine LEN.out.mono ?_
      rintro e w3 ⟨rfl, rfl⟩
      clear LEN
      go_wp2_with (at_builtin; refine Rw.wp_append rfl (.tmp 39) (.tmp 41) 43 _ _ _ rfl rfl rfl HR2.out ?_)
      go_ret2
      have SQ := HSP.out.put 3 (.int .i64 ((σ.blocks : Int) + N)) { σ with groups := σ.groups ++ [p], blocks := σ.blocks + N } (by simp [cells10]) rfl rfl
      have MQ : ModP K w1 _ := HMP.out.setCell (p := ⟨s, 3, none⟩) (.inl HS.out.ks.1) (.int .i64 ((σ.blocks : Int) + N))
      have e64 : (p : Int) * 64 = ((64 * p : Nat) : Int) := by omega
      rw [e64]
      refine Took.yes (by unfold takeF; rw [F.out]; simp only; rw [if_pos hle]) ⟨hle, hp⟩ SQ ?_ (fun k hk => ?_) HK.out.1 ((M1.out.weaken (fun k _ c => .inr c)).trans MQ (fun k _ c => .inl c))
      · have E1 : Env w1 g a b ga ar (fill fs p N p) xs := ⟨⟨_, HP1.out, HW1.out⟩, A1.out, HE.out.ne⟩
        exact E1.keepP MQ HD.out
      · rcases HK.out.2 k hk with c | c
        · exact .inl c
        · right; omega
    · have q1 : decide ((xs.length : Int) / 64 < (p : Int) + N) = true := decide_eq_true (by omega)
      have L1 := fill_length fs p N p hp
      have G1 := fill_get fs p N p hp
      have S2 := set_get ms p
      have FI := Lib.hid (free_it HP1.out p N (by rw [G1, if_pos (by omega)]) (by rw [S2 p _ (by rw [HP.out.len]; omega), if_pos rfl]) (by rw [L1]; omega) h1)
      have WF2 := Lib.hid (wf_free HW1.out (by rw [List.length_set, L1]; exact HP.out.len) p N (by rw [G1, if_pos (by omega)]) (by rw [S2 p _ (by rw [HP.out.len]; omega), if_pos rfl]) h1 (by rw [L1]; omega) (fun j x y => by rw [G1, if_pos ⟨x, y⟩]))
      have BK := fill_back HW.out p N hp HN.out
      rw [BK] at WF2 FI
      clear L1 G1 S2 BK d2 d3
      go_wp2_with fail
      refine LEN.out.mono ?_
      rintro e w3 ⟨rfl, rfl⟩
      clear LEN
      go_wp2_with fail
      refine FI.out.mono ?_
      rintro e w2 ⟨rfl, P2, m2⟩
      have M2 : ModP (fun k => k = a ∨ k = b) w1 w2 := ModP.of_mod m2 (fun k hk => by simpa using hk)
      have T2 := Lib.hid (show Sv w2 s g ga m B K vg va vm σ ∧ Env w2 g a b ga ar fs xs ∧ ModP (fun k => k = a ∨ k = b) w w2 from
        ⟨S1.out.keepP M2 (fun k hk c => by rcases c with rfl | rfl; exact HD.out.2.1 hk; exact HD.out.2.2.1 hk),
          ⟨⟨_, P2, WF2.out⟩, A1.out.keep m2 (by have := HE.out.ne; simp; omega) (by have := HE.out.ne; simp; omega), HE.out.ne⟩, M1.out.trans M2 (fun k _ c => c)⟩)
      clear P2 m2 M2 FI
      go_wp2_with fail
      go_ret2
      exact Took.no (by unfold takeF; rw [F.out]; simp only; rw [if_neg hle]) T2.out.1 T2.out.2.1 T2.out.2.2
end Go.Proofs.Ytladhenjoipfpaa.Tk
