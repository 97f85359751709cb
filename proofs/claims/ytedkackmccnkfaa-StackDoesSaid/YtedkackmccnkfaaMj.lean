/- What Map leaves: pointers turned in order; where frames end; how memory is kept on the way. No condition. -/
import Derived.Test.YtedkackmccnkfaaFy
import Derived.Test.YtedkackmccnkfaaMq
set_option linter.unusedVariables false
set_option linter.unusedSimpArgs false
namespace Go.Proofs.Ytedkackmccnkfaa.Mj
open Go.RowKit
open Fr Fs Ft Ar Sk Pu Pv Fa Po Nw Bk Fz Fy Mq
/-- All pointers, the lowest frame's first. -/
def ptrs (L : List Fm) : List Int := L.flatMap (·.ps)
theorem ptrs_snoc (L : List Fm) (f : Fm) : ptrs (L ++ [f]) = ptrs L ++ f.ps := by simp [ptrs]
theorem ptrs_mid (L1 L2 : List Fm) (f : Fm) : ptrs (L1 ++ f :: L2) = ptrs L1 ++ (f.ps ++ ptrs L2) := by simp [ptrs]
def clip (q : Int) : Int := if 0 ≤ q ∧ q ≤ 524288 then q else 0
theorem clip_bounds (q : Int) : 0 ≤ clip q ∧ clip q ≤ 524288 := by unfold clip; split <;> omega
/-- A frame's pointers, the first k of them turned. -/
def mixP (ps : List Int) (q : Nat → Int) (c k : Nat) : List Int := (List.range ps.length).map fun i => if i < k then clip (q (c + i)) else ps.getD i 0
theorem mixP_length (ps : List Int) (q : Nat → Int) (c k : Nat) : (mixP ps q c k).length = ps.length := by simp [mixP]
theorem mixP_zero (ps : List Int) (q : Nat → Int) (c : Nat) : mixP ps q c 0 = ps := by
  apply List.ext_getElem?
  intro i
  by_cases hi : i < ps.length
  · simp [mixP, hi, List.getD_eq_getElem?_getD]
  · rw [List.getElem?_eq_none (by rw [mixP_length]; omega), List.getElem?_eq_none (by omega)]
theorem mixP_set (ps : List Int) (q : Nat → Int) (c k : Nat) (hk : k < ps.length) : (mixP ps q c k).set k (clip (q (c + k))) = mixP ps q c (k + 1) := by
  apply List.ext_getElem?
  intro i
  by_cases hi : i < ps.length
  · rw [List.getElem?_set, mixP_length]
    by_cases e : k = i
    · subst e; simp [mixP, hi]
    · rw [if_neg e]
      simp only [mixP, List.getElem?_map, List.getElem?_range hi, Option.map_some]
      by_cases h2 : i < k
      · rw [if_pos h2, if_pos (by omega)]
      · rw [if_neg h2, if_neg (by omega)]
  · rw [List.getElem?_eq_none (by rw [List.length_set, mixP_length]; omega), List.getElem?_eq_none (by rw [mixP_length]; omega)]
theorem mixP_get (ps : List Int) (q : Nat → Int) (c k i : Nat) (hi : i < ps.length) : (mixP ps q c k).getD i 0 = if i < k then clip (q (c + i)) else ps.getD i 0 := by
  simp [mixP, List.getD_eq_getElem?_getD, hi]
/-- A frame, the first k of its pointers turned. -/
def refK (q : Nat → Int) (c k : Nat) (f : Fm) : Fm := ⟨f.k, f.a, f.b, mixP f.ps q c k⟩
def refF (q : Nat → Int) (c : Nat) (f : Fm) : Fm := refK q c f.ps.length f
/-- All frames, all pointers turned. -/
def refL (q : Nat → Int) : Nat → List Fm → List Fm
  | _, [] => []
  | c, f :: L => refF q c f :: refL q (c + f.ps.length) L
theorem refL_append (q : Nat → Int) (L1 L2 : List Fm) : ∀ c, refL q c (L1 ++ L2) = refL q c L1 ++ refL q (c + (ptrs L1).length) L2 := by
  induction L1 with
  | nil => intro c; simp [refL, ptrs]
  | cons f L1 ih => intro c; simp [refL, ih, ptrs, Nat.add_assoc]
theorem refL_snoc (q : Nat → Int) (L : List Fm) (f : Fm) : refL q 0 (L ++ [f]) = refL q 0 L ++ [refF q (ptrs L).length f] := by
  rw [refL_append, Nat.zero_add]; rfl
theorem lay_len (L : List Fm) : (lay L).length = (ptrs L).length + L.length := by
  induction L with
  | nil => rfl
  | cons f L ih => simp [lay, ptrs, encF] at ih ⊢; omega
theorem ptrs_refL (q : Nat → Int) (L : List Fm) : ∀ c, (ptrs (refL q c L)).length = (ptrs L).length := by
  induction L with
  | nil => intro c; rfl
  | cons f L ih => intro c; have := ih (c + f.ps.length); simp [refL, ptrs, refF, refK, mixP_length] at this ⊢; omega
theorem refL_length (q : Nat → Int) (L : List Fm) : ∀ c, (refL q c L).length = L.length := by
  induction L with
  | nil => intro c; rfl
  | cons f L ih => intro c; simp [refL, ih]
theorem lay_refL (q : Nat → Int) (L : List Fm) (c : Nat) : (lay (refL q c L)).length = (lay L).length := by
  rw [lay_len, lay_len, ptrs_refL, refL_length]
/-- Where a frame ends. -/
def endOf (e : Int) (l : List Fm) : Int := e - (lay l).length
def endsF (e : Int) (l : List Fm) : List Int := (List.range l.length).map fun i => endOf e (l.take i)
theorem endsF_length (e : Int) (l : List Fm) : (endsF e l).length = l.length := by simp [endsF]
theorem endsF_snoc (e : Int) (l : List Fm) (f : Fm) : endsF e (l ++ [f]) = endsF e l ++ [endOf e l] := by
  unfold endsF
  rw [List.length_append, List.length_singleton, List.range_succ, List.map_append, List.map_singleton, List.take_left]
  congr 1
  refine List.map_congr_left fun i hi => ?_
  rw [List.take_append_of_le_length (by simp at hi; omega)]
theorem endOf_snoc (e : Int) (l : List Fm) (f : Fm) : endOf e (l ++ [f]) = endOf e l - ((f.ps.length : Int) + 1) := by
  unfold endOf; rw [lay_snoc]; simp [encF]; omega
theorem lay_rev (L : List Fm) : (lay L.reverse).length = (lay L).length := by
  induction L with
  | nil => rfl
  | cons f L ih => rw [List.reverse_cons, lay_snoc]; simp [lay] at ih ⊢; omega
theorem ends_at (L1 L2 : List Fm) (f : Fm) : (endsF (lay (L1 ++ f :: L2)).length (L1 ++ f :: L2).reverse).getD L2.length 0 = (lay L1).length + ((f.ps.length : Int) + 1) := by
  have e : (L1 ++ f :: L2).reverse.take L2.length = L2.reverse := by
    rw [List.reverse_append, List.reverse_cons, List.append_assoc, List.take_append_of_le_length (by simp)]
    exact List.take_of_length_le (by simp)
  have hl : L2.length < (L1 ++ f :: L2).reverse.length := by simp only [List.length_reverse, List.length_append, List.length_cons]; omega
  have e2 : (lay (L1 ++ f :: L2)).length = (lay L1).length + (f.ps.length + 1) + (lay L2).length := by simp [lay, encF]; omega
  simp only [endsF, List.getD_eq_getElem?_getD, List.getElem?_map, List.getElem?_range hl, Option.map_some, Option.getD_some, e, endOf, lay_rev, e2]
  omega
theorem lay_bound (l : List Fm) (h : ∀ f, f ∈ l → f.ps.length ≤ 1000) : (lay l).length ≤ l.length * 1001 := by
  induction l with
  | nil => simp [lay]
  | cons f l ih =>
    have h1 := h f (by simp)
    have h2 := ih (fun x hx => h x (by simp [hx]))
    simp only [lay, List.flatMap_cons, List.length_append, encF, List.length_cons, List.length_nil] at h2 ⊢
    have e : (l.length + 1) * 1001 = l.length * 1001 + 1001 := by rw [Nat.add_mul, Nat.one_mul]
    omega
section
variable {w w' : World} {g ga r fr wd : Nat} {xs : List Int} {L1 L2 : List Fm} {f : Fm}
theorem Stk.same (h : Stk w g ga r fr wd xs L1) (hg : w'.heap[g]? = w.heap[g]?) (ha : w'.heap[ga]? = w.heap[ga]?) (hr : w'.heap[r]? = w.heap[r]?) : Stk w' g ga r fr wd xs L1 :=
  ⟨hg.trans h.obj, ⟨ha.trans h.own.obj, hr.trans h.own.row, h.own.small, h.own.rng⟩, h.ne, h.fits, h.words, h.good⟩
theorem good_set {k a b : Int} {ps : List Int} (h : Sk.Good ⟨k, a, b, ps⟩) (j : Nat) (v : Int) (hv : 0 ≤ v ∧ v ≤ 524288) : Sk.Good ⟨k, a, b, ps.set j v⟩ := by
  have hb := (Sk.Good.bounds h).2.2.2.2
  simp only at hb
  have e1 : rangeE ps = 0 := by unfold rangeE; rw [if_pos hb]
  have e2 : rangeE (ps.set j v) = 0 := by
    unfold rangeE
    rw [if_pos (fun p hp => ?_)]
    rcases List.mem_or_eq_of_mem_set hp with h | rfl
    · exact hb p h
    · exact hv
  unfold Sk.Good rightE at h ⊢
  simp only [List.length_set, e2] at h ⊢
  simp only [e1] at h
  exact h
theorem code_set (k a b : Int) (ps : List Int) (j : Nat) (v : Int) : code ⟨k, a, b, ps.set j v⟩ = code ⟨k, a, b, ps⟩ := by simp [code]
theorem lay_set (k a b : Int) (ps : List Int) (j : Nat) (v : Int) (hj : j < ps.length) : lay (L1 ++ ⟨k, a, b, ps.set j v⟩ :: L2) = (lay (L1 ++ ⟨k, a, b, ps⟩ :: L2)).set ((lay L1).length + j) v := by
  have e : ∀ x : Fm, lay (L1 ++ x :: L2) = lay L1 ++ (x.ps ++ (code x :: lay L2)) := fun x => by simp [lay, encF]
  rw [e, e, code_set, List.set_append_right _ _ (by omega), Nat.add_sub_cancel_left, List.set_append_left _ _ hj]
theorem Stk.poke {k a b : Int} {ps : List Int} (h : Stk w g ga r fr wd xs (L1 ++ ⟨k, a, b, ps⟩ :: L2)) (j : Nat) (hj : j < ps.length) (v : Int) (hv : 0 ≤ v ∧ v ≤ 524288) (hg : w'.heap[g]? = w.heap[g]?) (O : Ar.Own 71 w' ga r (xs.set (fr + (lay L1).length + j) v)) :
    Stk w' g ga r fr wd (xs.set (fr + (lay L1).length + j) v) (L1 ++ ⟨k, a, b, ps.set j v⟩ :: L2) := by
  have e := lay_set (L1 := L1) (L2 := L2) k a b ps j v hj
  have el : (lay (L1 ++ ⟨k, a, b, ps.set j v⟩ :: L2)).length = (lay (L1 ++ ⟨k, a, b, ps⟩ :: L2)).length := by rw [e, List.length_set]
  have en : (L1 ++ (⟨k, a, b, ps.set j v⟩ : Fm) :: L2).length = (L1 ++ (⟨k, a, b, ps⟩ : Fm) :: L2).length := by simp
  refine ⟨by rw [el, en]; exact hg.trans h.obj, O, h.ne, by rw [el, List.length_set]; exact h.fits, fun i hi => ?_, fun x hx => ?_⟩
  · rw [el] at hi
    have h1 := h.words i hi
    have h2 := h.fits
    rw [e]
    simp only [List.getD_eq_getElem?_getD, List.getElem?_set] at h1 ⊢
    by_cases c : (lay L1).length + j = i
    · subst c
      rw [if_pos (by omega), if_pos (by omega), if_pos rfl, if_pos hi]
    · rw [if_neg (by omega), if_neg c]
      exact h1
  · rcases List.mem_append.1 hx with hx | hx
    · exact h.good x (by simp [hx])
    · rcases List.mem_cons.1 hx with rfl | hx
      · exact good_set (h.good _ (by simp)) j v hv
      · exact h.good x (by simp [hx])
end
/-- A function that is given pointers one by one: what it tells, and what it keeps of its own (the blocks C). -/
structure FSpec (fN : Nat) (u : Value) (J : Nat → (Nat → Prop) → World → Prop) (ps : List Int) (q : Nat → Int) : Prop where
  eg : ∀ args w, (callFunc fN args).run Try.prog w = .ok (.enter fN args) w
  low : ∀ {k C w}, J k C w → ∀ c, C c → c < w.heap.size
  keep : ∀ {k : Nat} {C : Nat → Prop} {w w' : World}, J k C w → w.heap.size ≤ w'.heap.size → (∀ c, C c → w'.heap[c]? = w.heap[c]?) → J k C w'
  call : ∀ {k C w}, J k C w → k < ps.length → Calls Try.prog fN #[.int .i64 (ps.getD k 0), u] w fun e w' => e = .returned (.int .i64 (q k)) ∧ ∃ C', J (k + 1) C' w' ∧ (∀ c, C' c → C c ∨ w.heap.size ≤ c) ∧ ModP C w w'
/-- Where Map stands: the stack, what stays (the blocks S, as they were in V), what the function keeps. -/
structure Ms (J : Nat → (Nat → Prop) → World → Prop) (C0 : Nat → Prop) (W V wr : World) (S : Nat → Prop) (g ga r fr wd : Nat) (xs : List Int) (L : List Fm) (k : Nat) : Prop where
  stk : Stk wr g ga r fr wd xs L
  fix : ∀ b, S b → wr.heap[b]? = V.heap[b]? ∧ b < wr.heap.size ∧ b ≠ r
  sg : S g ∧ S ga
  st : ∃ C, J k C wr ∧ (∀ c, C c → C0 c ∨ W.heap.size ≤ c) ∧ ¬ C r ∧ ∀ b, S b → ¬ C b
  mod : ModP (fun b => b = r ∨ C0 b) W wr
section
variable {J : Nat → (Nat → Prop) → World → Prop} {C0 : Nat → Prop} {W V V' wr w' : World} {S S' : Nat → Prop} {g ga r fr wd : Nat} {xs : List Int} {L : List Fm} {k : Nat} {fN : Nat} {u : Value} {ps : List Int} {q : Nat → Int}
theorem Ms.step (F : FSpec fN u J ps q) (h : Ms J C0 W V wr S g ga r fr wd xs L k) (m : Below wr.heap.size wr w') (hS : ∀ b, S' b → S b ∨ (wr.heap.size ≤ b ∧ b < w'.heap.size)) (sg : S' g ∧ S' ga) : Ms J C0 W w' w' S' g ga r fr wd xs L k := by
  have hr := Kit.lt_of h.stk.own.row
  obtain ⟨C, hJ, h1, h2, h3⟩ := h.st
  have hlow := F.low hJ
  refine ⟨Pu.Stk.keepB h.stk m, fun b hb => ⟨rfl, ?_, ?_⟩, sg, ⟨C, F.keep hJ m.size (fun c hc => m.block c (hlow c hc)), h1, h2, fun b hb hc => ?_⟩, h.mod.trans (ModP.of_below (K := fun _ => False) m) (fun _ _ c => c.elim)⟩
  · rcases hS b hb with hb | hb
    · exact Nat.lt_of_lt_of_le (h.fix b hb).2.1 m.size
    · exact hb.2
  · rcases hS b hb with hb | hb
    · exact (h.fix b hb).2.2
    · omega
  · rcases hS b hb with hb | hb
    · exact h3 b hb hc
    · have := hlow b hc; omega
theorem Ms.stepB (F : FSpec fN u J ps q) (h : Ms J C0 W V wr S g ga r fr wd xs L k) (m : Below wr.heap.size wr w') : Ms J C0 W V w' S g ga r fr wd xs L k := by
  have k2 := Ms.step F h m (fun b hb => .inl hb) h.sg
  exact ⟨k2.stk, fun b hb => ⟨(m.block b (h.fix b hb).2.1).trans (h.fix b hb).1, (k2.fix b hb).2⟩, h.sg, k2.st, k2.mod⟩
theorem Ms.back (h : Ms J C0 W V' wr S' g ga r fr wd xs L k) (hS : ∀ b, S b → S' b ∧ V'.heap[b]? = V.heap[b]?) (sg : S g ∧ S ga) : Ms J C0 W V wr S g ga r fr wd xs L k := by
  obtain ⟨C, hJ, h1, h2, h3⟩ := h.st
  exact ⟨h.stk, fun b hb => ⟨(h.fix b (hS b hb).1).1.trans (hS b hb).2, (h.fix b (hS b hb).1).2⟩, sg, ⟨C, hJ, h1, h2, fun b hb => h3 b (hS b hb).1⟩, h.mod⟩
theorem Ms.call (F : FSpec fN u J ps q) (h : Ms J C0 W V wr S g ga r fr wd xs L k) (hk : k < ps.length) : Calls Try.prog fN #[.int .i64 (ps.getD k 0), u] wr fun e w' => e = .returned (.int .i64 (q k)) ∧ Ms J C0 W V w' S g ga r fr wd xs L (k + 1) := by
  obtain ⟨C, hJ, h1, h2, h3⟩ := h.st
  have hg := Kit.lt_of h.stk.obj
  have ha := Kit.lt_of h.stk.own.obj
  have hr := Kit.lt_of h.stk.own.row
  refine (F.call hJ hk).mono ?_
  rintro e w' ⟨rfl, C', hJ', hC, m⟩
  refine ⟨rfl, Stk.same h.stk (m.block g hg (h3 g h.sg.1)) (m.block ga ha (h3 ga h.sg.2)) (m.block r hr h2), fun b hb => ⟨(m.block b (h.fix b hb).2.1 (h3 b hb)).trans (h.fix b hb).1, Nat.lt_of_lt_of_le (h.fix b hb).2.1 m.size, (h.fix b hb).2.2⟩, h.sg, ⟨C', hJ', fun c hc => ?_, fun hc => ?_, fun b hb hc => ?_⟩, h.mod.trans m (fun c hc hcc => ?_)⟩
  · rcases hC c hc with hc | hc
    · exact h1 c hc
    · right; have := h.mod.size; omega
  · rcases hC r hc with hc | hc
    · exact h2 hc
    · omega
  · rcases hC b hc with hc | hc
    · exact h3 b hb hc
    · have := (h.fix b hb).2.1; omega
  · rcases h1 c hcc with h | h
    · exact .inr h
    · omega
theorem Ms.poke (F : FSpec fN u J ps q) {L1 L2 : List Fm} {a b c : Int} {pp : List Int} (h : Ms J C0 W V wr S g ga r fr wd xs (L1 ++ ⟨a, b, c, pp⟩ :: L2) k) (j : Nat) (hj : j < pp.length) (v : Int) (hv : 0 ≤ v ∧ v ≤ 524288) (m : Kit.Mod [r] wr w') (O : Ar.Own 71 w' ga r (xs.set (fr + (lay L1).length + j) v)) :
    Ms J C0 W V w' S g ga r fr wd (xs.set (fr + (lay L1).length + j) v) (L1 ++ ⟨a, b, c, pp.set j v⟩ :: L2) k := by
  obtain ⟨C, hJ, h1, h2, h3⟩ := h.st
  have ne : ∀ x, x ≠ r → x ∉ [r] := fun x hx hm => by simp at hm; exact hx hm
  have hg := m.block g (Kit.lt_of h.stk.obj) (ne g h.stk.ne.2.1)
  refine ⟨Stk.poke h.stk j hj v hv hg O, fun b hb => ⟨(m.block b (h.fix b hb).2.1 (ne b (h.fix b hb).2.2)).trans (h.fix b hb).1, Nat.lt_of_lt_of_le (h.fix b hb).2.1 m.size, (h.fix b hb).2.2⟩, h.sg, ⟨C, F.keep hJ m.size (fun c hc => m.block c (F.low hJ c hc) (ne c (fun e => h2 (e ▸ hc)))), h1, h2, h3⟩, h.mod.trans (ModP.of_mod (K := fun b => b = r) m (by simp)) (fun _ _ c => .inl c)⟩
end
end Go.Proofs.Ytedkackmccnkfaa.Mj
