/- Map: every pointer is turned, from the lowest frame up. No condition. -/
import Derived.Test.YtedkackmccnkfaaMj
import Derived.Deep.RegionHeld3
import Derived.Outline
set_option linter.unusedVariables false
set_option linter.unusedSimpArgs false
namespace Go.Proofs.Ytedkackmccnkfaa.Mk
open Go.RowKit Go.Shelf
open Fr Fs Ft Ar Sk Pu Pv Fa Po Nw Bk Fz Fy Mq Mj
attribute [local go_sem] Oper.semAt_some
theorem hnilF (f : Fn) (a b : Array Value) (w : World) : Sem.run Try.prog (binOp BinOp.eql 59 (.func f a b) .nilFunc) w = .ok (.bool false) w := by kernel_rfl
/-- The gathered frames stay, where the blocks that lay at a time stay. -/
theorem Rws.agree {B M p : Nat} {v : Value} {inn : List In} {V W W' : World} (T : Rws B M p V v inn) (h : Rws B M p W v inn) (hMB : M ≤ B) (hMp : M ≤ p) (hs : B ≤ W'.heap.size) (hk : ∀ k, M ≤ k → k < V.heap.size → W'.heap[k]? = W.heap[k]?) : Rws B M p W' v inn := by
  have own : ∀ {e : TypeId} {k b : Nat} {u : Value} {n : Nat} {ys : List Value}, M ≤ b → V.ownsRow b e k u n ys → W.ownsRow b e k u n ys → W'.ownsRow b e k u n ys := fun {e k b u n ys} hb h0 h1 => by
    refine ⟨h1.1, ?_⟩
    rcases h1.2 with h2 | ⟨g, cap, cur, rfl, h3, h4, h5⟩
    · exact .inl h2
    · have := h0.lt g rfl
      exact .inr ⟨g, cap, cur, rfl, h3, (hk g (by omega) this.2).trans h4, h5⟩
  exact ⟨(hk p hMp (Kit.lt_of T.box)).trans h.box, own hMB T.own h.own, fun x hx => ⟨own (Nat.le_refl _) (T.sls x hx).1 (h.sls x hx).1, (h.sls x hx).2⟩, hs⟩
/-- Where the gathering of ends stands. -/
structure Ip (w V : World) (e : Int) (pre : List FI) (W : World) (ve : Value) : Prop where
  bel : Below w.heap.size w W
  box : W.heap[w.heap.size]? = some (.cells #[ve] 22 (0, 0))
  own : W.ownsRow V.heap.size 3 1 ve pre.length (ints (endsF e (pre.map (·.1.1))))
  endb : W.heap[w.heap.size + 1]? = some (.cells #[.int .i64 (endOf e (pre.map (·.1.1)))] 3 (0, 0))
  siz : V.heap.size ≤ W.heap.size
theorem Ip.other {w V : World} {e : Int} {pre : List FI} {W W' : World} {ve : Value} {row : Option Nat} (h : Ip w V e pre W ve) (hV : w.heap.size ≤ V.heap.size) (hg : W.grownBy W' row) (hr : ∀ k, row = some k → V.heap.size ≤ k ∧ ∃ o : Obj, W.heap[k]? = some o ∧ o.isCells = false) : Ip w V e pre W' ve :=
  ⟨h.bel.trans ⟨hg.os, hg.tape, hg.output, hg.size, fun k hk => hg.block k (Nat.lt_of_lt_of_le hk h.bel.size) (fun e => by have := (hr k e.symm).1; omega)⟩,
    blk_other h.box hg (fun k e => (hr k e).2), own_other h.own hg (fun k e => (hr k e).2), blk_other h.endb hg (fun k e => (hr k e).2), Nat.le_trans h.siz hg.size⟩
theorem ints_snoc (l : List Int) (x : Int) : ints (l ++ [x]) = ints l ++ [.int .i64 x] := by simp [ints]
theorem map_snoc (pre : List FI) (x : FI) : (pre ++ [x]).map (·.1.1) = pre.map (·.1.1) ++ [x.1.1] := by simp
theorem lay_pre (pre : List FI) : (lay (pre.map (·.1.1))).length ≤ pre.length * 1001 := by
  have := lay_bound (pre.map (·.1.1)) (fun f hf => by
    rw [List.mem_map] at hf
    obtain ⟨x, _, rfl⟩ := hf
    exact x.2)
  simpa using this
/-- One end more. -/
theorem Ip.next {w V : World} {e : Int} {pre : List FI} {W w5 : World} {ve v' : Value} {x : FI} {E : Int} (h : Ip w V e pre W ve) (hV : w.heap.size + 2 ≤ V.heap.size) (hE : endOf e (pre.map (·.1.1)) = E) (ho : w5.ownsRow V.heap.size 3 1 v' (pre.length + 1) (ints (endsF e (pre.map (·.1.1))) ++ [.int .i64 E])) (hg : (W.alloc (.cells #[.int .i64 E] 3)).grownBy w5 ve.ownBlock) :
    (w5.heap[w.heap.size]? = some (.cells #[ve] 22 (0, 0)) ∧ w5.heap[w.heap.size + 1]? = some (.cells #[.int .i64 E] 3 (0, 0))) ∧ Ip w V e (pre ++ [x]) ((w5.setCell ⟨w.heap.size, 0, none⟩ v').setCell ⟨w.heap.size + 1, 0, none⟩ (.int .i64 (E - ((x.1.1.ps.length : Int) + 1)))) v' ∧ KeepsOthers W ((w5.setCell ⟨w.heap.size, 0, none⟩ v').setCell ⟨w.heap.size + 1, 0, none⟩ (.int .i64 (E - ((x.1.1.ps.length : Int) + 1)))) ∧
    (∀ k, w.heap.size + 2 ≤ k → k < V.heap.size → ((w5.setCell ⟨w.heap.size, 0, none⟩ v').setCell ⟨w.heap.size + 1, 0, none⟩ (.int .i64 (E - ((x.1.1.ps.length : Int) + 1)))).heap[k]? = W.heap[k]?) ∧ V.heap.size ≤ w5.heap.size := by
  have hsz := h.siz
  have row := fun q hq => (h.own.lt q hq).1
  have a1 : (W.alloc (.cells #[.int .i64 E] 3)).heap.size = W.heap.size + 1 := by simp
  have k5 : ∀ k, k < V.heap.size → w5.heap[k]? = W.heap[k]? := fun k hk => (hg.block k (by omega) (fun e => by have := row k e.symm; omega)).trans (Below.heap_alloc W _ k (by omega))
  have b5 := (k5 w.heap.size (by omega)).trans h.box
  have e5 := (k5 (w.heap.size + 1) (by omega)).trans h.endb
  rw [hE] at e5
  have s5 := hg.size
  have gr : ∀ (W : World) (p : Nat) (u : Value), W.grownBy (W.setCell ⟨p, 0, none⟩ u) (some p) := fun W p u => ⟨rfl, rfl, rfl, by simp [World.setCell], fun k hk hne => Below.heap_setCell W _ _ k (fun e => hne (by simp [e]))⟩
  have far : ∀ {W : World} {p : Nat} {u : Value}, p < V.heap.size → ∀ {ys}, W.ownsRow V.heap.size 3 1 v' (pre.length + 1) ys → (W.setCell ⟨p, 0, none⟩ u).ownsRow V.heap.size 3 1 v' (pre.length + 1) ys := fun {W p u} hp {ys} hu => hu.kept (gr _ _ _) (by
    cases hb : v'.ownBlock with
    | none => exact .inl rfl
    | some q => right; have := (hu.lt q hb).1; simp; omega)
  have kk : ∀ k, k ≠ w.heap.size → k ≠ w.heap.size + 1 → ((w5.setCell ⟨w.heap.size, 0, none⟩ v').setCell ⟨w.heap.size + 1, 0, none⟩ (.int .i64 (E - ((x.1.1.ps.length : Int) + 1)))).heap[k]? = w5.heap[k]? := fun k h1 h2 =>
    (Below.heap_setCell _ _ _ k (by simpa using h2)).trans (Below.heap_setCell _ _ _ k (by simpa using h1))
  refine ⟨⟨b5, e5⟩, ⟨?_, ?_, ?_, ?_, ?_⟩, ?_, ?_, ?_⟩
  · have B5 : Below w.heap.size w w5 := ((h.bel.alloc h.bel.size _).grown hg (by simp; omega) (fun q hq => by have := row q hq; omega))
    exact (B5.setCell (p := ⟨w.heap.size, 0, none⟩) (Nat.le_refl _) _).setCell (p := ⟨w.heap.size + 1, 0, none⟩) (by simp) _
  · exact Kit.set_far (by rw [Kit.set_blk b5]; rfl) (by simp) _
  · rw [map_snoc, endsF_snoc, hE, ints_snoc, List.length_append, List.length_singleton]
    exact far (by omega) (far (by omega) ho)
  · rw [map_snoc, endOf_snoc, hE]
    rw [Kit.set_blk (Kit.set_far e5 (by simp) _)]
    rfl
  · simp [World.setCell]; omega
  · refine (((KeepsOthers.alloc W _).trans (KeepsOthers.of_grownBy hg (fun j o hj hjo => ?_))).trans (KeepsOthers.setCell _ _ _)).trans (KeepsOthers.setCell _ _ _)
    rcases (h.own.alloc (.cells #[.int .i64 E] 3)).2 with ⟨e, _⟩ | ⟨g, cap, cur, e, hb, hg', _⟩
    · rw [e] at hj; cases hj
    · rw [e] at hj; cases hj; rw [hg'] at hjo; cases hjo; rfl
  · exact fun k h1 h2 => (kk k (by omega) (by omega)).trans (k5 k h2)
  · omega
theorem row_cell {w : World} {B n ca : Nat} {aa : Option Addr} {es : List Int} (h : w.ownsRow B 3 1 (.slice aa n ca) n (ints es)) (i : Nat) (hi : i < es.length) : ∃ qb, aa = some ⟨qb, 0, none⟩ ∧ n ≤ ca ∧ ca ≤ maxLen ∧ ∀ w' : World, w'.heap[qb]? = w.heap[qb]? → w'.cell? ⟨qb, i, none⟩ = some (.int .i64 (es.getD i 0)) := by
  have hl : es.length = n := by have := h.1; simpa [ints] using this
  rcases h.2 with ⟨e, e0⟩ | ⟨g, cap, cur, e, hb, hg, hc, hm, _⟩
  · omega
  · simp only [Value.slice.injEq] at e
    obtain ⟨rfl, -, rfl⟩ := e
    refine ⟨g, rfl, hc, hm, fun w' hw' => ?_⟩
    have := h.cells (g := g) rfl i _ (ints_get es i hi)
    rw [Addr.add_lit, Nat.zero_add] at this
    exact (World.cell?_of_block (w := w) (a := ⟨g, i, none⟩) hw').trans this
section
variable {J : Nat → (Nat → Prop) → World → Prop} {C0 : Nat → Prop} {w : World} {g ga r fr wd : Nat} {xs : List Int} {L : List Fm} {fN : Nat} {u : Value} {q : Nat → Int}
set_option maxRecDepth 100000 in
set_option maxHeartbeats 4000000 in
theorem map_it (F : FSpec fN u J (ptrs L) q) (K : Stk w g ga r fr wd xs L) (hw : wd ≤ 65536) (hJ : J 0 C0 w) (hC : ¬ C0 g ∧ ¬ C0 ga ∧ ¬ C0 r) :
    Calls Try.prog 24 #[.pointer (some ⟨g, 0, none⟩), .func (.func fN) #[] #[u]] w fun e w' => e = .returned (.tuple #[]) ∧ ∃ xs' C', Stk w' g ga r fr wd xs' (refL q 0 L) ∧ xs'.length = xs.length ∧ J (ptrs L).length C' w' ∧ (∀ c, C' c → C0 c ∨ w.heap.size ≤ c) ∧ (¬ C' g ∧ ¬ C' ga ∧ ¬ C' r) ∧ ModP (fun b => b = r ∨ C0 b) w w' := by
  have hnf := hnilF
  obtain ⟨i0, hi, hz0, hz1, hz2⟩ := info_parts infoI
  have hfit := K.fits
  have cs := Stk.cells (Pu.Stk.keepB K (Kit.allocB (Below.refl w.heap.size w) (.cells #[.slice none 0 0] 22)))
  obtain ⟨V0, hV0⟩ : ∃ V0, V0 = (w.alloc (.cells #[.slice none 0 0] 22)).alloc (.cells #[.int .i64 (lay L).length] 3) := ⟨_, rfl⟩
  have b0 : Below w.heap.size w V0 := by rw [hV0]; exact Kit.allocB (Kit.allocB (Below.refl _ _) _) _
  have s0 : V0.heap.size = w.heap.size + 2 := by rw [hV0]; simp
  have k0 : V0.heap[w.heap.size]? = some (.cells #[.slice none 0 0] 22 (0, 0)) := by rw [hV0]; exact Kit.keep_alloc (Kit.new_blk w _) _
  have k1 : V0.heap[w.heap.size + 1]? = some (.cells #[.int .i64 (lay L).length] 3 (0, 0)) := by rw [hV0]; exact Kit.new_blk2 w _ _
  have FI := frames_it (Pu.Stk.keepB K b0) hw
  rw [s0] at FI
  have FI := Lib.hid FI
  have HV0 := Lib.hid hV0
  have HK := Lib.hid K
  have HJ := Lib.hid hJ
  have HC := Lib.hid hC
  have HF := Lib.hid F
  have K0 := Lib.hid k0
  have K1 := Lib.hid k1
  have B0 := Lib.hid b0
  rename_i FI2
  clear K hJ hC F FI2 hV0 k0 k1 b0
  refine (callsIn_wide (n := 6)).1 ?_
  refine callsIn_of_wp_marks Try.func24 rfl trivial ?_ rfl
  simp only [Try.ntmps24, List.size_toArray, List.length_cons, List.length_nil, Nat.reduceAdd, Nat.reduceSub, Array.replicate_succ, Array.replicate_zero, List.push_toArray, List.append_toArray, List.nil_append, List.cons_append]
  gi_wp2
  refine ⟨trivial, ?_⟩
  rw [← HV0.out]
  refine (callsIn_wide.2 FI.out).mono ?_
  rintro e V ⟨v, inn, rfl, R, hm, bV⟩
  gi_wp2
  have hin : inn.length ≤ 65536 := by
    have h1 := congrArg List.length hm
    have h2 := lay_ge L
    simp at h1; omega
  have hVs := bV.size
  rw [← s0] at bV
  have BV := Lib.hid (B0.out.trans (bV.mono (by omega)))
  have HM := Lib.hid hm
  have HR := Lib.hid R
  have kV0 := (bV.block w.heap.size (by omega)).trans K0.out
  have kV1 := (bV.block (w.heap.size + 1) (by omega)).trans K1.out
  have I0 : Ip w V (lay L).length [] V (.slice none 0 0) := ⟨BV.out, kV0, World.ownsRow_nil _ _ _ _, by rw [kV1]; simp [endOf, lay], Nat.le_refl _⟩
  clear hm R bV kV0 kV1 K0 K1 HV0 B0 FI cs
  refine wpIn_rangeFunc_ownH rfl (by decide) (gf := 42) (lb := #[.pointer (some ⟨w.heap.size + 2, 0, none⟩)]) rfl trivial (enters_of Try.func42 (by kernel_rfl) rfl)
    (iter_stops 5 (by decide) hin V HR.out) gk_t (fun W l o o' _ hl ho _ => gk_b o' hl ho) (Below.refl _ _) (fun _ => rfl)
    (fun pre W => ∃ ve, Ip w V (lay L).length pre W ve)
    (fun c pre W => False)
    ?hI ?hIx ⟨_, I0⟩
    (fun x a' W => ∃ b, V.heap.size ≤ b ∧ W.heap[b]? = some (.cells #[.int .i64 x.1.1.k, .int .i64 x.1.1.a, .int .i64 x.1.1.b, .slice x.1.2.1 x.1.1.ps.length x.1.2.2] 24 (0, 0)) ∧ a' = { tmps := #[.pointer (some ⟨g, 0, none⟩), .func (.func fN) #[] #[u], undef, undef, .pointer (some ⟨w.heap.size, 0, none⟩), .pointer (some ⟨w.heap.size + 1, 0, none⟩), .pointer (some ⟨b, 0, none⟩), undef, undef, undef, undef, undef, .pointer (some ⟨g, 0, none⟩), .bool false, .bool false, .func (.func fN) #[] #[u], .bool false, .bool false, .pointer (some ⟨g, 0, none⟩), .pointer (some ⟨g, 0, none⟩), .pointer (some ⟨g, 3, none⟩), .int .i64 (lay L).length, .pointer (some ⟨g, 0, none⟩), .func (.func 42) #[] #[.pointer (some ⟨w.heap.size + 2, 0, none⟩)], valI x.1, undef, undef, undef, undef, undef, undef, undef, undef, undef, undef, undef, undef, undef, undef, undef, undef, undef, undef, undef, undef, undef, undef, undef, undef, undef, undef, undef, undef, undef, undef, undef, undef, undef, undef, undef, undef, undef, undef, undef, undef, undef, undef, undef, undef, undef, undef, undef, undef, undef, undef, undef, undef, undef, undef, undef, undef, undef, undef, undef, undef, undef], defers := [] })
    ?hAx ?assign ?body ?done ?stop
  case hI =>
    rintro s W W' row ⟨ve, h⟩ hg hr
    exact ⟨ve, h.other (by omega) hg hr⟩
  case hIx => exact fun c s W W' row hs _ _ => hs
  case hAx =>
    rintro x a' _ W W' row ⟨b, h1, h2, h3⟩ hg hr
    exact ⟨b, h1, blk_other h2 hg (fun k e => (hr k e).2), h3⟩
  case assign =>
    rintro l pre x W K ⟨ve, h⟩ hK
    obtain ⟨⟨⟨k, a, b, ps⟩, p, c⟩, hx⟩ := x
    dsimp only [encI, valI]
    gi_wp2
    refine hK _ _ ((KeepsOthers.alloc W _).from _) (fun T => T.other (World.grownBy_alloc W _ none) (fun _ e => by cases e)) ⟨ve, h.other (by omega) (World.grownBy_alloc W _ none) (fun _ e => by cases e)⟩ ⟨W.heap.size, h.siz, Kit.new_blk _ _, rfl⟩
  case body =>
    rintro l pre x a' W - - ⟨ve, h⟩ ⟨xb, hxb, hxc, rfl⟩ hlen
    have hpre := lay_pre pre
    have hp2 : pre.length * 1001 ≤ 65536 * 1001 := Nat.mul_le_mul_right _ (by omega)
    have hx2 := x.2
    obtain ⟨aa, ca, rfl⟩ := shape_of h.own
    have c1 := Kit.cells1 h.box
    have c2 := Kit.cells1 h.endb
    have O1 := Lib.hid h.own
    have hE : ∃ E, endOf ((lay L).length : Nat) (pre.map (·.1.1)) = E ∧ -70000000 ≤ E ∧ E ≤ 70000000 := ⟨_, rfl, by unfold endOf; omega, by unfold endOf; omega⟩
    obtain ⟨E, hE, hE1, hE2⟩ := hE
    rw [hE] at c2
    have NX : Hid (∀ v' w5, w5.ownsRow V.heap.size 3 1 v' (pre.length + 1) (ints (endsF ((lay L).length : Nat) (pre.map (·.1.1))) ++ [.int .i64 E]) → (W.alloc (.cells #[.int .i64 E] 3)).grownBy w5 (Value.slice aa pre.length ca).ownBlock → _) := fun v' w5 ho hg => h.next (x := x) (by omega) hE ho hg
    have hsz := h.siz
    have HXC := Lib.hid hxc
    have hxs := Kit.lt_of hxc
    have GKW : Hid (∀ W' : World, V.heap.size ≤ W'.heap.size → (∀ k, w.heap.size + 2 ≤ k → k < V.heap.size → W'.heap[k]? = W.heap[k]?) → GK (w.heap.size + 2) (w.heap.size + 2) (w.heap.size + 2) v inn W W') := fun W' hs hk T => Rws.agree HR.out T (Nat.le_refl _) (Nat.le_refl _) (by omega) hk
    have FAR : Hid (∀ w5 : World, (W.alloc (.cells #[.int .i64 E] 3)).grownBy w5 (Value.slice aa pre.length ca).ownBlock → w5.heap[xb]? = W.heap[xb]?) := fun w5 hg => (hg.block xb (by simp; omega) (fun e => by
      rcases own_blk O1.out HXC.out (by decide) with e2 | e2
      · rw [e2] at e; cases e
      · exact e2 e.symm)).trans (Below.heap_alloc W _ xb hxs)
    have HE := Lib.hid hE
    clear h hxc hE hpre
    gi_wp2_with (gi_at_builtin; go_loud (refine wpListIn_append_own _ rfl _ _ 22 rfl V.heap.size 3 i0 (.int .i64 0) 1 8 Try.underlying22 hi hz0 hz1 hz2 rfl (by decide) _ _ _ rfl (O1.out.alloc _) ⟨W.heap.size, 0, none⟩ 1 1 [.int .i64 E] rfl rfl (cell_one_new W (.int .i64 E) 3) (fun x hx => by simp at hx; subst hx; rfl) (by unfold maxLen; omega) (by omega) (by simp; omega) ?_))
    intro v' w5 hown' hgrow _
    obtain ⟨aa', ca', rfl⟩ := shape_of hown'
    obtain ⟨⟨b5, e5⟩, I5, KO, KK, KS⟩ := NX.out _ _ hown' hgrow
    have x5 := (FAR.out _ hgrow).trans HXC.out
    have c5 := Kit.cells1 b5
    have f5 := Kit.frozen_of b5 0
    have d5 := Kit.cells1 e5
    have g5 := Kit.frozen_of e5 0
    have c5n := Kit.cells4 x5
    have HI5 := Lib.hid I5
    have HKO := Lib.hid KO
    have HKK := Lib.hid KK
    clear hown' hgrow b5 e5 I5 KO KK x5 c1 c2
    obtain ⟨⟨⟨k, a, b, ps⟩, p, c⟩, hx⟩ := x
    simp only at *
    gi_wp2
    exact ⟨HKO.out.from _, GKW.out _ (by simp [World.setCell]; omega) HKK.out, _, HI5.out⟩
  case stop => exact fun D c pre W hD _ h _ => h.elim
  case done =>
    rintro D ys W hD hys ⟨ve, h⟩ hK
    have e1 : ys.map (·.1.1) = L.reverse := by rw [← HM.out, ← hys]; simp
    have e2 : ys.length = L.length := by have := congrArg List.length e1; simpa using this
    have O1 := h.own
    have hbox := h.box
    rw [e1, e2] at O1
    obtain ⟨aa, ca, rfl⟩ := shape_of O1
    have lg := Kit.lt_of HK.out.obj
    have la := Kit.lt_of HK.out.own.obj
    have lr := Kit.lt_of HK.out.own.row
    have hne := HK.out.ne
    have ws := h.bel.size
    have hlow := HF.out.low HJ.out
    obtain ⟨S0, hS0⟩ : ∃ S0 : Nat → Prop, S0 = fun b => b = g ∨ b = ga ∨ b = w.heap.size ∨ b = D ∨ (Value.slice aa L.length ca).ownBlock = some b := ⟨_, rfl⟩
    have hlt : ∀ b, S0 b → b < W.heap.size ∧ (b = g ∨ b = ga ∨ w.heap.size ≤ b) := fun b hb => by
      rw [hS0] at hb
      rcases hb with rfl | rfl | rfl | rfl | hb
      · exact ⟨by omega, .inl rfl⟩
      · exact ⟨by omega, .inr (.inl rfl)⟩
      · exact ⟨Kit.lt_of hbox, .inr (.inr (Nat.le_refl _))⟩
      · exact ⟨Kit.lt_of hK, .inr (.inr (by omega))⟩
      · have := O1.lt b hb; exact ⟨this.2, .inr (.inr (by omega))⟩
    have M0 : Hid (Ms J C0 w W W S0 g ga r fr wd xs (refL q 0 [] ++ L) (ptrs []).length) := by
      refine ⟨Pu.Stk.keepB HK.out h.bel, fun b hb => ⟨rfl, (hlt b hb).1, ?_⟩, ?_, ⟨C0, HF.out.keep HJ.out ws (fun c hc => h.bel.block c (hlow c hc)), fun c hc => .inl hc, HC.out.2.2, fun b hb hc => ?_⟩, ModP.of_below h.bel⟩
      · rcases (hlt b hb).2 with rfl | rfl | h
        · exact hne.2.1
        · exact hne.2.2
        · omega
      · rw [hS0]; exact ⟨.inl rfl, .inr (.inl rfl)⟩
      · rcases (hlt b hb).2 with rfl | rfl | h
        · exact HC.out.1 hc
        · exact HC.out.2.1 hc
        · have := hlow b hc; omega
    have c1 := Kit.cells1 hbox
    have sBox : S0 w.heap.size := by rw [hS0]; exact .inr (.inr (.inl rfl))
    have sD : S0 D := by rw [hS0]; exact .inr (.inr (.inr (.inl rfl)))
    have sRow : ∀ b, (Value.slice aa L.length ca).ownBlock = some b → S0 b := fun b hb => by rw [hS0]; exact .inr (.inr (.inr (.inr hb)))
    have HS := Lib.hid (And.intro sBox (And.intro sD (And.intro sRow hlt)))
    have HO := Lib.hid O1
    have HBX := Lib.hid hbox
    have HKD := Lib.hid hK
    have hLl := lay_ge L
    clear h hbox hlt hlow e1 e2 hS0 O1 hK sBox sD sRow I0
    gi_wp2
    refine wpIn_wide.2 ?_
    go_loopg [7] L.length (fun n c wr => ∃ L1 L2, (L = L1 ++ L2 ∧ n = L2.length) ∧ c = .int .i64 ((L2.length : Int) - 1) ∧ Hid (∃ xs', Ms J C0 w W wr S0 g ga r fr wd xs' (refL q 0 L1 ++ L2) (ptrs L1).length ∧ xs'.length = xs.length))
    case atStart => exact ⟨[], L, ⟨rfl, rfl⟩, rfl, _, M0.out, rfl⟩
    case round =>
      obtain ⟨L1, L2, ⟨hL, rfl⟩, rfl, H⟩ := hrel
      obtain ⟨xs1, M, hxl⟩ := H.out
      have HM1 := Lib.hid M
      have HXL := Lib.hid hxl
      clear H M hxl
      rcases L2 with _ | ⟨f, L2⟩
      · have HL := Lib.hid hL
        rw [show (([] : List Fm).length : Int) - 1 = -1 from rfl]
        clear hL
        go_wp2_with fail
        have kD := (HM1.out.fix D HS.out.2.1).1.trans HKD.out
        refine ⟨by simp, .inl ⟨_, _, rfl, run_takeDeferred kD, ?_⟩⟩
        have eL : L = L1 := by rw [HL.out, List.append_nil]
        obtain ⟨C, hJ, h1, h2, h3⟩ := HM1.out.st
        have nD : ∀ b, b ≠ D → (wr.putObj D (.deferred none)).heap[b]? = wr.heap[b]? := fun b hb => World.putObj_heap_other hb
        have hz : (wr.putObj D (.deferred none)).heap.size = wr.heap.size := by simp [World.putObj]
        have hlow := HF.out.low hJ
        refine ⟨_, ?_, rfl, xs1, C, ?_, HXL.out, ?_, h1, ⟨h3 g HM1.out.sg.1, h3 ga HM1.out.sg.2, h2⟩, ?_⟩
        · simp [results, Try.f24, go_sem]
        · have := Stk.same HM1.out.stk (nD g (by omega)) (nD ga (by omega)) (nD r (by omega))
          rw [List.append_nil, ← eL] at this
          exact this
        · rw [← eL] at hJ
          exact HF.out.keep hJ (by omega) (fun c hc => nD c (fun e => h3 D HS.out.2.1 (e ▸ hc)))
        · have m := HM1.out.mod
          exact ⟨m.os, m.tape, m.output, by have := m.size; omega, fun k hk hn => (nD k (by omega)).trans (m.block k hk hn)⟩
      · have kB := (HM1.out.fix _ HS.out.1).1.trans HBX.out
        have cB := Kit.cells1 kB
        obtain ⟨qb, rfl, hca, hcm, hq⟩ := row_cell HO.out L2.length (by rw [endsF_length]; simp [hL])
        have ce := hq wr (HM1.out.fix qb (HS.out.2.2.1 qb rfl)).1
        have eA := ends_at L1 L2 f
        rw [← hL] at eA
        rw [eA] at ce
        rw [show (((f :: L2).length : Nat) : Int) - 1 = (L2.length : Int) by simp]
        have hlen : L2.length < L.length := by rw [hL]; simp; omega
        have hgood := HM1.out.stk.good f (by simp)
        have hn := (Sk.Good.bounds hgood).2.2.2.1
        have FRI : Hid (∀ en : Int, en = (lay L1).length + ((f.ps.length : Int) + 1) → Calls Try.prog 34 #[.pointer (some ⟨g, 0, none⟩), .int .i64 en] wr fun e w' => ∃ p c, e = .returned (frameV f.k f.a f.b p f.ps.length c) ∧ w'.ownsRow (wr.heap.size + 2) 3 1 (.slice p f.ps.length c) f.ps.length (ints f.ps) ∧ Below wr.heap.size wr w') := fun en hen => frame_it HM1.out.stk hw en (by rw [lay_refL]; exact hen)
        have hcc : (ptrs L).length = (ptrs L1).length + (f.ps.length + (ptrs L2).length) := by rw [hL, ptrs_mid]; simp
        have PG : Hid (∀ k, k < f.ps.length → (ptrs L).getD ((ptrs L1).length + k) 0 = f.ps.getD k 0) := fun k hk => by
          rw [hL, ptrs_mid]
          simp only [List.getD_eq_getElem?_getD]
          rw [List.getElem?_append_right (by omega), Nat.add_sub_cancel_left, List.getElem?_append_left hk]
        have hlay : (lay L1).length + (f.ps.length + 1) ≤ (lay L).length := by rw [hL]; simp [lay, encF]
        have NEXT : Hid (∀ xs' wq V4 S4, Ms J C0 w V4 wq S4 g ga r fr wd xs' (refL q 0 L1 ++ refK q (ptrs L1).length f.ps.length f :: L2) ((ptrs L1).length + f.ps.length) → (∀ b, S0 b → S4 b ∧ V4.heap[b]? = W.heap[b]?) → Ms J C0 w W wq S0 g ga r fr wd xs' (refL q 0 (L1 ++ [f]) ++ L2) (ptrs (L1 ++ [f])).length) := fun xs' wq V4 S4 h hs => by
          rw [refL_snoc, List.append_assoc, ptrs_snoc, List.length_append]
          exact Ms.back h hs HM1.out.sg
        have HL' : Hid (L = (L1 ++ [f]) ++ L2) := hL.trans (by simp)
        obtain ⟨cc, hcce⟩ : ∃ cc, cc = (ptrs L1).length := ⟨_, rfl⟩
        obtain ⟨ul, hul⟩ : ∃ ul, ul = (lay L1).length := ⟨_, rfl⟩
        rw [← hcce] at PG NEXT hcc HM1
        rw [← hul] at ce FRI hlay
        have WA : Hid (∀ (y : Int) (v : Int), v = clip y → ∀ (xs' : List Int) (wq V4 : World) (S4 : Nat → Prop) (k : Nat), Ms J C0 w V4 wq S4 g ga r fr wd xs' (refL q 0 L1 ++ refK q cc k f :: L2) (cc + (k + 1)) → xs'.length = xs.length → k < f.ps.length → q (cc + k) = y → ∀ ix : Int, ix = fr + ul + k → Calls Try.prog 15 #[.pointer (some ⟨ga, 0, none⟩), .int .i64 ix, .int .u64 v] wq.drew fun e w' => e = .returned (.int .i64 0) ∧ ∃ xs2, Ms J C0 w V4 w' S4 g ga r fr wd xs2 (refL q 0 L1 ++ refK q cc (k + 1) f :: L2) (cc + (k + 1)) ∧ xs2.length = xs.length) := fun y v hv xs' wq V4 S4 k h hxs hk hy ix hix => by
          have bD : Below wq.heap.size wq wq.drew := ⟨rfl, rfl, rfl, Nat.le_refl _, fun _ _ => rfl⟩
          have h' := Ms.stepB HF.out h bD
          have hcb := clip_bounds y
          have WA := write_any wq.drew ga r xs' ix v h'.stk.own (by omega) (by omega)
          have hf := h'.stk.fits
          have hl2 : (lay (refL q 0 L1 ++ refK q cc k f :: L2)).length = ul + (f.ps.length + 1) + (lay L2).length := by
            rw [hul, ← lay_refL q L1 0]; simp [lay, encF, refK, mixP_length]; omega
          unfold atE writeV at WA
          rw [if_pos (by omega), if_pos (by omega), show ix.toNat = fr + (lay (refL q 0 L1)).length + k by rw [lay_refL]; omega] at WA
          refine WA.mono ?_
          rintro e w' ⟨rfl, O, m⟩
          have P := Ms.poke HF.out (a := f.k) (b := f.a) (c := f.b) (pp := mixP f.ps q cc k) h' k (by rw [mixP_length]; exact hk) v (by omega) m O
          rw [hv, ← hy, mixP_set _ _ _ _ hk] at P
          rw [hv, ← hy] at *
          exact ⟨rfl, _, P, by rw [List.length_set]; exact hxs⟩
        have CA : Hid (∀ (xs' : List Int) (wq V4 : World) (S4 : Nat → Prop) (k : Nat), Ms J C0 w V4 wq S4 g ga r fr wd xs' (refL q 0 L1 ++ refK q cc k f :: L2) (cc + k) → k < f.ps.length → Calls Try.prog fN #[.int .i64 (f.ps.getD k 0), u] wq fun e w' => e = .returned (.int .i64 (q (cc + k))) ∧ Ms J C0 w V4 w' S4 g ga r fr wd xs' (refL q 0 L1 ++ refK q cc k f :: L2) (cc + (k + 1))) := fun xs' wq V4 S4 k h hk => by
          have := Ms.call HF.out h (by omega)
          rw [PG.out k hk] at this
          exact this
        have hfr : fr ≤ 524288 := by have := HK.out.own.small; omega
        have HU := Lib.hid hul
        have HCC := Lib.hid hcce
        have S4B : Hid (∀ (w3 : World) (p : Option Addr) (c : Nat), w3.ownsRow (wr.heap.size + 2) 3 1 (.slice p f.ps.length c) f.ps.length (ints f.ps) → Below wr.heap.size wr w3 → (∀ b, S0 b → (w3.alloc (.cells #[.int .i64 f.k, .int .i64 f.a, .int .i64 f.b, .slice p f.ps.length c] 24)).heap[b]? = W.heap[b]?) ∧ Ms J C0 w (w3.alloc (.cells #[.int .i64 f.k, .int .i64 f.a, .int .i64 f.b, .slice p f.ps.length c] 24)) (w3.alloc (.cells #[.int .i64 f.k, .int .i64 f.a, .int .i64 f.b, .slice p f.ps.length c] 24)) (fun b => S0 b ∨ b = w3.heap.size ∨ (Value.slice p f.ps.length c).ownBlock = some b) g ga r fr wd xs1 (refL q 0 L1 ++ refK q cc 0 f :: L2) (cc + 0)) := fun w3 p c own b3 => by
          have b4 := Kit.allocB b3 (.cells #[.int .i64 f.k, .int .i64 f.a, .int .i64 f.b, .slice p f.ps.length c] 24)
          refine ⟨fun b hb => (b4.block b (HM1.out.fix b hb).2.1).trans (HM1.out.fix b hb).1, ?_⟩
          have e0 : refK q cc 0 f = f := by unfold refK; rw [mixP_zero]
          rw [e0]
          refine Ms.step HF.out HM1.out b4 (fun b hb => ?_) ⟨.inl HM1.out.sg.1, .inl HM1.out.sg.2⟩
          rcases hb with hb | rfl | hb
          · exact .inl hb
          · exact .inr ⟨b3.size, by simp⟩
          · have := own.lt b hb; exact .inr ⟨by omega, by simp; omega⟩
        have CE : Hid (∀ w' : World, w'.heap[qb]? = W.heap[qb]? → w'.cell? ⟨qb, L2.length, none⟩ = some (.int .i64 ((ul : Int) + ((f.ps.length : Int) + 1)))) := fun w' h => by have := hq w' h; rw [eA, ← hul] at this; exact this
        clear hL hq eA hgood kB hcce hul hcc
        obtain ⟨k, a, b, ps⟩ := f
        unfold frameV at FRI
        simp only at *
        have hlt2 : (L2.length : Int) < L.length := by omega
        have hge2 : (0 : Int) ≤ (L2.length : Int) := by omega
        have hge3 : decide ((0 : Int) ≤ (L2.length : Int)) = true := decide_eq_true hge2
        unfold maxLen at hcm
        go_wp2_with fail
        refine (FRI.out _ (by omega)).mono ?_
        rintro e w3 ⟨p, c, rfl, own, b3⟩
        obtain ⟨eq4, M4⟩ := S4B.out w3 p c own b3
        have EQ4 := Lib.hid eq4
        have HM4 := Lib.hid M4
        have N4 := Lib.hid (Kit.new_blk w3 (.cells #[.int .i64 k, .int .i64 a, .int .i64 b, .slice p ps.length c] 24))
        have O4 := Lib.hid (own_below own (Kit.allocB (Below.refl _ _) (.cells #[.int .i64 k, .int .i64 a, .int .i64 b, .slice p ps.length c] 24)))
        have kB4 := (eq4 _ HS.out.1).trans HBX.out
        have KB4 := Lib.hid kB4
        clear own b3 eq4 M4 S4B FRI cB ce kB4
        go_wp2_with fail
        generalize hw4 : w3.alloc _ = w4 at *
        have HW4 := Lib.hid hw4
        clear hw4
        go_loopg [51] ps.length (fun m cx wq => ∃ j : Nat, (j ≤ ps.length ∧ m = ps.length - j) ∧ cx = .int .i64 j ∧ Hid (∃ xs', Ms J C0 w w4 wq (fun b => S0 b ∨ b = w3.heap.size ∨ (Value.slice p ps.length c).ownBlock = some b) g ga r fr wd xs' (refL q 0 L1 ++ refK q cc j ⟨k, a, b, ps⟩ :: L2) (cc + j) ∧ xs'.length = xs.length))
        case atStart => exact ⟨0, ⟨Nat.zero_le _, rfl⟩, rfl, _, HM4.out, HXL.out⟩
        case round =>
          obtain ⟨j, ⟨hj, rfl⟩, rfl, HR2⟩ := hrel
          obtain ⟨xs2, M2, hx2⟩ := HR2.out
          have HM2 := Lib.hid M2
          have HX2 := Lib.hid hx2
          clear M2 hx2 HR2
          by_cases hjlt : j < ps.length
          · obtain ⟨pb, rfl, hpc, hpm, hp2⟩ := row_cell O4.out j hjlt
            have cp := hp2 wr (HM2.out.fix pb (.inr (.inr rfl))).1
            have hj2 : (j : Int) < ps.length := by omega
            have hj3 : (0 : Int) ≤ (j : Int) := by omega
            have hj4 : decide ((j : Int) < (ps.length : Int)) = true := decide_eq_true hj2
            unfold maxLen at hpm
            have CC := CA.out xs2 wr w4 _ j HM2.out hjlt
            have WW : Hid (∀ (y v : Int), v = clip y → q (cc + j) = y → _) := fun y v hv hy (wz : World) h => WA.out y v hv xs2 wz w4 (fun b => S0 b ∨ b = w3.heap.size ∨ (Value.slice (some ⟨pb, 0, none⟩) ps.length c).ownBlock = some b) j h HX2.out hjlt hy
            generalize ps.getD j 0 = pk at cp CC
            have CCH := Lib.hid CC
            have eg := HF.out.eg
            clear hp2 CC
            go_wp2_with fail
            refine CCH.out.mono ?_
            rintro e wz ⟨rfl, MZ⟩
            have HMZ := Lib.hid MZ
            have cs := Stk.cells MZ.stk
            have kBz := Kit.cells1 ((MZ.fix _ (.inl HS.out.1)).1.trans KB4.out)
            have cez := CE.out wz ((MZ.fix qb (.inl (HS.out.2.2.1 qb rfl))).1.trans (EQ4.out qb (HS.out.2.2.1 qb rfl)))
            have c4z := Kit.cells4 ((MZ.fix w3.heap.size (.inr (.inl rfl))).1.trans N4.out)
            obtain ⟨y, hy⟩ : ∃ y, q (cc + j) = y := ⟨_, rfl⟩
            rw [hy]
            have HY := Lib.hid hy
            have c0 := cs.1
            have c1 := cs.2.1
            clear MZ hy CCH cs cp eg
            by_cases hin2 : 0 ≤ y ∧ y ≤ 524288
            · have ev : y = clip y := by unfold clip; rw [if_pos hin2]
              have WR := Lib.hid (WW.out y y ev HY.out _ HMZ.out)
              have PI := pointer_it y wz
              rw [decide_eq_true hin2] at PI
              have PI := Lib.hid PI
              rename_i PI2
              obtain ⟨hy1, hy2⟩ := hin2
              clear PI2 ev WW
              go_wp2_with fail
              refine PI.out.mono ?_
              rintro e wz2 ⟨rfl, rfl⟩
              go_wp2_with fail
              go_still_tail 22, (by kernel_rfl)
              go_wp2_with fail
              refine (WR.out _ (by omega)).mono ?_
              rintro e w6 ⟨rfl, xs3, M6, hx6⟩
              have HM6 := Lib.hid M6
              have HX6 := Lib.hid hx6
              clear M6 hx6
              go_wp2_with fail
              go_roundg (ps.length - (j + 1))
              case measure => omega
              case rel => exact ⟨j + 1, ⟨by omega, rfl⟩, by simp, _, HM6.out, HX6.out⟩
            · have ev : 0 = clip y := by unfold clip; rw [if_neg hin2]
              have WR := Lib.hid (WW.out y 0 ev HY.out _ HMZ.out)
              have PI := pointer_it y wz
              rw [decide_eq_false hin2] at PI
              have PI := Lib.hid PI
              rename_i PI2
              clear hin2
              clear PI2 ev WW
              go_wp2_with fail
              refine PI.out.mono ?_
              rintro e wz2 ⟨rfl, rfl⟩
              go_wp2_with fail
              go_still_tail 22, (by kernel_rfl)
              go_wp2_with fail
              refine (WR.out _ (by omega)).mono ?_
              rintro e w6 ⟨rfl, xs3, M6, hx6⟩
              have HM6 := Lib.hid M6
              have HX6 := Lib.hid hx6
              clear M6 hx6
              go_wp2_with fail
              go_roundg (ps.length - (j + 1))
              case measure => omega
              case rel => exact ⟨j + 1, ⟨by omega, rfl⟩, by simp, _, HM6.out, HX6.out⟩
          · obtain rfl : j = ps.length := by omega
            have NX := Lib.hid (NEXT.out xs2 wr w4 _ HM2.out (fun b hb => ⟨.inl hb, EQ4.out b hb⟩))
            go_wp2_with fail
            go_roundg L2.length
            case measure => simp
            case rel => exact ⟨L1 ++ [⟨k, a, b, ps⟩], L2, ⟨HL'.out, rfl⟩, by simp, xs2, NX.out, HX2.out⟩
end
end Go.Proofs.Ytedkackmccnkfaa.Mk
