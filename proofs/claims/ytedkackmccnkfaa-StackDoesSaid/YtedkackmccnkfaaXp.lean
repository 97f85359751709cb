/- The document's Push. No condition. -/
import Derived.Test.YtedkackmccnkfaaXs
import Derived.Test.YtedkackmccnkfaaLat
import Derived.Deep.RegionHeld3
set_option linter.unusedVariables false
set_option linter.unusedSimpArgs false
namespace Go.Proofs.Ytedkackmccnkfaa.Xp
open Go.RowKit Go.Shelf
open Fr Fs Ft Ar Sk Pu Pv Fa Po Nw Bk Fz Fy Mq Mj Mk LawMaps Xs
attribute [local go_sem ↓] Go.wp_at_zero Go.wp_at_succ
/-- An append whose run is known, at a step of a region that draws. -/
theorem step_append_ex {P : Program} {w : World} {ops : Array Oper} {o : Oper} {a : Act} {K : Act → World → Prop} {Q : Exit → Act → World → Prop} {E : Prop} (s x : Operand) (t : TypeId) (v1 v2 : Value) (R : Value → World → Prop) (hgd : o.guard = none)
    (ho : o.op = .call { callee := .builtin .append, args := #[s, x], argTypes := #[t, t] }) (hs : a.eval s = v1) (hx : a.eval x = v2) (hrun : ∃ v w', (Builtin.append_ #[t, t] o.type #[v1, v2]).run P w = .ok v w' ∧ R v w') (h : ∀ v w', R v w' → K (a.put o.dst v) w') :
    if Region.wanted o (yielded ops a.tmps) = true then Oper.wp P o a w K Q else E := by
  have hw : Region.wanted o (yielded ops a.tmps) = true := by simp [Region.wanted, hgd]
  rw [if_pos hw]
  obtain ⟨v, w', hrun, hR⟩ := hrun
  unfold Oper.wp
  simp [execOp, ho, resolve, invoke, builtin, hs, hx, hrun, Result.andThen]
  exact h _ _ hR
theorem infoF : (Try.prog.info? 24).map (fun i => (i.zero, i.size, i.bytes)) = some (some (.agg #[.int .i64 0, .int .i64 0, .int .i64 0, .slice none 0 0]), 4, 48) := by kernel_rfl
def R2 (w w1 : World) (B y wd : Nat) (old : Value) (inn : List In) (x : In) (v2 : Value) (W2 : World) : Prop :=
  (∃ a m c, v2 = .slice a m c) ∧ W2.cell? ⟨y, 0, none⟩ = some (.int .i64 wd) ∧ W2.cell? ⟨y, 1, none⟩ = some old ∧ W2.frozen? ⟨y, 1, none⟩ = false ∧ Xr (W2.setCell ⟨y, 1, none⟩ v2) B y wd v2 (inn ++ [x]) ∧ ModP (KT B w) w (W2.setCell ⟨y, 1, none⟩ v2) ∧ ∀ o, W2.cell? ⟨w.heap.size, o, none⟩ = w1.cell? ⟨w.heap.size, o, none⟩
def R1 (w w1 : World) (B y wd : Nat) (aa : Option Addr) (ca : Nat) (inn : List In) (k a b : Int) (ps : List Int) (v1 : Value) (W1 : World) : Prop :=
  ∃ p' c', v1 = .slice p' ps.length c' ∧ (∀ q o, q < w1.heap.size → W1.cell? ⟨q, o, none⟩ = w1.cell? ⟨q, o, none⟩) ∧ ∃ v w', (Builtin.append_ #[36, 36] 36 #[.slice aa inn.length ca, .slice (some ⟨W1.heap.size, 0, none⟩) 1 1]).run Try.prog (W1.alloc (.cells #[.int .i64 k, .int .i64 a, .int .i64 b, .slice p' ps.length c'] 24)) = .ok v w' ∧ R2 w w1 B y wd (.slice aa inn.length ca) inn (⟨k, a, b, ps⟩, p', c') v w'
theorem push_runs {w w1 W0 : World} {B y wd : Nat} {aa : Option Addr} {ca : Nat} {inn : List In} (k a b : Int) (ps : List Int) (p : Option Addr) (c : Nat) (hX : B ≤ w.heap.size) (b1 : Below w.heap.size w w1) (X : Xr w1 B y wd (.slice aa inn.length ca) inn) (S : Sl w1 p ps) (hps : ps.length ≤ 1000) (hin : inn.length ≤ 65536)
    (hyw : y < w.heap.size) (hw1 : w.heap.size < w1.heap.size) (haw : ∀ q, (Value.slice aa inn.length ca).ownBlock = some q → q < w.heap.size) (e0 : W0.heap = w1.heap) (e1 : W0.os = w1.os) (e2 : W0.tape = w1.tape) (e3 : W0.output = w1.output) :
    ∃ v w', (Builtin.append_ #[22, 22] 22 #[.slice (some ⟨W0.heap.size, 0, none⟩) 0 0, .slice p ps.length c]).run Try.prog (W0.alloc (.cells #[] 3)) = .ok v w' ∧ R1 w w1 B y wd aa ca inn k a b ps v w' := by
  obtain ⟨i0, hi, hz0, hz1, hz2⟩ := info_parts infoF
  have bw : Below w1.heap.size w1 W0 := ⟨e1, e2, e3, by rw [e0]; exact Nat.le_refl _, fun q _ => by rw [e0]⟩
  have ba : Below w1.heap.size w1 (W0.alloc (.cells #[] 3)) := bw.alloc (by rw [e0]; exact Nat.le_refl _) _
  have hz : W0.heap.size = w1.heap.size := by rw [e0]
  have hown : (W0.alloc (.cells #[] 3)).ownsRow w1.heap.size 3 1 (.slice (some ⟨W0.heap.size, 0, none⟩) 0 0) 0 (ints []) :=
    ⟨rfl, .inr ⟨W0.heap.size, 0, #[], rfl, by omega, Kit.new_blk _ _, Nat.le_refl _, Nat.zero_le _, rfl, rfl⟩⟩
  obtain ⟨v1, W1, r1, o1, g1⟩ := run_sl (w := W0.alloc (.cells #[] 3)) w1.heap.size 22 (.slice (some ⟨W0.heap.size, 0, none⟩) 0 0) 0 [] ps p c hown (S.keepB ba) (by omega) (by simp; omega)
  rw [Nat.zero_add, List.nil_append] at o1
  obtain ⟨p', c', rfl⟩ := shape_of o1
  have hlt1 : ∀ q, q < w1.heap.size → W1.heap[q]? = w1.heap[q]? := fun q hq => (g1.block q (by simp; omega) (fun e => by simp [Value.ownBlock] at e; omega)).trans ((Below.heap_alloc W0 _ q (by omega)).trans (by rw [e0]))
  have hs1 : w1.heap.size ≤ W1.heap.size := by have := g1.size; simp at this; omega
  have bW1 : Below w1.heap.size w1 W1 := ⟨g1.os.trans e1, g1.tape.trans e2, g1.output.trans e3, hs1, hlt1⟩
  have X1 := X.keepB bW1
  refine ⟨_, W1, r1, p', c', rfl, fun q o hq => World.cell?_of_block (w := w1) (a := ⟨q, o, none⟩) (hlt1 q hq), ?_⟩
  have cn := Kit.cells4 (Kit.new_blk W1 (.cells #[.int .i64 k, .int .i64 a, .int .i64 b, .slice p' ps.length c'] 24 (0, 0)))
  have ba1 := Kit.allocB (Below.refl W1.heap.size W1) (.cells #[.int .i64 k, .int .i64 a, .int .i64 b, .slice p' ps.length c'] 24)
  have X2 := X1.keepB ba1
  obtain ⟨v2, W2, r2, o2, g2, -, -⟩ := run_append_own_at (P := Try.prog) (W1.alloc (.cells #[.int .i64 k, .int .i64 a, .int .i64 b, .slice p' ps.length c'] 24)) B 36 36 24 i0 (.agg #[.int .i64 0, .int .i64 0, .int .i64 0, .slice none 0 0]) 4 48 Try.underlying36 hi hz0 hz1 hz2 rfl (by decide) (.slice aa inn.length ca) inn.length (flat inn) X2.own ⟨W1.heap.size, 0, none⟩ 1 1 (cellsI (⟨k, a, b, ps⟩, p', c')) rfl
    (fun q u hq => by
      match q, hq with
      | 0, hq => simp [cellsI] at hq; subst hq; exact cn.1
      | 1, hq => simp [cellsI] at hq; subst hq; exact cn.2.1
      | 2, hq => simp [cellsI] at hq; subst hq; exact cn.2.2.1
      | 3, hq => simp [cellsI] at hq; subst hq; exact cn.2.2.2) (fun x hx => by simp [cellsI] at hx; rcases hx with rfl | rfl | rfl | rfl <;> rfl) (by unfold maxLen; omega) (by omega) X2.siz
  refine ⟨v2, W2, r2, ?_⟩
  have y2 : W2.heap[y]? = some (.cells #[.int .i64 wd, .slice aa inn.length ca] 52 (0, 0)) := by
    refine (g2.block y (Kit.lt_of X2.obj) (fun e => ?_)).trans X2.obj
    rcases own_blk X2.own X2.obj (by decide) with e2 | e2
    · rw [e2] at e; cases e
    · exact e2 e.symm
  have gr : W2.grownBy (W2.setCell ⟨y, 1, none⟩ v2) (some y) := ⟨rfl, rfl, rfl, by simp [World.setCell], fun k hk hne => Below.heap_setCell W2 _ _ k (fun e => hne (by simp [e]))⟩
  have keep : ∀ z, Mine B (W1.alloc (.cells #[.int .i64 k, .int .i64 a, .int .i64 b, .slice p' ps.length c'] 24)) z → Mine B (W2.setCell ⟨y, 1, none⟩ v2) z := fun z hz => by
    have z5 := hz.1.kept g2 (own_far hz.1 X2.own (by decide))
    exact ⟨z5.kept gr (own_blk z5 y2 (by decide)), hz.2⟩
  have hnew : Mine B (W1.alloc (.cells #[.int .i64 k, .int .i64 a, .int .i64 b, .slice p' ps.length c'] 24)) (⟨k, a, b, ps⟩, p', c') := ⟨own_mono4 (o1.alloc _) X.siz, hps⟩
  have y3 : (W2.setCell ⟨y, 1, none⟩ v2).heap[y]? = some (.cells #[.int .i64 wd, v2] 52 (0, 0)) := by rw [Kit.set_blk y2]; rfl
  refine ⟨?_, (Kit.cells2 y2).1, (Kit.cells2 y2).2, Kit.frozen_of y2 1, ⟨y3, ?_, fun z hz => ?_, ?_, ?_, X.low⟩, ?_, fun o => ?_⟩
  · obtain ⟨a, c, e⟩ := shape4 o2; exact ⟨a, _, c, e⟩
  · rw [List.length_append, List.length_singleton, flat_snoc]
    exact o2.kept gr (own_blk o2 y2 (by decide))
  · rcases List.mem_append.1 hz with hz | hz
    · exact keep z (X2.sls z hz)
    · simp at hz; subst hz; exact keep _ hnew
  · rw [List.pairwise_append]
    refine ⟨X.apart, List.pairwise_singleton _ _, fun z hz z' hz' q hq hq' => ?_⟩
    simp at hz'; subst hz'
    have h1 := ((X.sls z hz).1.lt q (blk_own.trans hq)).2
    have h2 := (o1.lt q (by rw [← hq']; exact blk_own (x := (⟨k, a, b, ps⟩, p', c')))).1
    omega
  · have := X2.siz; have := g2.size; simp [World.setCell]; omega
  · refine ⟨?_, ?_, ?_, ?_, fun q hq hn => ?_⟩
    · exact (g2.os.trans (g1.os.trans e1)).trans b1.os
    · exact (g2.tape.trans (g1.tape.trans e2)).trans b1.tape
    · exact (g2.output.trans (g1.output.trans e3)).trans b1.output
    · have := b1.size; have := g2.size; simp [World.setCell] at this ⊢; omega
    · have hw1 := b1.size
      have hy : q ≠ y := fun e => hn (by
        subst e
        exact ⟨X.low, _, _, (b1.block q hq).symm.trans X.obj, .inl rfl⟩)
      have ha : (Value.slice aa inn.length ca).ownBlock ≠ some q := fun e => hn (by
        obtain ⟨hb, cs, hc⟩ := own_typ X.own q e
        exact ⟨hb, _, _, (b1.block q hq).symm.trans hc, .inr (.inl rfl)⟩)
      exact (Below.heap_setCell W2 _ _ q (by simpa using hy)).trans ((g2.block q (by simp; omega) (fun e => ha e.symm)).trans ((Below.heap_alloc W1 _ q (by omega)).trans ((hlt1 q (by omega)).trans (b1.block q hq))))
  · refine World.cell?_of_block (w := w1) (a := ⟨w.heap.size, o, none⟩) ?_
    show W2.heap[w.heap.size]? = w1.heap[w.heap.size]?
    refine (g2.block w.heap.size (by simp; omega) (fun e => ?_)).trans ((Below.heap_alloc W1 _ w.heap.size (by omega)).trans (hlt1 _ hw1))
    have := haw _ e.symm
    omega
section
variable {w w' : World} {B y wd : Nat} {v : Value} {inn : List In}
set_option maxHeartbeats 1000000 in
set_option maxRecDepth 100000 in
theorem rpush_no (X : Xr w B y wd v inn) (k a b : Int) (p : Option Addr) (c : Nat) (ps : List Int) (S : Sl w p ps) (hl : ps.length ≤ 17592186044416) (h0 : rightE k a b ps ≠ 0) :
    Calls Try.prog 35 #[.pointer (some ⟨y, 0, none⟩), frameV k a b p ps.length c] w fun e w' => e = .returned (.int .i64 (rightE k a b ps)) ∧ Below w.heap.size w w' := by
  have RI := Lib.hid (rright_it (w.alloc (.cells #[.int .i64 k, .int .i64 a, .int .i64 b, .slice p ps.length c] 24 (0, 0))) k a b p c ps (S.keepB (Kit.allocB (Below.refl _ _) _)) hl)
  have BB := Lib.hid (Kit.allocB (Below.refl w.heap.size w) (.cells #[.int .i64 k, .int .i64 a, .int .i64 b, .slice p ps.length c] 24 (0, 0)))
  clear X S
  unfold frameV at RI ⊢
  generalize rightE k a b ps = er at *
  have e0 : (er != 0) = true := by rw [bne_iff_ne]; exact h0
  clear h0
  go_enter Try.func35, Try.ntmps35
  go_wp2_with fail
  refine RI.out.mono ?_; rintro e w1 ⟨rfl, b1⟩
  have B1 := Lib.hid (Kit.stepB BB.out b1)
  clear b1
  go_wp2_with fail
  go_ret
  exact ⟨rfl, B1.out⟩
set_option maxHeartbeats 1000000 in
set_option maxRecDepth 100000 in
theorem rpush_full (X : Xr w B y wd v inn) (k a b : Int) (p : Option Addr) (c : Nat) (ps : List Int) (S : Sl w p ps) (hl : ps.length ≤ 17592186044416) (hw : wd ≤ 65536) (hu : (lay (inn.map (·.1))).length ≤ wd) (h0 : rightE k a b ps = 0) (room : wd < (lay (inn.map (·.1))).length + (ps.length + 1)) :
    Calls Try.prog 35 #[.pointer (some ⟨y, 0, none⟩), frameV k a b p ps.length c] w fun e w' => e = .returned (.int .i64 5) ∧ Below w.heap.size w w' := by
  have RI := rright_it (w.alloc (.cells #[.int .i64 k, .int .i64 a, .int .i64 b, .slice p ps.length c] 24 (0, 0))) k a b p c ps (S.keepB (Kit.allocB (Below.refl _ _) _)) hl
  rw [h0] at RI
  have RI := Lib.hid RI
  have BN := Lib.hid (Kit.new_blk w (.cells #[.int .i64 k, .int .i64 a, .int .i64 b, .slice p ps.length c] 24 (0, 0)))
  have BB := Lib.hid (Kit.allocB (Below.refl w.heap.size w) (.cells #[.int .i64 k, .int .i64 a, .int .i64 b, .slice p ps.length c] 24 (0, 0)))
  have HX := Lib.hid X
  clear X S h0
  rename_i RI2
  clear RI2
  unfold frameV at RI ⊢
  go_enter Try.func35, Try.ntmps35
  go_wp2_with fail
  refine RI.out.mono ?_; rintro e w1 ⟨rfl, b1⟩
  have B1 := Lib.hid (Kit.stepB BB.out b1)
  have X1 := Lib.hid (HX.out.keepB B1.out)
  have c4 := Kit.cells4 (Kit.keepB BN.out b1)
  have cx := X1.out.cells.1
  have RU := Lib.hid (fun (w' : World) (e : w'.heap = w1.heap) => rused_it (X1.out.heap e) (by omega))
  clear b1
  generalize hul : (lay (inn.map (·.1))).length = ul at *
  clear hul
  go_wp2_with fail
  go_quiet (first | (go_at_call 40; refine Calls.quiet_of_same (RU.out _ rfl)))
  go_wp2_with fail
  go_ret
  exact ⟨rfl, Kit.drawB B1.out _⟩
set_option maxHeartbeats 4000000 in
set_option maxRecDepth 100000 in
theorem rpush_ok (X : Xr w B y wd v inn) (k a b : Int) (p : Option Addr) (c : Nat) (ps : List Int) (S : Sl w p ps) (hl : ps.length ≤ 17592186044416) (hw : wd ≤ 65536) (h0 : rightE k a b ps = 0) (room : (lay (inn.map (·.1))).length + (ps.length + 1) ≤ wd) :
    Calls Try.prog 35 #[.pointer (some ⟨y, 0, none⟩), frameV k a b p ps.length c] w fun e w' => e = .returned (.int .i64 0) ∧ (∃ v' p' c', Xr w' B y wd v' (inn ++ [(⟨k, a, b, ps⟩, p', c')])) ∧ ModP (KT B w) w w' := by
  have RI := rright_it (w.alloc (.cells #[.int .i64 k, .int .i64 a, .int .i64 b, .slice p ps.length c] 24 (0, 0))) k a b p c ps (S.keepB (Kit.allocB (Below.refl _ _) _)) hl
  rw [h0] at RI
  have RI := Lib.hid RI
  have BN := Lib.hid (Kit.new_blk w (.cells #[.int .i64 k, .int .i64 a, .int .i64 b, .slice p ps.length c] 24 (0, 0)))
  have BB := Lib.hid (Kit.allocB (Below.refl w.heap.size w) (.cells #[.int .i64 k, .int .i64 a, .int .i64 b, .slice p ps.length c] 24 (0, 0)))
  have HX := Lib.hid X
  have HS := Lib.hid S
  have H0 := Lib.hid h0
  clear X S h0
  rename_i RI2
  clear RI2
  unfold frameV at RI ⊢
  go_enter Try.func35, Try.ntmps35
  go_wp2_with fail
  refine RI.out.mono ?_; rintro e w1 ⟨rfl, b1⟩
  have B1 := Lib.hid (Kit.stepB BB.out b1)
  have X1 := Lib.hid (HX.out.keepB B1.out)
  have N1 := Lib.hid (Kit.keepB BN.out b1)
  have c4 := Kit.cells4 N1.out
  obtain ⟨aa, ca, rfl, hca⟩ := HX.out.shape
  have cx := X1.out.cells
  have RU := Lib.hid (fun (w' : World) (e : w'.heap = w1.heap) => rused_it (X1.out.heap e) (by omega))
  clear b1
  obtain ⟨ul, hul⟩ : ∃ ul, ul = (lay (inn.map (·.1))).length := ⟨_, rfl⟩
  rw [← hul] at RU room
  have HU := Lib.hid hul
  clear hul
  go_wp2_with fail
  go_quiet (first | (go_at_call 40; refine Calls.quiet_of_same (RU.out _ rfl)))
  go_wp2_with fail
  have hin : inn.length ≤ 65536 := by have := lay_ge (inn.map (·.1)); rw [← HU.out] at this; simp at this; omega
  have hps : ps.length ≤ 1000 := (Sk.Good.bounds (f := ⟨k, a, b, ps⟩) H0.out).2.2.2.1
  have CP : Hid (∀ W0 : World, W0.heap = w1.heap → W0.os = w1.os → W0.tape = w1.tape → W0.output = w1.output → ∃ v w', (Builtin.append_ #[22, 22] 22 #[.slice (some ⟨W0.heap.size, 0, none⟩) 0 0, .slice p ps.length c]).run Try.prog (W0.alloc (.cells #[] 3)) = .ok v w' ∧ R1 w w1 B y wd aa ca inn k a b ps v w') := fun W0 e0 e1 e2 e3 =>
    push_runs k a b ps p c HX.out.siz B1.out X1.out (HS.out.keepB B1.out) hps hin (Kit.lt_of HX.out.obj) (Kit.lt_of N1.out) (fun q hq => (HX.out.own.lt q hq).2) e0 e1 e2 e3
  have cx1 := cx.1
  have cx2 := cx.2
  obtain ⟨d0, d1, d2, d3⟩ := c4
  have hw1 := Kit.lt_of N1.out
  have hy1 := Kit.lt_of X1.out.obj
  clear cx
  obtain ⟨SS, hSS⟩ : ∃ SS : World → Prop, SS = fun w' => w'.cell? ⟨y, 0, none⟩ = some (.int .i64 wd) ∧ w'.cell? ⟨y, 1, none⟩ = some (.slice aa inn.length ca) ∧ w'.cell? ⟨w.heap.size, 0, none⟩ = some (.int .i64 k) ∧ w'.cell? ⟨w.heap.size, 1, none⟩ = some (.int .i64 a) ∧ w'.cell? ⟨w.heap.size, 2, none⟩ = some (.int .i64 b) ∧ w'.cell? ⟨w.heap.size, 3, none⟩ = some (.slice p ps.length c) := ⟨_, rfl⟩
  refine wp_region_noPanic ?_
  refine Lat.start (fun w' => w'.cell? ⟨y, 0, none⟩ = some (.int .i64 wd) ∧ w'.cell? ⟨y, 1, none⟩ = some (.slice aa inn.length ca) ∧ w'.cell? ⟨w.heap.size, 0, none⟩ = some (.int .i64 k) ∧ w'.cell? ⟨w.heap.size, 1, none⟩ = some (.int .i64 a) ∧ w'.cell? ⟨w.heap.size, 2, none⟩ = some (.int .i64 b) ∧ w'.cell? ⟨w.heap.size, 3, none⟩ = some (.slice p ps.length c)) 20 (by kernel_rfl) ?_
  generalize hW : ({ (w1.drewN nq) with drawn := _ } : World) = W
  have eW : W.heap = w1.heap ∧ W.os = w1.os ∧ W.tape = w1.tape ∧ W.output = w1.output := by rw [← hW]; exact ⟨rfl, rfl, rfl, rfl⟩
  have HS0 : Hid (W.cell? ⟨y, 0, none⟩ = some (.int .i64 wd) ∧ W.cell? ⟨y, 1, none⟩ = some (.slice aa inn.length ca) ∧ W.cell? ⟨w.heap.size, 0, none⟩ = some (.int .i64 k) ∧ W.cell? ⟨w.heap.size, 1, none⟩ = some (.int .i64 a) ∧ W.cell? ⟨w.heap.size, 2, none⟩ = some (.int .i64 b) ∧ W.cell? ⟨w.heap.size, 3, none⟩ = some (.slice p ps.length c)) := by rw [← hW]; exact ⟨cx1, cx2, d0, d1, d2, d3⟩
  have HEW := Lib.hid eW
  clear hSS hW eW
  refine Lat.take' 23 [18, 19, 20] (i := 0) (v := ?v1) rfl rfl rfl (by kernel_rfl) (by kernel_rfl) (by kernel_rfl) (by kernel_rfl) (fun _ _ _ h => h) HS0.out ?hy1 ?_
  case hy1 =>
    intro w' hS'
    obtain ⟨e0, e1, e2, e3, e4, e5⟩ := hS'
    go_simp
    first | done | with_reducible rfl
  simp only [List.setIfInBounds_toArray, List.set_cons_zero, List.set_cons_succ]
  refine Lat.take' 24 [2, 3, 4, 17, 20] (i := 1) (v := ?v2) rfl rfl rfl (by kernel_rfl) (by kernel_rfl) (by kernel_rfl) (by kernel_rfl) (fun _ _ _ h => h) HS0.out ?hy2 ?_
  case hy2 =>
    intro w' hS'
    obtain ⟨e0, e1, e2, e3, e4, e5⟩ := hS'
    go_simp
    first | done | with_reducible rfl
  simp only [List.setIfInBounds_toArray, List.set_cons_zero, List.set_cons_succ]
  refine Lat.take' 25 [3, 4, 17, 20] (i := 2) (v := ?v3) rfl rfl rfl (by kernel_rfl) (by kernel_rfl) (by kernel_rfl) (by kernel_rfl) (fun _ _ _ h => h) HS0.out ?hy3 ?_
  case hy3 =>
    intro w' hS'
    obtain ⟨e0, e1, e2, e3, e4, e5⟩ := hS'
    go_simp
    first | done | with_reducible rfl
  simp only [List.setIfInBounds_toArray, List.set_cons_zero, List.set_cons_succ]
  refine Lat.take' 26 [4, 17, 20] (i := 3) (v := ?v4) rfl rfl rfl (by kernel_rfl) (by kernel_rfl) (by kernel_rfl) (by kernel_rfl) (fun _ _ _ h => h) HS0.out ?hy4 ?_
  case hy4 =>
    intro w' hS'
    obtain ⟨e0, e1, e2, e3, e4, e5⟩ := hS'
    go_simp
    first | done | with_reducible rfl
  simp only [List.setIfInBounds_toArray, List.set_cons_zero, List.set_cons_succ]
  refine Lat.take' 27 [17, 20] (i := 4) (v := ?v5) rfl rfl rfl (by kernel_rfl) (by kernel_rfl) (by kernel_rfl) (by kernel_rfl) (fun _ _ _ h => h) HS0.out ?hy5 ?_
  case hy5 =>
    intro w' hS'
    obtain ⟨e0, e1, e2, e3, e4, e5⟩ := hS'
    go_simp
    first | done | with_reducible rfl
  simp only [List.setIfInBounds_toArray, List.set_cons_zero, List.set_cons_succ]
  refine Lat.take' 28 [6, 15, 16, 17, 20] (i := 5) (v := ?v6) rfl rfl rfl (by kernel_rfl) (by kernel_rfl) (by kernel_rfl) (by kernel_rfl) (fun _ _ _ h => h) HS0.out ?hy6 ?_
  case hy6 =>
    intro w' hS'
    obtain ⟨e0, e1, e2, e3, e4, e5⟩ := hS'
    go_simp
    first | done | with_reducible rfl
  simp only [List.setIfInBounds_toArray, List.set_cons_zero, List.set_cons_succ]
  refine Lat.take' 29 [15, 16, 17, 20] (i := 6) (v := ?v7) rfl rfl rfl (by kernel_rfl) (by kernel_rfl) (by kernel_rfl) (by kernel_rfl) (fun _ _ _ h => h) HS0.out ?hy7 ?_
  case hy7 =>
    intro w' hS'
    obtain ⟨e0, e1, e2, e3, e4, e5⟩ := hS'
    go_simp
    first | done | with_reducible rfl
  simp only [List.setIfInBounds_toArray, List.set_cons_zero, List.set_cons_succ]
  refine Lat.take' 30 [8, 15, 16, 17, 20] (i := 7) (v := ?v8) rfl rfl rfl (by kernel_rfl) (by kernel_rfl) (by kernel_rfl) (by kernel_rfl) (fun _ _ _ h => h) HS0.out ?hy8 ?_
  case hy8 =>
    intro w' hS'
    obtain ⟨e0, e1, e2, e3, e4, e5⟩ := hS'
    go_simp
    first | done | with_reducible rfl
  simp only [List.setIfInBounds_toArray, List.set_cons_zero, List.set_cons_succ]
  refine Lat.take' 31 [15, 16, 17, 20] (i := 8) (v := ?v9) rfl rfl rfl (by kernel_rfl) (by kernel_rfl) (by kernel_rfl) (by kernel_rfl) (fun _ _ _ h => h) HS0.out ?hy9 ?_
  case hy9 =>
    intro w' hS'
    obtain ⟨e0, e1, e2, e3, e4, e5⟩ := hS'
    go_simp
    first | done | with_reducible rfl
  simp only [List.setIfInBounds_toArray, List.set_cons_zero, List.set_cons_succ]
  refine Lat.take' 32 [10, 15, 16, 17, 20] (i := 9) (v := ?v10) rfl rfl rfl (by kernel_rfl) (by kernel_rfl) (by kernel_rfl) (by kernel_rfl) (fun _ _ _ h => h) HS0.out ?hy10 ?_
  case hy10 =>
    intro w' hS'
    obtain ⟨e0, e1, e2, e3, e4, e5⟩ := hS'
    go_simp
    first | done | with_reducible rfl
  simp only [List.setIfInBounds_toArray, List.set_cons_zero, List.set_cons_succ]
  refine Lat.take' 33 [15, 16, 17, 20] (i := 10) (v := ?v11) rfl rfl rfl (by kernel_rfl) (by kernel_rfl) (by kernel_rfl) (by kernel_rfl) (fun _ _ _ h => h) HS0.out ?hy11 ?_
  case hy11 =>
    intro w' hS'
    obtain ⟨e0, e1, e2, e3, e4, e5⟩ := hS'
    go_simp
    first | done | with_reducible rfl
  simp only [List.setIfInBounds_toArray, List.set_cons_zero, List.set_cons_succ]
  refine Lat.take' 35 [13, 14, 15, 16, 17, 20] (i := 12) (v := ?v12) rfl rfl rfl (by kernel_rfl) (by kernel_rfl) (by kernel_rfl) (by kernel_rfl) (fun _ _ _ h => h) HS0.out ?hy12 ?_
  case hy12 =>
    intro w' hS'
    obtain ⟨e0, e1, e2, e3, e4, e5⟩ := hS'
    go_simp
    first | done | with_reducible rfl
  simp only [List.setIfInBounds_toArray, List.set_cons_zero, List.set_cons_succ]
  refine Lat.take' 36 [14, 15, 16, 17, 20] (i := 13) (v := ?v13) rfl rfl rfl (by kernel_rfl) (by kernel_rfl) (by kernel_rfl) (by kernel_rfl) (fun _ _ _ h => h) HS0.out ?hy13 ?_
  case hy13 =>
    intro w' hS'
    obtain ⟨e0, e1, e2, e3, e4, e5⟩ := hS'
    go_simp
    first | done | with_reducible rfl
  simp only [List.setIfInBounds_toArray, List.set_cons_zero, List.set_cons_succ]
  obtain ⟨v1, W1, r1, p', c', rfl, F1, v2, W2, r2, ⟨a2, m2, c2, rfl⟩, hc0, hc2, hf2, X2, md2, F2⟩ := CP.out W HEW.out.1 HEW.out.2.1 HEW.out.2.2.1 HEW.out.2.2.2
  have hsz : W.heap.size = w1.heap.size := by rw [HEW.out.1]
  have HSA : Hid ((W.alloc (.cells #[] 3)).cell? ⟨y, 0, none⟩ = some (.int .i64 wd) ∧ (W.alloc (.cells #[] 3)).cell? ⟨y, 1, none⟩ = some (.slice aa inn.length ca) ∧ (W.alloc (.cells #[] 3)).cell? ⟨w.heap.size, 0, none⟩ = some (.int .i64 k) ∧ (W.alloc (.cells #[] 3)).cell? ⟨w.heap.size, 1, none⟩ = some (.int .i64 a) ∧ (W.alloc (.cells #[] 3)).cell? ⟨w.heap.size, 2, none⟩ = some (.int .i64 b) ∧ (W.alloc (.cells #[] 3)).cell? ⟨w.heap.size, 3, none⟩ = some (.slice p ps.length c)) := by
    have e : ∀ q o, q < W.heap.size → (W.alloc (.cells #[] 3)).cell? ⟨q, o, none⟩ = W.cell? ⟨q, o, none⟩ := fun q o hq => World.cell?_of_block (w := W) (a := ⟨q, o, none⟩) (Below.heap_alloc W _ q hq)
    rw [e _ _ (by omega), e _ _ (by omega), e _ _ (by omega), e _ _ (by omega), e _ _ (by omega), e _ _ (by omega)]
    exact HS0.out
  have HS1 : Hid (W1.cell? ⟨y, 0, none⟩ = some (.int .i64 wd) ∧ W1.cell? ⟨y, 1, none⟩ = some (.slice aa inn.length ca) ∧ W1.cell? ⟨w.heap.size, 0, none⟩ = some (.int .i64 k) ∧ W1.cell? ⟨w.heap.size, 1, none⟩ = some (.int .i64 a) ∧ W1.cell? ⟨w.heap.size, 2, none⟩ = some (.int .i64 b) ∧ W1.cell? ⟨w.heap.size, 3, none⟩ = some (.slice p ps.length c)) := by
    rw [F1 _ _ hy1, F1 _ _ hy1, F1 _ _ hw1, F1 _ _ hw1, F1 _ _ hw1, F1 _ _ hw1]
    exact ⟨cx1, cx2, d0, d1, d2, d3⟩
  refine Lat.one_value 34 (i := 11) (v := .slice (some ⟨W.heap.size, 0, none⟩) 0 0) (w' := W.alloc (.cells #[] 3)) (by kernel_rfl) rfl rfl rfl (by go_simp) HSA.out ?_
  simp only [List.setIfInBounds_toArray, List.set_cons_zero, List.set_cons_succ]
  refine Lat.one_append 37 (i := 14) (.tmp 34) (.tmp 36) 22 (by kernel_rfl) rfl rfl rfl rfl rfl rfl r1 HS1.out ?_
  simp only [List.setIfInBounds_toArray, List.set_cons_zero, List.set_cons_succ]
  refine Lat.take' 38 [16, 17, 20] (i := 15) (v := ?v14) rfl rfl rfl (by kernel_rfl) (by kernel_rfl) (by kernel_rfl) (by kernel_rfl) (fun _ _ _ h => h) HS1.out ?hy14 ?_
  case hy14 =>
    intro w' hS'
    obtain ⟨e0, e1, e2, e3, e4, e5⟩ := hS'
    go_simp
    first | done | with_reducible rfl
  simp only [List.setIfInBounds_toArray, List.set_cons_zero, List.set_cons_succ]
  have HSB : Hid ((W1.alloc (.cells #[.int .i64 k, .int .i64 a, .int .i64 b, .slice p' ps.length c'] 24)).cell? ⟨y, 0, none⟩ = some (.int .i64 wd) ∧ (W1.alloc (.cells #[.int .i64 k, .int .i64 a, .int .i64 b, .slice p' ps.length c'] 24)).cell? ⟨y, 1, none⟩ = some (.slice aa inn.length ca) ∧ (W1.alloc (.cells #[.int .i64 k, .int .i64 a, .int .i64 b, .slice p' ps.length c'] 24)).cell? ⟨w.heap.size, 0, none⟩ = some (.int .i64 k) ∧ (W1.alloc (.cells #[.int .i64 k, .int .i64 a, .int .i64 b, .slice p' ps.length c'] 24)).cell? ⟨w.heap.size, 1, none⟩ = some (.int .i64 a) ∧ (W1.alloc (.cells #[.int .i64 k, .int .i64 a, .int .i64 b, .slice p' ps.length c'] 24)).cell? ⟨w.heap.size, 2, none⟩ = some (.int .i64 b) ∧ (W1.alloc (.cells #[.int .i64 k, .int .i64 a, .int .i64 b, .slice p' ps.length c'] 24)).cell? ⟨w.heap.size, 3, none⟩ = some (.slice p ps.length c)) := by
    have e : ∀ q o, (W1.cell? ⟨q, o, none⟩).isSome = true → (W1.alloc (.cells #[.int .i64 k, .int .i64 a, .int .i64 b, .slice p' ps.length c'] 24)).cell? ⟨q, o, none⟩ = W1.cell? ⟨q, o, none⟩ := fun q o hq => by
      obtain ⟨u, hu⟩ := Option.isSome_iff_exists.1 hq
      exact World.cell?_of_block (w := W1) (a := ⟨q, o, none⟩) (Below.heap_alloc W1 _ q (World.block_lt_of_cell? W1 _ hu))
    obtain ⟨e0, e1, e2, e3, e4, e5⟩ := HS1.out
    rw [e _ _ (by rw [e0]; rfl), e _ _ (by rw [e1]; rfl), e _ _ (by rw [e2]; rfl), e _ _ (by rw [e3]; rfl), e _ _ (by rw [e4]; rfl), e _ _ (by rw [e5]; rfl)]
    exact HS1.out
  have HS2 : Hid (W2.cell? ⟨y, 0, none⟩ = some (.int .i64 wd) ∧ W2.cell? ⟨y, 1, none⟩ = some (.slice aa inn.length ca) ∧ W2.cell? ⟨w.heap.size, 0, none⟩ = some (.int .i64 k) ∧ W2.cell? ⟨w.heap.size, 1, none⟩ = some (.int .i64 a) ∧ W2.cell? ⟨w.heap.size, 2, none⟩ = some (.int .i64 b) ∧ W2.cell? ⟨w.heap.size, 3, none⟩ = some (.slice p ps.length c)) := by
    rw [F2, F2, F2, F2]
    exact ⟨hc0, hc2, d0, d1, d2, d3⟩
  refine Lat.one_value 39 (i := 16) (v := .slice (some ⟨W1.heap.size, 0, none⟩) 1 1) (w' := (W1.alloc (.cells #[.int .i64 k, .int .i64 a, .int .i64 b, .slice p' ps.length c'] 24))) (by kernel_rfl) rfl rfl rfl (by go_simp) HSB.out ?_
  simp only [List.setIfInBounds_toArray, List.set_cons_zero, List.set_cons_succ]
  refine Lat.one_append 40 (i := 17) (.tmp 27) (.tmp 39) 36 (by kernel_rfl) rfl rfl rfl rfl rfl rfl r2 HS2.out ?_
  simp only [List.setIfInBounds_toArray, List.set_cons_zero, List.set_cons_succ]
  refine Lat.take' 41 [19, 20] (i := 18) (v := ?v15) rfl rfl rfl (by kernel_rfl) (by kernel_rfl) (by kernel_rfl) (by kernel_rfl) (fun _ _ _ h => h) HS2.out ?hy15 ?_
  case hy15 =>
    intro w' hS'
    obtain ⟨e0, e1, e2, e3, e4, e5⟩ := hS'
    go_simp
    first | done | with_reducible rfl
  simp only [List.setIfInBounds_toArray, List.set_cons_zero, List.set_cons_succ]
  refine Lat.take' 42 [20] (i := 19) (v := ?v16) rfl rfl rfl (by kernel_rfl) (by kernel_rfl) (by kernel_rfl) (by kernel_rfl) (fun _ _ _ h => h) HS2.out ?hy16 ?_
  case hy16 =>
    intro w' hS'
    obtain ⟨e0, e1, e2, e3, e4, e5⟩ := hS'
    go_simp
    first | done | with_reducible rfl
  simp only [List.setIfInBounds_toArray, List.set_cons_zero, List.set_cons_succ]
  have HX2 := Lib.hid X2
  have HM2 := Lib.hid md2
  clear X2 md2 r1 r2 CP F1 F2
  refine Lat.last_store (w' := W2.setCell ⟨y, 1, none⟩ (.slice a2 m2 c2)) (by kernel_rfl) rfl rfl rfl (by go_simp) (by kernel_rfl) ?_
  refine NoPanic.normal ?_
  go_wp2_with fail
  go_ret
  exact ⟨rfl, ⟨_, p', c', HX2.out⟩, HM2.out⟩
end
end Go.Proofs.Ytedkackmccnkfaa.Xp
