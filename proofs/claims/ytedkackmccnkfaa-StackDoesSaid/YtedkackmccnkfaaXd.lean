/- Both stacks at every call. No condition. -/
import Derived.Test.YtedkackmccnkfaaXo
set_option linter.unusedVariables false
set_option linter.unusedSimpArgs false
namespace Go.Proofs.Ytedkackmccnkfaa.Xd
open Go.RowKit Go.Shelf
open Fr Fs Ft Ar Sk Pu Pv Fa Po Nw Bk Fz Fy Mq Mj Mk LawMaps Xs Xp Xo
/-- The program's stack holds L, the document's inn; blocks F stay. -/
structure B2 (W w : World) (F : Nat → Obj → Prop) (g ga r y wd : Nat) (L : List Fm) (inn : List In) : Prop where
  stk : ∃ xs, Stk w g ga r 5 wd xs L
  ref : ∃ v, Xr w W.heap.size y wd v inn
  old : W.heap.size ≤ g ∧ W.heap.size ≤ r
  bel : Below W.heap.size W w
  fr : ∀ k o, F k o → w.heap[k]? = some o ∧ ∃ cs, o = .cells cs 55 (0, 0)
section
variable {W w w' : World} {F : Nat → Obj → Prop} {g ga r y wd : Nat} {L L' : List Fm} {inn inn' : List In}
theorem B2.below (h : B2 W w F g ga r y wd L inn) (m : Below w.heap.size w w') : B2 W w' F g ga r y wd L inn := by
  obtain ⟨xs, K⟩ := h.stk
  obtain ⟨v, X⟩ := h.ref
  exact ⟨⟨xs, Pu.Stk.keepB K m⟩, ⟨v, X.keepB m⟩, h.old, Kit.stepB h.bel m, fun k o f => ⟨Kit.keepB (h.fr k o f).1 m, (h.fr k o f).2⟩⟩
theorem B2.less (h : B2 W w F g ga r y wd L inn) {F' : Nat → Obj → Prop} (hf : ∀ k o, F' k o → F k o) : B2 W w F' g ga r y wd L inn := ⟨h.stk, h.ref, h.old, h.bel, fun k o f => h.fr k o (hf k o f)⟩
theorem B2.more (h : B2 W w F g ga r y wd L inn) (cs : Array Value) : B2 W (w.alloc (.cells cs 55 (0, 0))) (fun k o' => F k o' ∨ (k = w.heap.size ∧ o' = .cells cs 55 (0, 0))) g ga r y wd L inn := by
  have h' := h.below (Kit.allocB (Below.refl _ _) (.cells cs 55 (0, 0)))
  refine ⟨h'.stk, h'.ref, h'.old, h'.bel, fun k o' f => ?_⟩
  rcases f with f | ⟨rfl, rfl⟩
  · exact h'.fr k o' f
  · exact ⟨Kit.new_blk w _, cs, rfl⟩
theorem ne_of_types {q q' : Nat} {cs cs' : Array Value} {T T' : TypeId} {z z' : Nat × Nat} (h : w.heap[q]? = some (.cells cs T z)) (h' : w.heap[q']? = some (.cells cs' T' z')) (hT : T ≠ T') : q ≠ q' := fun e => by
  subst e
  rw [h] at h'
  cases h'
  exact hT rfl
/-- A call to the program's. -/
theorem B2.pstep (h : B2 W w F g ga r y wd L inn) (m : Kit.Mod [g, r] w w') (K' : ∃ xs, Stk w' g ga r 5 wd xs L') : B2 W w' F g ga r y wd L' inn := by
  obtain ⟨xs, K⟩ := h.stk
  obtain ⟨v, X⟩ := h.ref
  have hrow : ∃ cs, w.heap[r]? = some (.cells cs 40 (0, 0)) := ⟨_, K.own.row⟩
  obtain ⟨cr, hr⟩ := hrow
  have far : ∀ q cs T, w.heap[q]? = some (Obj.cells cs T (0, 0)) → T ≠ 73 → T ≠ 40 → w'.heap[q]? = w.heap[q]? := fun q cs T e h1 h2 =>
    m.block q (Kit.lt_of e) (by
      simp only [List.mem_cons, List.not_mem_nil, or_false]
      rintro (rfl | rfl)
      · rw [K.obj] at e; cases e; exact h1 rfl
      · rw [hr] at e; cases e; exact h2 rfl)
  refine ⟨K', ⟨v, X.keep (fun q cs T e hT => far q cs T e ?_ ?_) m.size⟩, h.old, Kit.step h.bel m (fun x hx => ?_), fun k o f => ?_⟩
  · rcases hT with rfl | rfl | rfl <;> decide
  · rcases hT with rfl | rfl | rfl <;> decide
  · simp at hx; rcases hx with rfl | rfl
    · exact h.old.1
    · exact h.old.2
  · obtain ⟨e, cs, rfl⟩ := h.fr k o f
    exact ⟨(far k cs _ e (by decide) (by decide)).trans e, cs, rfl⟩
/-- A call to the document's. -/
theorem B2.rstep (h : B2 W w F g ga r y wd L inn) (m : ModP (KT W.heap.size w) w w') (X' : ∃ v, Xr w' W.heap.size y wd v inn') : B2 W w' F g ga r y wd L inn' := by
  obtain ⟨xs, K⟩ := h.stk
  have hrow : ∃ cs, w.heap[r]? = some (.cells cs 40 (0, 0)) := ⟨_, K.own.row⟩
  obtain ⟨cr, hr⟩ := hrow
  have far : ∀ q cs T, w.heap[q]? = some (Obj.cells cs T (0, 0)) → T ≠ 52 → T ≠ 24 → T ≠ 3 → w'.heap[q]? = w.heap[q]? := fun q cs T e h1 h2 h3 =>
    m.block q (Kit.lt_of e) (fun ⟨_, cs', T', e', hT⟩ => by
      rw [e] at e'
      cases e'
      rcases hT with h | h | h
      · exact h1 h
      · exact h2 h
      · exact h3 h)
  refine ⟨⟨xs, Stk.same K (far g _ _ K.obj (by decide) (by decide) (by decide)) (far ga _ _ K.own.obj (by decide) (by decide) (by decide)) (far r _ _ hr (by decide) (by decide) (by decide))⟩, X', h.old, Mq.step h.bel m (fun k hk => hk.1), fun k o f => ?_⟩
  obtain ⟨e, cs, rfl⟩ := h.fr k o f
  exact ⟨(far k cs _ e (by decide) (by decide) (by decide)).trans e, cs, rfl⟩
/-- What Push tells, and leaves. -/
def pushE (wd : Nat) (L : List Fm) (f : Fm) : Int := if rightE f.k f.a f.b f.ps ≠ 0 then rightE f.k f.a f.b f.ps else if wd < (lay L).length + (f.ps.length + 1) then 5 else 0
def pushL (wd : Nat) (L : List Fm) (f : Fm) : List Fm := if rightE f.k f.a f.b f.ps ≠ 0 then L else if wd < (lay L).length + (f.ps.length + 1) then L else L ++ [f]
theorem B2.push (h : B2 W w F g ga r y wd L inn) (hw : wd ≤ 65536) (k a b : Int) (p : Option Addr) (c : Nat) (ps : List Int) (S : Sl W p ps) (hl : ps.length ≤ 17592186044416) :
    Calls Try.prog 16 #[.pointer (some ⟨g, 0, none⟩), frameV k a b p ps.length c] w fun e w' => e = .returned (.int .i64 (pushE wd L ⟨k, a, b, ps⟩)) ∧ B2 W w' F g ga r y wd (pushL wd L ⟨k, a, b, ps⟩) inn := by
  obtain ⟨xs, K⟩ := h.stk
  have Sw := S.keepB h.bel
  unfold pushE pushL
  simp only
  by_cases h0 : rightE k a b ps ≠ 0
  · rw [if_pos h0, if_pos h0]
    exact (push_no K k a b p c ps Sw hl h0).mono (fun e w' ⟨he, hb⟩ => ⟨he, h.below hb⟩)
  · rw [if_neg h0, if_neg h0]
    have h1 : rightE k a b ps = 0 := by omega
    by_cases room : wd < (lay L).length + (ps.length + 1)
    · rw [if_pos room, if_pos room]
      exact (push_full K k a b p c ps Sw hl hw h1 room).mono (fun e w' ⟨he, hb⟩ => ⟨he, h.below hb⟩)
    · rw [if_neg room, if_neg room]
      refine (push_ok K k a b p c ps Sw (fun h0 b' off' e => ?_) hw h1 (by omega)).mono (fun e w' ⟨he, m, K'⟩ => ⟨he, h.pstep m ⟨_, K'⟩⟩)
      obtain ⟨b2, o2, e2, hb2, _⟩ := S.cells h0
      rw [e2] at e
      simp at e
      have := h.old
      omega
theorem B2.rpush (h : B2 W w F g ga r y wd L inn) (hw : wd ≤ 65536) (hu : (lay (inn.map (·.1))).length ≤ wd) (k a b : Int) (p : Option Addr) (c : Nat) (ps : List Int) (S : Sl W p ps) (hl : ps.length ≤ 17592186044416) :
    Calls Try.prog 35 #[.pointer (some ⟨y, 0, none⟩), frameV k a b p ps.length c] w fun e w' => e = .returned (.int .i64 (pushE wd (inn.map (·.1)) ⟨k, a, b, ps⟩)) ∧ ∃ inn', B2 W w' F g ga r y wd L inn' ∧ inn'.map (·.1) = pushL wd (inn.map (·.1)) ⟨k, a, b, ps⟩ := by
  obtain ⟨v, X⟩ := h.ref
  have Sw := S.keepB h.bel
  unfold pushE pushL
  simp only
  by_cases h0 : rightE k a b ps ≠ 0
  · rw [if_pos h0, if_pos h0]
    exact (rpush_no X k a b p c ps Sw hl h0).mono (fun e w' ⟨he, hb⟩ => ⟨he, inn, h.below hb, rfl⟩)
  · rw [if_neg h0, if_neg h0]
    have h1 : rightE k a b ps = 0 := by omega
    by_cases room : wd < (lay (inn.map (·.1))).length + (ps.length + 1)
    · rw [if_pos room, if_pos room]
      exact (rpush_full X k a b p c ps Sw hl hw hu h1 room).mono (fun e w' ⟨he, hb⟩ => ⟨he, inn, h.below hb, rfl⟩)
    · rw [if_neg room, if_neg room]
      exact (rpush_ok X k a b p c ps Sw hl hw h1 (by omega)).mono (fun e w' ⟨he, ⟨v', p', c', X'⟩, m⟩ => ⟨he, inn ++ [(⟨k, a, b, ps⟩, p', c')], h.rstep m ⟨v', X'⟩, by simp⟩)
abbrev act (k n fk fa fb : Int) (p : Option Addr) (l c : Nat) : Array Value := #[.int .i64 k, .int .i64 n, .int .i64 fk, .int .i64 fa, .int .i64 fb, .slice p l c]
theorem cells6 {q : Nat} {a0 a1 a2 a3 a4 a5 : Value} {T : TypeId} (h : w.heap[q]? = some (.cells #[a0, a1, a2, a3, a4, a5] T (0, 0))) : w.cell? ⟨q, 0, none⟩ = some a0 ∧ w.cell? ⟨q, 1, none⟩ = some a1 ∧ w.cell? ⟨q, 2, none⟩ = some a2 ∧ w.cell? ⟨q, 3, none⟩ = some a3 ∧ w.cell? ⟨q, 4, none⟩ = some a4 ∧ w.cell? ⟨q, 5, none⟩ = some a5 :=
  ⟨(Kit.cell_of h 0).trans rfl, (Kit.cell_of h 1).trans rfl, (Kit.cell_of h 2).trans rfl, (Kit.cell_of h 3).trans rfl, (Kit.cell_of h 4).trans rfl, (Kit.cell_of h 5).trans rfl⟩
def actV (k n fk fa fb : Int) (p : Option Addr) (l c : Nat) : Value := .agg #[.int .i64 k, .int .i64 n, .int .i64 fk, .int .i64 fa, .int .i64 fb, .slice p l c]
set_option maxHeartbeats 8000000 in
set_option maxRecDepth 100000 in
theorem do_push (h : B2 W w F g ga r y wd L inn) (he : inn.map (·.1) = L) (hw : wd ≤ 65536) (k n fk fa fb : Int) (p : Option Addr) (c : Nat) (ps : List Int) (S : Sl W p ps) (hl : ps.length ≤ 17592186044416) (hk : k = 0 ∨ k = 1) :
    Calls Try.prog 22 #[.pointer (some ⟨g, 0, none⟩), .pointer (some ⟨y, 0, none⟩), actV k n fk fa fb p ps.length c] w fun e w' => e = .returned (.bool true) ∧ ∃ L' inn', B2 W w' F g ga r y wd L' inn' ∧ inn'.map (·.1) = L' := by
  have hu : (lay (inn.map (·.1))).length ≤ wd := by
    obtain ⟨xs, K⟩ := h.stk
    rw [he]; exact K.fits.1
  have HB := Lib.hid ((h.more (act k n fk fa fb p ps.length c)).below (Below.refl _ _).drew)
  have CE := Lib.hid (show ∀ wr : World, wr.heap[w.heap.size]? = some (.cells (act k n fk fa fb p ps.length c) 55 (0, 0)) → wr.cell? ⟨w.heap.size, 2, none⟩ = some (.int .i64 fk) ∧ wr.cell? ⟨w.heap.size, 3, none⟩ = some (.int .i64 fa) ∧ wr.cell? ⟨w.heap.size, 4, none⟩ = some (.int .i64 fb) ∧ wr.cell? ⟨w.heap.size, 5, none⟩ = some (.slice p ps.length c) from fun wr e => ⟨(cells6 e).2.2.1, (cells6 e).2.2.2.1, (cells6 e).2.2.2.2.1, (cells6 e).2.2.2.2.2⟩)
  obtain ⟨d1, d2, d3, d4⟩ := CE.out _ (HB.out.fr _ _ (.inr ⟨rfl, rfl⟩)).1
  have P1 := HB.out.push hw fk fa fb p c ps S hl
  unfold frameV at P1
  have P1 := Lib.hid P1
  rename_i P12
  have HU := Lib.hid hu
  have HE := Lib.hid he
  have HS := Lib.hid S
  have RP : Hid (∀ (w3 : World) (F : Nat → Obj → Prop) (L' : List Fm), B2 W w3 F g ga r y wd L' inn → Calls Try.prog 35 #[.pointer (some ⟨y, 0, none⟩), .agg #[.int .i64 fk, .int .i64 fa, .int .i64 fb, .slice p ps.length c]] w3 fun e w' => e = .returned (.int .i64 (pushE wd L ⟨fk, fa, fb, ps⟩)) ∧ ∃ inn', B2 W w' F g ga r y wd L' inn' ∧ inn'.map (·.1) = pushL wd L ⟨fk, fa, fb, ps⟩) := fun w3 F L' h3 => by
    have := h3.rpush hw hu fk fa fb p c ps S hl
    rw [he] at this
    exact this
  generalize pushE wd L ⟨fk, fa, fb, ps⟩ = pe at *
  have cc : (pe == pe) = true := by simp
  clear P12 h hu he S
  unfold actV
  rcases hk with rfl | rfl
  all_goals
    go_enter Try.func22, Try.ntmps22
    go_wp2_with fail
    go_region_held3 (fun w' => w'.cell? ⟨w.heap.size, 2, none⟩ = some (.int .i64 fk) ∧ w'.cell? ⟨w.heap.size, 3, none⟩ = some (.int .i64 fa) ∧ w'.cell? ⟨w.heap.size, 4, none⟩ = some (.int .i64 fb) ∧ w'.cell? ⟨w.heap.size, 5, none⟩ = some (.slice p ps.length c))
      (first | exact ⟨by assumption, by assumption, by assumption, by assumption⟩ | go_keep)
      (first
        | (go_at_call 16; refine P1.out.mono ?_; rintro e w3 ⟨rfl, R⟩; obtain ⟨q1, q2, q3, q4⟩ := CE.out w3 (R.fr _ _ (.inr ⟨rfl, rfl⟩)).1; have P2 := Lib.hid (RP.out _ _ _ R); clear R P1)
        | (go_at_call 35; refine P2.out.mono ?_; rintro e w4 ⟨rfl, inn', R, hi⟩; obtain ⟨q1, q2, q3, q4⟩ := CE.out w4 (R.fr _ _ (.inr ⟨rfl, rfl⟩)).1; have HR := Lib.hid (R.less (fun k o f => Or.inl f)); have HI := Lib.hid hi; clear R P2 hi))
    go_wp2_with fail
    go_ret
    exact ⟨rfl, _, inn', HR.out, HI.out⟩
theorem Xr.ylow {B : Nat} {v : Value} (X : Xr w B y wd v inn) : KT B w y := ⟨X.low, _, _, X.obj, .inl rfl⟩
set_option maxHeartbeats 4000000 in
set_option maxRecDepth 100000 in
theorem do_pop (h : B2 W w F g ga r y wd L inn) (he : inn.map (·.1) = L) (hw : wd ≤ 65536) (n fk fa fb : Int) (p0 : Option Addr) (c0 l0 : Nat) :
    Calls Try.prog 22 #[.pointer (some ⟨g, 0, none⟩), .pointer (some ⟨y, 0, none⟩), actV 2 n fk fa fb p0 l0 c0] w fun e w' => e = .returned (.bool true) ∧ ∃ L' inn', B2 W w' F g ga r y wd L' inn' ∧ inn'.map (·.1) = L' := by
  have HB := Lib.hid ((h.more (act 2 n fk fa fb p0 l0 c0)).less (fun k o f => Or.inl f))
  unfold actV
  rcases nil_or_snoc inn with rfl | ⟨inn, x, rfl⟩
  · have hL : L = [] := by rw [← he]; rfl
    subst hL
    obtain ⟨xs, K⟩ := HB.out.stk
    have PO := pop_empty K
    unfold frameV at PO
    have PO := Lib.hid PO
    rename_i PO2
    clear PO2 K h he
    go_enter Try.func22, Try.ntmps22
    go_wp2_with fail
    refine PO.out.mono ?_; rintro e w1 ⟨rfl, b1⟩
    have H1 := Lib.hid ((HB.out.below b1).below (Kit.allocB (Below.refl _ _) (.cells #[.int .i64 0, .int .i64 0, .int .i64 0, .slice none 0 0] 24)))
    have N1 := Lib.hid (Kit.new_blk w1 (.cells #[.int .i64 0, .int .i64 0, .int .i64 0, .slice none 0 0] 24))
    obtain ⟨v, X⟩ := H1.out.ref
    have RO := rpop_empty X
    unfold frameV at RO
    have RO := Lib.hid RO
    rename_i RO2
    clear RO2 X b1 PO
    go_wp2_with fail
    refine RO.out.mono ?_; rintro e w2 ⟨rfl, b2⟩
    have H2 := Lib.hid ((H1.out.below b2).below (Kit.allocB (Below.refl _ _) (.cells #[.int .i64 0, .int .i64 0, .int .i64 0, .slice none 0 0] 24)))
    have N2 := Lib.hid (Kit.new_blk w2 (.cells #[.int .i64 0, .int .i64 0, .int .i64 0, .slice none 0 0] 24))
    have N1' := Lib.hid (Kit.keep_alloc (Kit.keepB N1.out b2) (.cells #[.int .i64 0, .int .i64 0, .int .i64 0, .slice none 0 0] 24))
    have d1 := Kit.cells4 N1'.out
    have S0 : ∀ w : World, Sl w none [] := fun w => ⟨by simp, fun h => by simp at h⟩
    have SM := Aw.same_it (w2.alloc (.cells #[.int .i64 0, .int .i64 0, .int .i64 0, .slice none 0 0] 24)) 0 0 0 none none 0 0 [] (S0 _) (S0 _) (by simp)
    unfold frameV at SM
    have SM := Lib.hid SM
    rename_i SM2
    clear SM2 b2 RO S0
    go_wp2_with fail
    refine SM.out.mono ?_; rintro e w3 ⟨rfl, b3⟩
    have H3 := Lib.hid (H2.out.below b3)
    clear b3
    go_wp2_with fail
    go_ret
    exact ⟨rfl, [], [], H3.out, rfl⟩
  · have hL : L = inn.map (·.1) ++ [x.1] := by rw [← he]; simp
    subst hL
    obtain ⟨xs, K⟩ := HB.out.stk
    have PO := pop_it K hw
    have hin : inn.length ≤ 65536 := by
      have h1 := lay_ge (inn.map (·.1) ++ [x.1])
      have h2 := K.fits.1
      simp at h1
      omega
    have hx : x.1.ps.length ≤ 1000 := (Sk.Good.bounds (K.good x.1 (by simp))).2.2.2.1
    obtain ⟨⟨k, a, b, ps⟩, px, cx⟩ := x
    unfold frameV at PO
    simp only at PO hx
    have PO := Lib.hid PO
    rename_i PO2
    clear PO2 K h he
    go_enter Try.func22, Try.ntmps22
    go_wp2_with fail
    refine PO.out.mono ?_; rintro e w1 ⟨p, c, rfl, own1, m1, K1⟩
    have b1a := Kit.allocB (Below.refl w1.heap.size w1) (.cells #[.int .i64 k, .int .i64 a, .int .i64 b, .slice p ps.length c] 24)
    have H1 := Lib.hid ((HB.out.pstep (m1.mono (S' := [g, r]) (fun z hz => .inl (by simp at hz ⊢; exact .inl hz))) ⟨_, K1⟩).below b1a)
    have O1 := Lib.hid (own_below own1 b1a)
    have N1 := Lib.hid (Kit.new_blk w1 (.cells #[.int .i64 k, .int .i64 a, .int .i64 b, .slice p ps.length c] 24))
    obtain ⟨v, X⟩ := H1.out.ref
    have RO := rpop_it X hin
    have HY := Lib.hid (Xr.ylow X)
    have HYO := Lib.hid X.obj
    unfold valI at RO
    simp only at RO
    have RO := Lib.hid RO
    rename_i RO2
    clear RO2 X own1 m1 K1 PO b1a
    go_wp2_with fail
    refine RO.out.mono ?_; rintro e w2 ⟨rfl, X2, M2, m2⟩
    have b2a := Kit.allocB (Below.refl w2.heap.size w2) (.cells #[.int .i64 k, .int .i64 a, .int .i64 b, .slice px ps.length cx] 24)
    have H2 := Lib.hid ((H1.out.rstep (m2.weaken (fun q _ e => by subst e; exact HY.out)) X2).below b2a)
    have O2 := Lib.hid (own_keepP (w' := w2) O1.out (fun q hq => m2.block q (O1.out.lt q hq).2 (fun e => by
        obtain ⟨_, cs, e2⟩ := own_typ O1.out q hq
        subst e
        rw [HYO.out] at e2
        cases e2)))
    have N1' := Lib.hid (Kit.keep_alloc ((m2.block _ (Kit.lt_of N1.out) (ne_of_types N1.out HYO.out (by decide))).trans N1.out) (.cells #[.int .i64 k, .int .i64 a, .int .i64 b, .slice px ps.length cx] 24))
    have d1 := Kit.cells4 N1'.out
    have SM := Aw.same_it (w2.alloc (.cells #[.int .i64 k, .int .i64 a, .int .i64 b, .slice px ps.length cx] 24)) k a b p px c cx ps ((Sl.of O2.out (by omega)).2.1.keepB b2a) (M2.sl.1.keepB b2a) (by omega)
    unfold frameV at SM
    have SM := Lib.hid SM
    rename_i SM2
    clear SM2 b2a RO m2 M2 X2
    go_wp2_with fail
    refine SM.out.mono ?_; rintro e w3 ⟨rfl, b3⟩
    have H3 := Lib.hid (H2.out.below b3)
    clear b3
    go_wp2_with fail
    go_ret
    exact ⟨rfl, _, _, H3.out, rfl⟩
end
end Go.Proofs.Ytedkackmccnkfaa.Xd
