/- Both lists at every call: the law's helper do. No condition. -/
import Derived.Test.YtobplcehaeejoaaRp2
import Derived.Test.YtobplcehaeejoaaAg
set_option linter.unusedVariables false
set_option linter.unusedSimpArgs false
namespace Go.Proofs.Ytobplcehaeejoaa.Ld
open Go.RowKit Se Mq Sm Ls Nx Lw Ln Lm Lq Rv Ru Rp2
/-- The program's lists hold M, the document's M'; blocks F stay. -/
structure B2 (W w : World) (F : Nat → Obj → Prop) (s r g : Nat) (b : Nat → Nat) (x y n : Nat) (M M' : Nat → List Int) : Prop where
  st : St W w s r g b n M
  rv : ∃ v, Rv w x y g v M'
  ap : (¬ Own s r g b x ∧ ¬ Own s r g b y) ∧ W.heap.size ≤ x ∧ W.heap.size ≤ y
  fr : ∀ k o, F k o → w.heap[k]? = some o ∧ ¬ Own s r g b k ∧ k ≠ x ∧ k ≠ y
section
variable {W w w' : World} {F : Nat → Obj → Prop} {s r g : Nat} {b : Nat → Nat} {x y n : Nat} {M M' : Nat → List Int}
theorem far_own (S : St W w s r g b n M) {p : Option Addr} {m : List Int} (T : Sl w p m) (h0 : 0 < m.length) : ∀ q o, p = some ⟨q, o, none⟩ → ¬ Own s r g b q := fun q o e hk => by
  obtain ⟨q', o', e', hb, hc⟩ := T.cells h0
  rw [e] at e'
  cases e'
  have c0 := hc 0 h0
  rcases hk with rfl | rfl | ⟨i, hi, rfl⟩
  · rw [Kit.cell_of S.lv.obj] at c0
    rcases Nat.eq_zero_or_pos (o + 0) with e | e
    · rw [e] at c0; cases c0
    · rw [show (#[Value.slice (some ⟨r, 0, none⟩) g g] : Array Value)[o + 0]? = none from Array.getElem?_eq_none (by simp; omega)] at c0
      cases c0
  · rw [Kit.cell_of S.lv.row] at c0
    by_cases hl : o + 0 < g
    · rw [mrow_get g _ _ hl] at c0; cases c0
    · rw [show (mrow g (fun i => some (b i)))[o + 0]? = none from Array.getElem?_eq_none (by simp [mrow]; omega)] at c0
      cases c0
  · obtain ⟨es, c, hm⟩ := (S.lv.set i hi).obj
    simp only [World.cell?, hm] at c0
    cases c0
theorem B2.below (h : B2 W w F s r g b x y n M M') (m : Below w.heap.size w w') : B2 W w' F s r g b x y n M M' := by
  obtain ⟨v, R⟩ := h.rv
  exact ⟨h.st.below m, ⟨v, R.keepB m⟩, h.ap, fun k o f => ⟨Kit.keepB (h.fr k o f).1 m, (h.fr k o f).2⟩⟩
theorem B2.mono (h : B2 W w F s r g b x y n M M') {n' : Nat} (hn : n ≤ n') : B2 W w F s r g b x y n' M M' := ⟨h.st.mono hn, h.rv, h.ap, h.fr⟩
theorem B2.less (h : B2 W w F s r g b x y n M M') {F' : Nat → Obj → Prop} (hf : ∀ k o, F' k o → F k o) : B2 W w F' s r g b x y n M M' := ⟨h.st, h.rv, h.ap, fun k o f => h.fr k o (hf k o f)⟩
theorem B2.more (h : B2 W w F s r g b x y n M M') (o : Obj) : B2 W (w.alloc o) (fun k o' => F k o' ∨ (k = w.heap.size ∧ o' = o)) s r g b x y n M M' := by
  have h' := h.below (Kit.allocB (Below.refl _ _) o)
  obtain ⟨v, R⟩ := h.rv
  refine ⟨h'.st, h'.rv, h'.ap, fun k o' f => ?_⟩
  rcases f with f | ⟨rfl, rfl⟩
  · exact h'.fr k o' f
  · exact ⟨Kit.new_blk w o', fun c => by have := h.st.lv.lt _ c; omega, fun c => by have := Kit.lt_of R.obj; omega, fun c => by have := Kit.lt_of R.row; omega⟩
/-- A call to the program's lists. -/
theorem B2.step (h : B2 W w F s r g b x y n M M') {n' : Nat} {M2 : Nat → List Int} (S : St W w' s r g b n' M2) (m : ModP (Own s r g b) w w') : B2 W w' F s r g b x y n' M2 M' := by
  obtain ⟨v, R⟩ := h.rv
  refine ⟨S, ⟨v, (m.block x (Kit.lt_of R.obj) h.ap.1.1).trans R.obj, (m.block y (Kit.lt_of R.row) h.ap.1.2).trans R.row, fun i hi => ?_, R.small, R.ne⟩, h.ap, fun k o f => ⟨(m.block k (Kit.lt_of (h.fr k o f).1) (h.fr k o f).2.1).trans (h.fr k o f).1, (h.fr k o f).2⟩⟩
  obtain ⟨p, c, e, T⟩ := R.rd i hi
  exact ⟨p, c, e, sl_keepP T m (fun h0 q o e => far_own h.st T h0 q o e)⟩
/-- A call to the document's. -/
theorem B2.rstep (h : B2 W w F s r g b x y n M M') {M2 : Nat → List Int} (R : ∃ v, Rv w' x y g v M2) (m : ModP (fun k => k = y) w w') : B2 W w' F s r g b x y n M M2 :=
  ⟨h.st.keepP m (fun k hk c => by subst c; exact h.ap.1.2 hk) (fun k c => by subst c; exact h.ap.2.2), R, h.ap, fun k o f => ⟨(m.block k (Kit.lt_of (h.fr k o f).1) (h.fr k o f).2.2.2).trans (h.fr k o f).1, (h.fr k o f).2⟩⟩
theorem B2.put (h : B2 W w F s r g b x y n M M') (hn : n ≤ 10000) (gen k : Int) : Calls Try.prog 10 #[.pointer (some ⟨s, 0, none⟩), .int .i64 gen, .int .i64 k] w fun e w' => e = .returned (.int .i64 (wc g gen k : Nat)) ∧ B2 W w' F s r g b x y (n + 1) (putF g M gen k) M' := by
  refine (h.st.put (by omega) gen k).mono ?_
  rintro e w' ⟨rfl, S, m⟩
  exact ⟨rfl, h.step S m⟩
theorem B2.drop (h : B2 W w F s r g b x y n M M') (gen k : Int) : Calls Try.prog 19 #[.pointer (some ⟨s, 0, none⟩), .int .i64 gen, .int .i64 k] w fun e w' => e = .returned (.int .i64 (wc g gen k : Nat)) ∧ B2 W w' F s r g b x y n (dropF g M gen k) M' := by
  refine (h.st.drop gen k).mono ?_
  rintro e w' ⟨rfl, S, m⟩
  exact ⟨rfl, h.step S m⟩
theorem B2.rput (h : B2 W w F s r g b x y n M M') (hl : ∀ i, i < g → (M' i).length ≤ 900 ∧ Up (M' i)) (gen k : Int) : Calls Try.prog 24 #[.pointer (some ⟨x, 0, none⟩), .int .i64 gen, .int .i64 k] w fun e w' => e = .returned (.int .i64 (wc g gen k : Nat)) ∧ B2 W w' F s r g b x y n M (putF g M' gen k) := by
  obtain ⟨v, R⟩ := h.rv
  refine (rput_it R hl gen k).mono ?_
  rintro e w' ⟨rfl, v', R', m⟩
  exact ⟨rfl, h.rstep ⟨v', R'⟩ m⟩
theorem B2.rdrop (h : B2 W w F s r g b x y n M M') (hl : ∀ i, i < g → (M' i).length ≤ 900 ∧ Up (M' i)) (gen k : Int) : Calls Try.prog 25 #[.pointer (some ⟨x, 0, none⟩), .int .i64 gen, .int .i64 k] w fun e w' => e = .returned (.int .i64 (wc g gen k : Nat)) ∧ B2 W w' F s r g b x y n M (dropF g M' gen k) := by
  obtain ⟨v, R⟩ := h.rv
  refine (rdrop_it R (fun i hi => by have := (hl i hi).1; omega) gen k).mono ?_
  rintro e w' ⟨rfl, v', R', m⟩
  exact ⟨rfl, h.rstep ⟨v', R'⟩ m⟩
theorem B2.up (h : B2 W w F s r g b x y n M M') (hn : n ≤ 900) : ∀ i, i < g → (M i).length ≤ 900 ∧ Up (M i) := fun i hi => ⟨by have := (h.st.lv.set i hi).size_le; omega, (h.st.lv.set i hi).up⟩
/-- Take of both. -/
theorem B2.take (h : B2 W w F s r g b x y n M M') (hn : n ≤ 1000) (gen : Int) : Calls Try.prog 14 #[.pointer (some ⟨s, 0, none⟩), .int .i64 gen] w fun e w' => ∃ p c, e = .returned (.slice p (allF g M gen).length c) ∧ Sl w' p (allF g M gen) ∧ (∀ q o, p = some ⟨q, o, none⟩ → q ≠ y) ∧ B2 W w' F s r g b x y n (takeF g M gen) M' := by
  refine (h.st.take hn gen).mono ?_
  rintro e w' ⟨v, rfl, o, S, m⟩
  obtain ⟨p, c, rfl, T, hp⟩ := Sl.of o rfl
  obtain ⟨v', R⟩ := h.rv
  exact ⟨p, c, rfl, T, fun q o e => by have := hp q o e; have := Kit.lt_of R.row; omega, h.step S m⟩
theorem B2.rtake (h : B2 W w F s r g b x y n M M') (gen : Int) : Calls Try.prog 26 #[.pointer (some ⟨x, 0, none⟩), .int .i64 gen] w fun e w' => ∃ p c, e = .returned (.slice p (allF g M' gen).length c) ∧ Sl w' p (allF g M' gen) ∧ ModP (fun k => k = y) w w' ∧ B2 W w' F s r g b x y n M (takeF g M' gen) := by
  obtain ⟨v, R⟩ := h.rv
  refine (rtake_it R gen).mono ?_
  rintro e w' ⟨p, c, v', rfl, T, R', m⟩
  exact ⟨p, c, rfl, T, m, h.rstep ⟨v', R'⟩ m⟩
theorem B2.all (h : B2 W w F s r g b x y n M M') (hn : n ≤ 1000) (gen : Int) : Calls Try.prog 11 #[.pointer (some ⟨s, 0, none⟩), .int .i64 gen] w fun e w' => ∃ p c, e = .returned (.slice p (allF g M gen).length c) ∧ Sl w' p (allF g M gen) ∧ B2 W w' F s r g b x y n M M' := by
  refine (h.st.all hn gen).mono ?_
  rintro e w' ⟨v, rfl, o, b1⟩
  obtain ⟨p, c, rfl, T, hp⟩ := Sl.of o rfl
  exact ⟨p, c, rfl, T, h.below b1⟩
theorem B2.rall (h : B2 W w F s r g b x y n M M') (gen : Int) : Calls Try.prog 18 #[.pointer (some ⟨x, 0, none⟩), .int .i64 gen] w fun e w' => ∃ p c, e = .returned (.slice p (allF g M' gen).length c) ∧ Sl w p (allF g M' gen) ∧ w' = w := by
  obtain ⟨v, R⟩ := h.rv
  exact rall_it R gen
theorem B2.has (h : B2 W w F s r g b x y n M M') (gen k : Int) (hk : (Lit.int .i64 k).wf = true) : Calls Try.prog 20 #[.pointer (some ⟨s, 0, none⟩), .int .i64 gen, .int .i64 k] w fun e w' => e = .returned (.bool (hasV g M gen k)) ∧ w' = w := has_it h.st.lv gen k hk
theorem all_len (h : ∀ i, i < g → (M i).length ≤ 900 ∧ Up (M i)) (gen : Int) : (allF g M gen).length ≤ 900 := by
  unfold allF
  split
  · exact (h gen.toNat (by omega)).1
  · simp
theorem B2.rhas (h : B2 W w F s r g b x y n M M') (hl : ∀ i, i < g → (M' i).length ≤ 900 ∧ Up (M' i)) (gen k : Int) : Calls Try.prog 27 #[.pointer (some ⟨x, 0, none⟩), .int .i64 gen, .int .i64 k] w fun e w' => e = .returned (.bool (hasV g M' gen k)) ∧ w' = w := by
  obtain ⟨v, R⟩ := h.rv
  exact rhas_it R gen k (by have := all_len hl gen; omega)
end
abbrev act (k gen a : Int) : Obj := .cells #[.int .i64 k, .int .i64 gen, .int .i64 a] 41 (0, 0)
section
variable {W w : World} {F : Nat → Obj → Prop} {s r g : Nat} {b : Nat → Nat} {x y n : Nat} {M : Nat → List Int}
set_option maxHeartbeats 8000000 in
set_option maxRecDepth 100000 in
theorem do_put (h : B2 W w F s r g b x y n M M) (hn : n ≤ 800) (k gen a : Int) (hk : k = 0 ∨ k = 1) :
    Calls Try.prog 16 #[.pointer (some ⟨s, 0, none⟩), .pointer (some ⟨x, 0, none⟩), .agg #[.int .i64 k, .int .i64 gen, .int .i64 a]] w fun e w' => e = .returned (.bool true) ∧ B2 W w' F s r g b x y (n + 1) (putF g M gen a) (putF g M gen a) := by
  have HB := Lib.hid ((h.more (act k gen a)).below (Below.refl _ _).drew)
  have CE := Lib.hid (show ∀ wr : World, wr.heap[w.heap.size]? = some (act k gen a) → wr.cell? ⟨w.heap.size, 1, none⟩ = some (.int .i64 gen) ∧ wr.cell? ⟨w.heap.size, 2, none⟩ = some (.int .i64 a) from fun wr e => ⟨(Kit.cell_of e 1).trans rfl, (Kit.cell_of e 2).trans rfl⟩)
  obtain ⟨d1, d2⟩ := CE.out _ (HB.out.fr _ _ (.inr ⟨rfl, rfl⟩)).1
  have P1 := Lib.hid (HB.out.put (by omega) gen a)
  have HU := Lib.hid (h.up (by omega))
  clear h
  rcases hk with rfl | rfl
  all_goals
    go_enter Try.func16, Try.ntmps16
    go_wp2_with fail
    go_region_held3 (fun w' => w'.cell? ⟨w.heap.size, 1, none⟩ = some (.int .i64 gen) ∧ w'.cell? ⟨w.heap.size, 2, none⟩ = some (.int .i64 a))
      (first | exact ⟨by assumption, by assumption⟩ | go_keep)
      (first
        | (go_at_call 10; refine P1.out.mono ?_; rintro e w3 ⟨rfl, R⟩; obtain ⟨q1, q2⟩ := CE.out w3 (R.fr _ _ (.inr ⟨rfl, rfl⟩)).1; have P2 := Lib.hid (R.rput HU.out gen a); clear R P1)
        | (go_at_call 24; refine P2.out.mono ?_; rintro e w4 ⟨rfl, R⟩; obtain ⟨q1, q2⟩ := CE.out w4 (R.fr _ _ (.inr ⟨rfl, rfl⟩)).1; have HR := Lib.hid (R.less (fun k o f => Or.inl f)); clear R P2))
    have cc : ((wc g gen a : Int) == (wc g gen a : Int)) = true := by simp
    go_wp2_with fail
    go_ret
    exact ⟨rfl, HR.out⟩
set_option maxHeartbeats 8000000 in
set_option maxRecDepth 100000 in
theorem do_drop (h : B2 W w F s r g b x y n M M) (hn : n ≤ 800) (gen a : Int) :
    Calls Try.prog 16 #[.pointer (some ⟨s, 0, none⟩), .pointer (some ⟨x, 0, none⟩), .agg #[.int .i64 2, .int .i64 gen, .int .i64 a]] w fun e w' => e = .returned (.bool true) ∧ B2 W w' F s r g b x y (n + 1) (dropF g M gen a) (dropF g M gen a) := by
  have HB := Lib.hid ((h.more (act 2 gen a)).below (Below.refl _ _).drew)
  have CE := Lib.hid (show ∀ wr : World, wr.heap[w.heap.size]? = some (act 2 gen a) → wr.cell? ⟨w.heap.size, 1, none⟩ = some (.int .i64 gen) ∧ wr.cell? ⟨w.heap.size, 2, none⟩ = some (.int .i64 a) from fun wr e => ⟨(Kit.cell_of e 1).trans rfl, (Kit.cell_of e 2).trans rfl⟩)
  obtain ⟨d1, d2⟩ := CE.out _ (HB.out.fr _ _ (.inr ⟨rfl, rfl⟩)).1
  have P1 := Lib.hid (HB.out.drop gen a)
  have HU := Lib.hid (h.up (by omega))
  clear h
  go_enter Try.func16, Try.ntmps16
  go_wp2_with fail
  go_region_held3 (fun w' => w'.cell? ⟨w.heap.size, 1, none⟩ = some (.int .i64 gen) ∧ w'.cell? ⟨w.heap.size, 2, none⟩ = some (.int .i64 a))
    (first | exact ⟨by assumption, by assumption⟩ | go_keep)
    (first
      | (go_at_call 19; refine P1.out.mono ?_; rintro e w3 ⟨rfl, R⟩; obtain ⟨q1, q2⟩ := CE.out w3 (R.fr _ _ (.inr ⟨rfl, rfl⟩)).1; have P2 := Lib.hid (R.rdrop HU.out gen a); clear R P1)
      | (go_at_call 25; refine P2.out.mono ?_; rintro e w4 ⟨rfl, R⟩; obtain ⟨q1, q2⟩ := CE.out w4 (R.fr _ _ (.inr ⟨rfl, rfl⟩)).1; have HR := Lib.hid ((R.less (fun k o f => Or.inl f)).mono (Nat.le_succ n)); clear R P2))
  have cc : ((wc g gen a : Int) == (wc g gen a : Int)) = true := by simp
  go_wp2_with fail
  go_ret
  exact ⟨rfl, HR.out⟩
set_option maxHeartbeats 8000000 in
set_option maxRecDepth 100000 in
theorem do_take (h : B2 W w F s r g b x y n M M) (hn : n ≤ 800) (gen a : Int) :
    Calls Try.prog 16 #[.pointer (some ⟨s, 0, none⟩), .pointer (some ⟨x, 0, none⟩), .agg #[.int .i64 3, .int .i64 gen, .int .i64 a]] w fun e w' => e = .returned (.bool true) ∧ B2 W w' F s r g b x y (n + 1) (takeF g M gen) (takeF g M gen) := by
  have HB := Lib.hid ((h.more (act 3 gen a)).below (Below.refl _ _).drew)
  have CE := Lib.hid (show ∀ wr : World, wr.heap[w.heap.size]? = some (act 3 gen a) → wr.cell? ⟨w.heap.size, 1, none⟩ = some (.int .i64 gen) from fun wr e => (Kit.cell_of e 1).trans rfl)
  have d1 := CE.out _ (HB.out.fr _ _ (.inr ⟨rfl, rfl⟩)).1
  have P1 := Lib.hid (HB.out.take (by omega) gen)
  have HL := Lib.hid (all_len (h.up (by omega)) gen)
  clear h
  go_enter Try.func16, Try.ntmps16
  go_wp2_with fail
  go_region_held3 (fun w' => w'.cell? ⟨w.heap.size, 1, none⟩ = some (.int .i64 gen))
    (first | assumption | go_keep)
    (first
      | (go_at_call 14; refine P1.out.mono ?_; rintro e w3 ⟨p, c, rfl, T, hp, R⟩; have q1 := CE.out w3 (R.fr _ _ (.inr ⟨rfl, rfl⟩)).1; have P2 := Lib.hid (R.rtake gen); have HT := Lib.hid (And.intro T hp); clear R P1 T hp)
      | (go_at_call 26; refine P2.out.mono ?_; rintro e w4 ⟨p2, c2, rfl, T2, m, R⟩; have q1 := CE.out w4 (R.fr _ _ (.inr ⟨rfl, rfl⟩)).1; have Q := Lib.hid (same_it w4 p p2 c c2 (allF g M gen) (sl_keepP HT.out.1 m (fun _ q o e => HT.out.2 q o e)) T2 (Nat.le_trans HL.out (by omega))); have HR := Lib.hid R; clear R P2 T2 m)
      | (go_at_call 12; refine Q.out.mono ?_; rintro e w5 ⟨rfl, nn, rfl⟩; have q1 := CE.out _ ((HR.out.below (Kit.drawB (Below.refl _ _) nn)).fr _ _ (.inr ⟨rfl, rfl⟩)).1; have HR5 := Lib.hid (((HR.out.below (Kit.drawB (Below.refl _ _) nn)).less (fun k o f => Or.inl f)).mono (Nat.le_succ n))))
  go_wp2_with fail
  go_ret
  exact ⟨rfl, HR5.out⟩
set_option maxHeartbeats 8000000 in
set_option maxRecDepth 100000 in
theorem do_has (h : B2 W w F s r g b x y n M M) (hn : n ≤ 800) (k gen a : Int) (ha : (Lit.int .i64 a).wf = true) (hk : k ≠ 0 ∧ k ≠ 1 ∧ k ≠ 2 ∧ k ≠ 3) :
    Calls Try.prog 16 #[.pointer (some ⟨s, 0, none⟩), .pointer (some ⟨x, 0, none⟩), .agg #[.int .i64 k, .int .i64 gen, .int .i64 a]] w fun e w' => e = .returned (.bool true) ∧ B2 W w' F s r g b x y (n + 1) M M := by
  have HB := Lib.hid ((h.more (act k gen a)).below (Below.refl _ _).drew)
  have CE := Lib.hid (show ∀ wr : World, wr.heap[w.heap.size]? = some (act k gen a) → wr.cell? ⟨w.heap.size, 1, none⟩ = some (.int .i64 gen) ∧ wr.cell? ⟨w.heap.size, 2, none⟩ = some (.int .i64 a) from fun wr e => ⟨(Kit.cell_of e 1).trans rfl, (Kit.cell_of e 2).trans rfl⟩)
  obtain ⟨d1, d2⟩ := CE.out _ (HB.out.fr _ _ (.inr ⟨rfl, rfl⟩)).1
  have P1 := Lib.hid (HB.out.has gen a ha)
  have P2 := Lib.hid (HB.out.rhas (h.up (by omega)) gen a)
  have P3 := Lib.hid (HB.out.all (by omega) gen)
  have HL := Lib.hid (all_len (h.up (by omega)) gen)
  have k0 : (k == 0) = false := by simpa using hk.1
  have k1 : (k == 1) = false := by simpa using hk.2.1
  have k2 : (k == 2) = false := by simpa using hk.2.2.1
  have k3 : (k == 3) = false := by simpa using hk.2.2.2
  have bb : (hasV g M gen a == hasV g M gen a) = true := by simp
  clear h hk ha
  go_enter Try.func16, Try.ntmps16
  go_wp2_with fail
  go_region_held3 (fun w' => w'.cell? ⟨w.heap.size, 1, none⟩ = some (.int .i64 gen) ∧ w'.cell? ⟨w.heap.size, 2, none⟩ = some (.int .i64 a))
    (first | exact ⟨by assumption, by assumption⟩ | go_keep)
    (first
      | (go_at_call 20; refine P1.out.mono ?_; rintro e _ ⟨rfl, rfl⟩)
      | (go_at_call 27; refine P2.out.mono ?_; rintro e _ ⟨rfl, rfl⟩)
      | (go_at_call 11; refine P3.out.mono ?_; rintro e w3 ⟨p, c, rfl, T, R⟩; obtain ⟨q1, q2⟩ := CE.out w3 (R.fr _ _ (.inr ⟨rfl, rfl⟩)).1; have P4 := Lib.hid (R.rall gen); have HT := Lib.hid T; have HR := Lib.hid R; clear R T)
      | (go_at_call 18; refine P4.out.mono ?_; rintro e w4 ⟨p2, c2, rfl, T2, hw⟩; subst hw; have Q := Lib.hid (same_it w4 p p2 c c2 (allF g M gen) HT.out T2 (Nat.le_trans HL.out (by omega))))
      | (go_at_call 12; refine Q.out.mono ?_; rintro e w5 ⟨rfl, nn, rfl⟩; obtain ⟨q1', q2'⟩ := CE.out _ ((HR.out.below (Kit.drawB (Below.refl _ _) nn)).fr _ _ (.inr ⟨rfl, rfl⟩)).1; have HR5 := Lib.hid (((HR.out.below (Kit.drawB (Below.refl _ _) nn)).less (fun k o f => Or.inl f)).mono (Nat.le_succ n))))
  go_wp2_with fail
  go_ret
  exact ⟨rfl, HR5.out⟩
end
end Go.Proofs.Ytobplcehaeejoaa.Ld
