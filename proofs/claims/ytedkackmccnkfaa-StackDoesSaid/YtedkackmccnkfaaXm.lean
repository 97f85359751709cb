/- Both stacks' pointers are turned. No condition. -/
import Derived.Test.YtedkackmccnkfaaXd
set_option linter.unusedVariables false
set_option linter.unusedSimpArgs false
namespace Go.Proofs.Ytedkackmccnkfaa.Xm
open Go.RowKit Go.Shelf
open Fr Fs Ft Ar Sk Pu Pv Fa Po Nw Bk Fz Fy Mq Mj Mk LawMaps Xs Xp Xo Xd
theorem hnilN (w : World) : Sem.run Try.prog (binOp BinOp.eql 59 .nilFunc .nilFunc) w = .ok (.bool true) w := by kernel_rfl
section
variable {W w w' : World} {F : Nat → Obj → Prop} {g ga r y wd : Nat} {L L' : List Fm} {inn inn' : List In}
theorem map_fnil (w : World) (g : Nat) : Calls Try.prog 24 #[.pointer (some ⟨g, 0, none⟩), .nilFunc] w fun e w' => e = .returned (.tuple #[]) ∧ w' = w := by
  have hn := hnilN
  go_enter Try.func24, Try.ntmps24
  go_wp2_with fail
  refine bodyPost_ret (results_none rfl _ _ _) rfl ?_
  exact ⟨rfl, rfl⟩
def JD (cb : Nat) (o : Obj) (k : Nat) (C : Nat → Prop) (w : World) : Prop := w.heap[cb]? = some o ∧ ∀ c, C c ↔ c = cb
theorem do1_it (w : World) (cb : Nat) (k n fk fa fb : Int) (p0 : Option Addr) (l c : Nat) (h : w.heap[cb]? = some (.cells (act k n fk fa fb p0 l c) 55 (0, 0))) (p : Int) (hp : 0 ≤ p ∧ p ≤ 524288) : Calls Try.prog 37 #[.int .i64 p, .pointer (some ⟨cb, 0, none⟩)] w fun e w' => e = .returned (.int .i64 (turnE p n)) ∧ w' = w := by
  have d := (cells6 h).2.1
  have T := Lib.hid (turned_it w p n hp)
  clear h hp
  go_enter Try.func37, Try.ntmps37
  go_wp2_with fail
  refine T.out.mono ?_; rintro e w1 ⟨rfl, rfl⟩
  go_wp2_with fail
  go_ret
  exact ⟨rfl, rfl⟩
theorem dspec (cb : Nat) (k n fk fa fb : Int) (p0 : Option Addr) (l c : Nat) (ps : List Int) (hps : ∀ p, p ∈ ps → 0 ≤ p ∧ p ≤ 524288) : FSpec 37 (.pointer (some ⟨cb, 0, none⟩)) (JD cb (.cells (act k n fk fa fb p0 l c) 55 (0, 0))) ps (fun j => turnE (ps.getD j 0) n) where
  eg := enters_of Try.func37 (by kernel_rfl) rfl
  low := fun {k C w} h c hc => by
    rw [(h.2 c).1 hc]; exact Kit.lt_of h.1
  keep := fun {k C w w'} h hs hk => ⟨(hk cb ((h.2 cb).2 rfl)).trans h.1, h.2⟩
  call := fun {j C w} h hj => by
    refine (do1_it w cb k n fk fa fb p0 l c h.1 (ps.getD j 0) (hps _ (by rw [List.getD_eq_getElem?_getD, List.getElem?_eq_getElem hj]; exact List.getElem_mem hj))).mono ?_
    rintro e w' ⟨rfl, rfl⟩
    exact ⟨rfl, C, h, fun c hc => .inl hc, ModP.refl _ _⟩
/-- A frame, all its pointers turned. -/
def turnF (n : Int) (f : Fm) : Fm := ⟨f.k, f.a, f.b, f.ps.map fun p => byE p n⟩
theorem mixP_all (ps : List Int) (q : Nat → Int) (c : Nat) (n : Int) (h : ∀ i, i < ps.length → q (c + i) = turnE (ps.getD i 0) n) : mixP ps q c ps.length = ps.map fun p => byE p n := by
  apply List.ext_getElem?
  intro i
  by_cases hi : i < ps.length
  · simp only [mixP, List.getElem?_map, List.getElem?_range hi, Option.map_some, if_pos hi, h i hi]
    rw [List.getElem?_eq_getElem hi, List.getD_eq_getElem?_getD, List.getElem?_eq_getElem hi]
    rfl
  · rw [List.getElem?_eq_none (by rw [mixP_length]; omega), List.getElem?_eq_none (by simp; omega)]
theorem refL_turn (n : Int) (L : List Fm) (q : Nat → Int) : ∀ c, (∀ i, i < (ptrs L).length → q (c + i) = turnE ((ptrs L).getD i 0) n) → refL q c L = L.map (turnF n) := by
  induction L with
  | nil => intro c _; rfl
  | cons f L ih =>
    intro c h
    have e : ptrs (f :: L) = f.ps ++ ptrs L := by simp [ptrs]
    rw [e] at h
    simp only [refL, List.map_cons]
    rw [ih (c + f.ps.length) (fun i hi => by
      have := h (f.ps.length + i) (by simp; omega)
      rw [← Nat.add_assoc] at this
      rw [this, List.getD_eq_getElem?_getD, List.getElem?_append_right (by omega), Nat.add_sub_cancel_left, List.getD_eq_getElem?_getD])]
    congr 1
    unfold refF refK turnF
    rw [mixP_all f.ps q c n (fun i hi => by
      have := h i (by simp; omega)
      rw [this, List.getD_eq_getElem?_getD, List.getElem?_append_left hi, List.getD_eq_getElem?_getD])]
theorem B2.map (h : B2 W w F g ga r y wd L inn) (hw : wd ≤ 65536) (cb : Nat) (k n fk fa fb : Int) (p0 : Option Addr) (l c : Nat) (hF : F cb (.cells (act k n fk fa fb p0 l c) 55 (0, 0))) :
    Calls Try.prog 24 #[.pointer (some ⟨g, 0, none⟩), .func (.func 37) #[] #[.pointer (some ⟨cb, 0, none⟩)]] w fun e w' => e = .returned (.tuple #[]) ∧ B2 W w' F g ga r y wd (L.map (turnF n)) inn := by
  obtain ⟨xs, K⟩ := h.stk
  obtain ⟨v, X⟩ := h.ref
  have hc := (h.fr _ _ hF).1
  have hps : ∀ p, p ∈ ptrs L → 0 ≤ p ∧ p ≤ 524288 := fun p hp => by
    unfold ptrs at hp
    rw [List.mem_flatMap] at hp
    obtain ⟨f, hf, hp⟩ := hp
    exact (Sk.Good.bounds (K.good f hf)).2.2.2.2 p hp
  have hrow : ∃ cs, w.heap[r]? = some (.cells cs 40 (0, 0)) := ⟨_, K.own.row⟩
  obtain ⟨cr, hr⟩ := hrow
  refine (map_it (C0 := fun b => b = cb) (dspec cb k n fk fa fb p0 l c (ptrs L) hps) K hw ⟨hc, fun _ => Iff.rfl⟩ ⟨ne_of_types K.obj hc (by decide), ne_of_types K.own.obj hc (by decide), ne_of_types hr hc (by decide)⟩).mono ?_
  rintro e w' ⟨rfl, xs', C', K', -, ⟨hc', -⟩, -, -, m⟩
  rw [refL_turn n L _ 0 (fun i hi => by rw [Nat.zero_add])] at K'
  have far : ∀ q cs T, w.heap[q]? = some (Obj.cells cs T (0, 0)) → T ≠ 55 → T ≠ 40 → w'.heap[q]? = w.heap[q]? := fun q cs T e h1 h2 =>
    m.block q (Kit.lt_of e) (fun hb => by
      rcases hb with rfl | rfl
      · rw [hr] at e; cases e; exact h2 rfl
      · rw [hc] at e; cases e; exact h1 rfl)
  have bb : Below W.heap.size W w' := by
    have hb := h.bel
    refine ⟨m.os.trans hb.os, m.tape.trans hb.tape, m.output.trans hb.output, Nat.le_trans hb.size m.size, fun q hq => ?_⟩
    by_cases e : q = cb
    · subst e
      have := hb.block q hq
      rw [hc', ← hc]
      exact this
    · exact (m.block q (Nat.lt_of_lt_of_le hq hb.size) (fun hbb => by
        rcases hbb with h1 | h1
        · have := h.old.2; omega
        · exact e h1)).trans (hb.block q hq)
  refine ⟨rfl, ⟨_, K'⟩, ⟨v, X.keep (fun q cs T e hT => far q cs T e ?_ ?_) m.size⟩, h.old, bb, fun q o f => ?_⟩
  · rcases hT with rfl | rfl | rfl <;> decide
  · rcases hT with rfl | rfl | rfl <;> decide
  · obtain ⟨e, cs, rfl⟩ := h.fr q o f
    refine ⟨?_, cs, rfl⟩
    by_cases e2 : q = cb
    · subst e2; rw [hc', ← e, hc]
    · exact (m.block q (Kit.lt_of e) (fun hbb => by
        rcases hbb with rfl | h1
        · rw [hr] at e; cases e
        · exact e2 h1)).trans e
/-- A pointer of the document's is turned in its place. -/
theorem own_poke {e : TypeId} {b m cap q : Nat} {ys : List Value} (h : w.ownsRow b e 1 (.slice (some ⟨q, 0, none⟩) m cap) m ys) (j : Nat) (hj : j < m) (u : Value) : (w.setCell ⟨q, j, none⟩ u).ownsRow b e 1 (.slice (some ⟨q, 0, none⟩) m cap) m (ys.set j u) := by
  refine ⟨by rw [List.length_set]; exact h.1, ?_⟩
  rcases h.2 with ⟨e, _⟩ | ⟨q', cap', cur, e, hb, hg, hc, hm, hs, ht⟩
  · cases e
  · cases e
    refine .inr ⟨q, cap, cur.setIfInBounds j u, rfl, hb, Kit.set_blk hg j u, hc, hm, by simpa using hs, ?_⟩
    rw [← ht, Array.toList_setIfInBounds, List.take_set]
theorem Xr.poke {v : Value} {I1 I2 : List In} {k a b : Int} {ps : List Int} {q c B : Nat} (X : Xr w B y wd v (I1 ++ (⟨k, a, b, ps⟩, some ⟨q, 0, none⟩, c) :: I2)) (j : Nat) (hj : j < ps.length) (u : Int) :
    Xr (w.setCell ⟨q, j, none⟩ (.int .i64 u)) B y wd v (I1 ++ (⟨k, a, b, ps.set j u⟩, some ⟨q, 0, none⟩, c) :: I2) ∧ KT B w q := by
  have hx := X.sls (⟨k, a, b, ps⟩, some ⟨q, 0, none⟩, c) (by simp)
  obtain ⟨hbq, cs, hcs⟩ := own_typ hx.1 q rfl
  have gr : w.grownBy (w.setCell ⟨q, j, none⟩ (.int .i64 u)) (some q) := ⟨rfl, rfl, rfl, by simp [World.setCell], fun k hk hne => Below.heap_setCell w _ _ k (fun e => hne (by simp [e]))⟩
  have hl : (I1 ++ (⟨k, a, b, ps.set j u⟩, some ⟨q, 0, none⟩, c) :: I2).length = (I1 ++ ((⟨k, a, b, ps⟩, some ⟨q, 0, none⟩, c) : In) :: I2).length := by simp
  have hf : flat (I1 ++ (⟨k, a, b, ps.set j u⟩, some ⟨q, 0, none⟩, c) :: I2) = flat (I1 ++ ((⟨k, a, b, ps⟩, some ⟨q, 0, none⟩, c) : In) :: I2) := by simp [flat, cellsI]
  have hmap : (I1 ++ (⟨k, a, b, ps.set j u⟩, some ⟨q, 0, none⟩, c) :: I2).map blk = (I1 ++ ((⟨k, a, b, ps⟩, some ⟨q, 0, none⟩, c) : In) :: I2).map blk := by simp [blk]
  have apm : ∀ l : List In, (l.Pairwise fun x z => ∀ q, blk x = some q → blk z ≠ some q) ↔ (l.map blk).Pairwise fun x z => ∀ q, x = some q → z ≠ some q := fun l => by rw [List.pairwise_map]
  have hap := X.apart
  have hne : ∀ z, z ∈ I1 ∨ z ∈ I2 → blk z ≠ some q := fun z hz e => by
    rw [List.pairwise_append, List.pairwise_cons] at hap
    rcases hz with hz | hz
    · exact hap.2.2 z hz (⟨k, a, b, ps⟩, some ⟨q, 0, none⟩, c) (by simp) q e rfl
    · exact hap.2.1.1 z hz q rfl e
  refine ⟨⟨Kit.set_far X.obj (ne_of_types X.obj hcs (by decide)) _, ?_, fun z hz => ?_, ?_, by have := X.siz; simpa [World.setCell] using this, X.low⟩, hbq, cs, _, hcs, .inr (.inr rfl)⟩
  · rw [hl, hf]
    exact X.own.kept gr (own_blk X.own hcs (by decide))
  · have far : ∀ z, z ∈ I1 ∨ z ∈ I2 → Mine B w z → Mine B (w.setCell ⟨q, j, none⟩ (.int .i64 u)) z := fun z hz hm => ⟨hm.1.kept gr (by
      rw [blk_own]
      rcases hb : blk z with _ | q'
      · exact .inl rfl
      · right; intro e; cases e; exact hne z hz hb), hm.2⟩
    rcases List.mem_append.1 hz with hz | hz
    · exact far z (.inl hz) (X.sls z (by simp [hz]))
    · rcases List.mem_cons.1 hz with rfl | hz
      · refine ⟨?_, by have := hx.2; simpa using this⟩
        have := own_poke hx.1 j hj (.int .i64 u)
        simp only [List.length_set]
        have e : ints (ps.set j u) = (ints ps).set j (.int .i64 u) := by simp [ints, List.map_set]
        rw [e]
        exact this
      · exact far z (.inr hz) (X.sls z (by simp [hz]))
  · rw [apm, hmap, ← apm]
    exact hap
/-- A frame of the document's, the first j of its pointers turned. -/
def turnK (n : Int) (j : Nat) (x : In) : In := (⟨x.1.k, x.1.a, x.1.b, mixP x.1.ps (fun i => turnE (x.1.ps.getD i 0) n) 0 j⟩, x.2)
def turnI (n : Int) (x : In) : In := turnK n x.1.ps.length x
theorem turnI_map (n : Int) (l : List In) : (l.map (turnI n)).map (·.1) = (l.map (·.1)).map (turnF n) := by
  rw [List.map_map, List.map_map]
  refine List.map_congr_left fun x _ => ?_
  show (turnI n x).1 = turnF n x.1
  unfold turnI turnK turnF
  simp only
  rw [mixP_all x.1.ps _ 0 n (fun i _ => by rw [Nat.zero_add])]
set_option maxHeartbeats 4000000 in
set_option maxRecDepth 100000 in
theorem do_map (h : B2 W w F g ga r y wd L inn) (he : inn.map (·.1) = L) (hw : wd ≤ 65536) (k n fk fa fb : Int) (p0 : Option Addr) (c0 l0 : Nat) (hk : k ≠ 0 ∧ k ≠ 1 ∧ k ≠ 2) :
    Calls Try.prog 22 #[.pointer (some ⟨g, 0, none⟩), .pointer (some ⟨y, 0, none⟩), actV k n fk fa fb p0 l0 c0] w fun e w' => e = .returned (.bool true) ∧ ∃ L' inn', B2 W w' F g ga r y wd L' inn' ∧ inn'.map (·.1) = L' := by
  have hB := h.more (act k n fk fa fb p0 l0 c0)
  have MP := Lib.hid (B2.map hB hw w.heap.size k n fk fa fb p0 l0 c0 (.inr ⟨rfl, rfl⟩))
  have MN := Lib.hid (fun w => map_fnil w g)
  have hps : ∀ x, x ∈ inn → ∀ p, p ∈ x.1.ps → 0 ≤ p ∧ p ≤ 524288 := fun x hx p hp => by
    obtain ⟨xs, K⟩ := h.stk
    exact (Sk.Good.bounds (K.good x.1 (by rw [← he]; exact List.mem_map_of_mem hx))).2.2.2.2 p hp
  have hin : inn.length ≤ 65536 := by
    obtain ⟨xs, K⟩ := h.stk
    have h1 := lay_ge L
    have h2 := K.fits.1
    have h3 := congrArg List.length he
    simp at h3
    omega
  have HPS := Lib.hid hps
  have HE := Lib.hid he
  have k0 : (k == 0) = false := by simpa using hk.1
  have k1 : (k == 1) = false := by simpa using hk.2.1
  have k2 : (k == 2) = false := by simpa using hk.2.2
  have hws : w.heap.size = w.heap.size := rfl
  clear h hB hps he hk hws
  unfold actV
  go_enter Try.func22, Try.ntmps22
  go_wp2_with fail
  refine MP.out.mono ?_; rintro e w1 ⟨rfl, h1⟩
  have H1 := Lib.hid h1
  clear h1 MP
  go_wp2_with fail
  go_loopg [11] inn.length (fun m c wr => ∃ I1 I2, (inn = I1 ++ I2 ∧ m = I2.length) ∧ c = .int .i64 I1.length ∧ Hid (B2 W wr (fun k' o' => F k' o' ∨ (k' = w.heap.size ∧ o' = .cells (act k n fk fa fb p0 l0 c0) 55 (0, 0))) g ga r y wd (L.map (turnF n)) (I1.map (turnI n) ++ I2)))
  case atStart => exact ⟨[], inn, ⟨rfl, rfl⟩, rfl, H1.out⟩
  case round =>
    obtain ⟨I1, I2, ⟨hI, rfl⟩, rfl, H⟩ := hrel
    obtain ⟨v, X⟩ := H.out.ref
    obtain ⟨aa, ca, rfl, hca⟩ := X.shape
    have cx := X.cells.2
    have ca6 := cells6 (H.out.fr _ _ (.inr ⟨rfl, rfl⟩)).1
    have hll : (I1.map (turnI n) ++ I2).length = I1.length + I2.length := by simp
    rw [hll] at cx hca
    have HX := Lib.hid X
    have HI := Lib.hid hI
    have hlI : inn.length = I1.length + I2.length := by rw [hI]; simp
    clear hI
    rcases I2 with _ | ⟨x, I2⟩
    · have HL := Lib.hid (turnI_map n I1)
      have HB := Lib.hid (H.out.less (fun k o f => Or.inl f))
      rw [List.append_nil] at HB
      clear X hll
      go_wp2_with fail
      refine (MN.out _).mono ?_; rintro e w2 ⟨rfl, rfl⟩
      go_wp2_with fail
      go_ret
      refine ⟨rfl, _, _, HB.out, ?_⟩
      rw [HL.out, ← HE.out, HI.out, List.append_nil]
    · have hxps := HPS.out x (by rw [HI.out]; simp)
      have K0 : Hid (B2 W wr (fun k' o' => F k' o' ∨ (k' = w.heap.size ∧ o' = .cells (act k n fk fa fb p0 l0 c0) 55 (0, 0))) g ga r y wd (L.map (turnF n)) (I1.map (turnI n) ++ turnK n 0 x :: I2)) := by
        have e : turnK n 0 x = x := by unfold turnK; rw [mixP_zero]
        rw [e]; exact H.out
      have KE : Hid (∀ wr, B2 W wr (fun k' o' => F k' o' ∨ (k' = w.heap.size ∧ o' = .cells (act k n fk fa fb p0 l0 c0) 55 (0, 0))) g ga r y wd (L.map (turnF n)) (I1.map (turnI n) ++ turnK n x.1.ps.length x :: I2) → B2 W wr (fun k' o' => F k' o' ∨ (k' = w.heap.size ∧ o' = .cells (act k n fk fa fb p0 l0 c0) 55 (0, 0))) g ga r y wd (L.map (turnF n)) ((I1 ++ [x]).map (turnI n) ++ I2)) := fun wr h => by
        rw [List.map_append, List.append_assoc]
        exact h
      have HIN : Hid (inn = (I1 ++ [x]) ++ I2) := HI.out.trans (by simp)
      have hl1 : (I1.length : Int) < ((I1.length + (x :: I2).length : Nat) : Int) := by simp; omega
      have hn1 : x.1.ps.length ≤ 1000 := (X.sls x (by simp)).2
      have hlI2 : I1.length + (I2.length + 1) ≤ 65536 := by simp at hlI; omega
      have HXPS := Lib.hid hxps
      obtain ⟨il, hil⟩ : ∃ il, il = I1.length := ⟨_, rfl⟩
      have HIL := Lib.hid hil
      have hlm : (I1.map (turnI n)).length = il := by rw [hil]; simp
      have HLM := Lib.hid hlm
      rw [← hil] at hl1 cx hca hlI2 ⊢
      clear X hll hxps hlI HX H hlm hil
      simp only [List.length_cons] at hl1 cx hca
      have hd1 : decide ((il : Int) < (il : Int) + ((I2.length : Int) + 1)) = true := decide_eq_true (by omega)
      go_wp2_with fail
      clear hd1
      have hb1 : (il : Int) < (il : Int) + ((I2.length : Int) + 1) := by omega
      go_loopg [12] x.1.ps.length (fun m c wr => ∃ j : Nat, (j ≤ x.1.ps.length ∧ m = x.1.ps.length - j) ∧ c = .int .i64 j ∧ Hid (B2 W wr (fun k' o' => F k' o' ∨ (k' = w.heap.size ∧ o' = .cells (act k n fk fa fb p0 l0 c0) 55 (0, 0))) g ga r y wd (L.map (turnF n)) (I1.map (turnI n) ++ turnK n j x :: I2)))
      case atStart => exact ⟨0, ⟨Nat.zero_le _, rfl⟩, rfl, K0.out⟩
      case round =>
        obtain ⟨j, ⟨hj, rfl⟩, rfl, H⟩ := hrel
        obtain ⟨v, X⟩ := H.out.ref
        obtain ⟨aa, ca, rfl, hca⟩ := X.shape
        have cx := X.cells.2
        have cx0 := X.cells.1
        have ca6 := (cells6 (H.out.fr _ _ (.inr ⟨rfl, rfl⟩)).1).2.1
        have hll : (I1.map (turnI n) ++ turnK n j x :: I2).length = il + (I2.length + 1) := by rw [List.length_append, HLM.out]; simp
        obtain ⟨q, rfl, hcm, -, -, -, d3⟩ := X.at_ il (by rw [hll]; omega) (turnK n j x)
        have hgx : (I1.map (turnI n) ++ turnK n j x :: I2).getD il (turnK n j x) = turnK n j x := by
          rw [List.getD_eq_getElem?_getD, List.getElem?_append_right (by rw [HLM.out]; omega), HLM.out, Nat.sub_self]; rfl
        rw [hgx] at d3
        rw [hll] at cx hca
        have hM := X.sls (turnK n j x) (by simp)
        have HX := Lib.hid X
        obtain ⟨⟨xk, xa, xb, ps⟩, px, cc⟩ := x
        simp only [turnK, mixP_length] at d3 hM
        simp only at hn1 hj
        unfold maxLen at hcm
        have li0 : (0 : Int) ≤ (il : Int) := by omega
        by_cases hlt : j < ps.length
        · have hown := hM.1
          simp only [mixP_length] at hown
          obtain ⟨pq, rfl, hpc, hpm, hpv⟩ := row_cell hown j (by rw [mixP_length]; exact hlt)
          have cp := hpv wr rfl
          rw [mixP_get _ _ _ _ _ hlt, if_neg (by omega)] at cp
          have PK := Lib.hid (Xr.poke (I1 := I1.map (turnI n)) (I2 := I2) (k := xk) (a := xa) (b := xb) (c := cc) (ps := mixP ps (fun i => turnE (ps.getD i 0) n) 0 j) HX.out j (by rw [mixP_length]; exact hlt) (byE (ps.getD j 0) n))
          have ES : Hid ((mixP ps (fun i => turnE (ps.getD i 0) n) 0 j).set j (byE (ps.getD j 0) n) = mixP ps (fun i => turnE (ps.getD i 0) n) 0 (j + 1)) := by
            have := mixP_set ps (fun i => turnE (ps.getD i 0) n) 0 j hlt
            rw [Nat.zero_add] at this
            exact this
          have BY := Lib.hid (fun w => by_it w (ps.getD j 0) n (HXPS.out _ (by rw [List.getD_eq_getElem?_getD, List.getElem?_eq_getElem hlt]; exact List.getElem_mem hlt)))
          have hj1 : (j : Int) < ps.length := by omega
          have hj2 : (0 : Int) ≤ (j : Int) := by omega
          unfold maxLen at hpm
          generalize ps.getD j 0 = pv at cp PK ES BY
          have fz : wr.frozen? ⟨pq, j, none⟩ = false := by
            obtain ⟨_, cs, hcs⟩ := own_typ hown pq rfl
            exact Kit.frozen_of hcs j
          clear X hM hown hpv hgx hll
          go_wp2_with fail
          go_still_tail 24, (by kernel_rfl)
          refine wpStill_step (fun K hK => ?_)
          go_simp
          refine ⟨_, BY.out _, hK _ ?_⟩
          clear hK K
          repeat still_step
          refine wpStill_nil ?_
          have HN : Hid (B2 W (wr.setCell ⟨pq, j, none⟩ (.int .i64 (byE pv n))).drew (fun k' o' => F k' o' ∨ (k' = w.heap.size ∧ o' = .cells (act k n fk fa fb p0 l0 c0) 55 (0, 0))) g ga r y wd (L.map (turnF n)) (I1.map (turnI n) ++ turnK n (j + 1) (⟨xk, xa, xb, ps⟩, some ⟨pq, 0, none⟩, cc) :: I2)) := by
            obtain ⟨X1, KT1⟩ := PK.out
            rw [ES.out] at X1
            have m : ModP (KT W.heap.size wr) wr (wr.setCell ⟨pq, j, none⟩ (.int .i64 (byE pv n))) := (ModP.refl _ _).setCell (.inl KT1) _
            exact (H.out.rstep m ⟨_, X1⟩).below ⟨rfl, rfl, rfl, Nat.le_refl _, fun _ _ => rfl⟩
          go_wp2_with fail
          go_roundg (ps.length - (j + 1))
          case measure => omega
          case rel => exact ⟨j + 1, ⟨by omega, rfl⟩, by simp, HN.out⟩
        · obtain rfl : j = ps.length := by omega
          have HN := Lib.hid (KE.out wr H.out)
          clear X hM hgx hll
          go_wp2_with fail
          go_roundg I2.length
          case measure => simp
          case rel => exact ⟨I1 ++ [((⟨xk, xa, xb, ps⟩ : Fm), px, cc)], I2, ⟨HIN.out, rfl⟩, by simp [HIL.out], HN.out⟩
end
end Go.Proofs.Ytedkackmccnkfaa.Xm
