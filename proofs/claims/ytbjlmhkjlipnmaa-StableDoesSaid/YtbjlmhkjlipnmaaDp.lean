/- Where StableDoes stands: both tables hold the same. No condition. -/
import Derived.Test.YtbjlmhkjlipnmaaRf
import Derived.Test.YtbjlmhkjlipnmaaMp
set_option linter.unusedVariables false
set_option linter.unusedSimpArgs false
namespace Go.Proofs.Ytbjlmhkjlipnmaa.Dp
open Go.RowKit
open Sr Tb Tf Tg Tm Ta Fu Tp Rf
/-- What holds of the slots behind j calls. -/
structure Fine (j : Nat) (xs : List (Int × Int)) (hs : List Int) : Prop where
  slots : ∀ q, q < xs.length → 0 ≤ (xs.getD q (0, 0)).1 ∧ (xs.getD q (0, 0)).1 ≤ 524288 ∧ 1 ≤ (xs.getD q (0, 0)).2 ∧ (xs.getD q (0, 0)).2 ≤ j + 1
  hands : ∀ h, h ∈ hs → 0 ≤ h ∧ h ≤ 1099511627776
  few : hs.length ≤ j
theorem Fine.start (n : Nat) : Fine 0 (List.replicate n (0, 1)) [] := by
  refine ⟨fun q hq => ?_, (fun h hh => by cases hh), by simp⟩
  rw [show (List.replicate n ((0 : Int), (1 : Int))).getD q (0, 0) = (0, 1) by
    simp only [List.length_replicate] at hq; simp [List.getD_eq_getElem?_getD, hq]]
  omega
theorem Fine.next {j : Nat} {xs : List (Int × Int)} {hs : List Int} (F : Fine j xs hs) : Fine (j + 1) xs hs := ⟨fun q hq => by have := F.slots q hq; omega, F.hands, by have := F.few; omega⟩
theorem get_set (xs : List (Int × Int)) (k : Nat) (p : Int × Int) (i : Nat) (hk : k < xs.length) : (xs.set k p).getD i (0, 0) = if i = k then p else xs.getD i (0, 0) := by
  simp only [List.getD_eq_getElem?_getD, List.getElem?_set]
  by_cases e : i = k
  · subst e; simp [hk]
  · simp [e, show ¬ k = i by omega]
theorem Fine.made {j : Nat} {xs : List (Int × Int)} {hs : List Int} (F : Fine j xs hs) (k : Nat) (hk : k < xs.length) (x : Int) (hx : 1 ≤ x ∧ x ≤ 524288) : Fine j (xs.set k (x, (xs.getD k (0, 0)).2)) hs :=
  ⟨fun q hq => by
    rw [List.length_set] at hq
    rw [get_set _ _ _ _ hk]
    have a := F.slots q hq
    have b := F.slots k hk
    by_cases e : q = k
    · rw [if_pos e]; simp only; omega
    · rw [if_neg e]; exact a, F.hands, F.few⟩
theorem Fine.push {j : Nat} {xs : List (Int × Int)} {hs : List Int} (F : Fine j xs hs) (h : Int) (hh : 0 ≤ h ∧ h ≤ 1099511627776) : Fine (j + 1) xs (hs ++ [h]) :=
  ⟨F.next.slots, fun y hy => by
    rcases List.mem_append.1 hy with hy | hy
    · exact F.hands y hy
    · simp at hy; subst hy; exact hh, by have := F.few; simp; omega⟩
theorem Fine.free {j : Nat} {xs : List (Int × Int)} {hs : List Int} (F : Fine j xs hs) (h : Int) : Fine (j + 1) (freed xs h) hs := by
  unfold freed
  by_cases g : good xs h
  · rw [if_pos g]
    have hl : (h % 256).toNat < xs.length := by have := g.2.1; have := g.1; omega
    refine ⟨fun q hq => ?_, F.hands, by have := F.few; omega⟩
    rw [List.length_set] at hq
    rw [get_set _ _ _ _ hl]
    have a := F.slots q hq
    have b := F.slots _ hl
    by_cases e : q = (h % 256).toNat
    · rw [if_pos e]; simp only; omega
    · rw [if_neg e]; omega
  · rw [if_neg g]; exact F.next
theorem turned_getD (n : Int) (xs : List (Int × Int)) (q : Nat) (hq : q < xs.length) : (turned n xs).getD q (0, 0) = turn1 n (xs.getD q (0, 0)) := by
  unfold turned
  simp [List.getD_eq_getElem?_getD, hq]
theorem Fine.turn {j : Nat} {xs : List (Int × Int)} {hs : List Int} (F : Fine j xs hs) (n : Int) : Fine (j + 1) (turned n xs) hs :=
  ⟨fun q hq => by
    have hq' : q < xs.length := by simpa [Tp.turned] using hq
    rw [turned_getD n xs q hq']
    have a := F.slots q hq'
    unfold turn1
    split
    · simp only; omega
    · omega, F.hands, by have := F.few; omega⟩
/-- Where the law stands. -/
structure St (W w : World) (base g r gx a b j : Nat) (xs : List (Int × Int)) (v : Value) (hs : List Int) : Prop where
  tab : Tab w g r xs
  ref : Ref w gx a b xs
  own : w.ownsRow base 3 1 v hs.length (ints hs)
  bel : Below W.heap.size W w
  siz : base ≤ w.heap.size
  old : W.heap.size ≤ base ∧ W.heap.size ≤ r ∧ W.heap.size ≤ a ∧ W.heap.size ≤ b
  gb : g < base ∧ r < base ∧ gx < base ∧ a < base ∧ b < base
  ap : g ≠ a ∧ g ≠ b ∧ r ≠ gx ∧ r ≠ a ∧ r ≠ b
  fine : Fine j xs hs
section
variable {W w w3 w4 : World} {base g r gx a b j : Nat} {xs ys : List (Int × Int)} {v : Value} {hs : List Int}
theorem St.turns (S : St W w base g r gx a b j xs v hs) (hj : j ≤ 300) : ∀ q, q < xs.length → 0 ≤ (xs.getD q (0, 0)).2 ∧ (xs.getD q (0, 0)).2 ≤ 1099511627776 := fun q hq => by
  have := S.fine.slots q hq; omega
theorem St.all3 (S : St W w base g r gx a b j xs v hs) (hj : j ≤ 300) : ∀ q, q < xs.length → 0 ≤ (xs.getD q (0, 0)).1 ∧ 0 ≤ (xs.getD q (0, 0)).2 ∧ (xs.getD q (0, 0)).2 ≤ 1099511627776 := fun q hq => by
  have := S.fine.slots q hq; omega
theorem St.stepB (S : St W w base g r gx a b j xs v hs) (h : Below w.heap.size w w3) : St W w3 base g r gx a b j xs v hs :=
  ⟨S.tab.keepB h, S.ref.keepB h, own_mod (S := []) S.own (Kit.Mod.of_below h) (by simp), Kit.stepB S.bel h, Nat.le_trans S.siz h.size, S.old, S.gb, S.ap, S.fine⟩
theorem St.next (S : St W w base g r gx a b j xs v hs) : St W w base g r gx a b (j + 1) xs v hs := ⟨S.tab, S.ref, S.own, S.bel, S.siz, S.old, S.gb, S.ap, S.fine.next⟩
/-- Behind the table's own step the reference still stands. -/
theorem St.mid (S : St W w base g r gx a b j xs v hs) (m : Kit.Mod [r] w w3) : Ref w3 gx a b xs :=
  S.ref.mod m (by simp; exact fun e => S.ap.2.2.1 e.symm) (by simp; exact fun e => S.ap.2.2.2.1 e.symm) (by simp; exact fun e => S.ap.2.2.2.2 e.symm)
theorem St.both {j' : Nat} (S : St W w base g r gx a b j xs v hs) (m : Kit.Mod [r] w w3) (T : Tab w3 g r ys) (m' : Kit.Mod [a, b] w3 w4) (R : Ref w4 gx a b ys) (F : Fine j' ys hs) : St W w4 base g r gx a b j' ys v hs :=
  ⟨T.keep m' (by simp; exact ⟨S.ap.1, S.ap.2.1⟩) (by simp; exact ⟨S.ap.2.2.2.1, S.ap.2.2.2.2⟩), R,
    own_mod (own_mod S.own m (fun x hx => by simp at hx; subst hx; exact S.gb.2.1)) m' (fun x hx => by
      simp at hx; rcases hx with rfl | rfl
      · exact S.gb.2.2.2.1
      · exact S.gb.2.2.2.2),
    Kit.step (Kit.step1 S.bel m S.old.2.1) m' (fun x hx => by
      simp at hx; rcases hx with rfl | rfl
      · exact S.old.2.2.1
      · exact S.old.2.2.2), Nat.le_trans S.siz (Nat.le_trans m.size m'.size), S.old, S.gb, S.ap, F⟩
/-- A number is gathered. -/
theorem St.push {o : Obj} {v' : Value} {h : Int} (S : St W w base g r gx a b j xs v hs) (hh : 0 ≤ h ∧ h ≤ 1099511627776) (ho : w3.ownsRow base 3 1 v' (hs.length + 1) (ints hs ++ [.int .i64 h])) (hg : (w.alloc o).grownBy w3 v.ownBlock) : St W w3 base g r gx a b (j + 1) xs v' (hs ++ [h]) := by
  have h0 : Below base w w3 := (Below.alloc (Below.refl _ _) S.siz o).grown hg (by have := S.siz; simp; omega) (fun k hk => (S.own.lt k hk).1)
  have kp : ∀ q x, q < base → w.heap[q]? = some x → w3.heap[q]? = some x := fun q x hq hx => (h0.block q hq).trans hx
  refine ⟨⟨kp _ _ S.gb.1 S.tab.tab, kp _ _ S.gb.2.1 S.tab.row, S.tab.ne, S.tab.short⟩, ⟨kp _ _ S.gb.2.2.1 S.ref.tab, kp _ _ S.gb.2.2.2.1 S.ref.one, kp _ _ S.gb.2.2.2.2 S.ref.two, S.ref.ne, S.ref.short⟩, ?_, ?_, Nat.le_trans S.siz h0.size, S.old, S.gb, S.ap, S.fine.push h hh⟩
  · rw [List.length_append, List.length_singleton]
    simpa [ints] using ho
  · have B := S.bel
    exact ⟨h0.os.trans B.os, h0.tape.trans B.tape, h0.output.trans B.output, Nat.le_trans B.size h0.size, fun i hi => (h0.block i (Nat.lt_of_lt_of_le hi S.old.1)).trans (B.block i hi)⟩
/-- What a gathered number's cell holds. -/
theorem St.hand {aa : Option Addr} {n ca : Nat} (S : St W w base g r gx a b j xs (.slice aa n ca) hs) (q : Nat) (hq : q < hs.length) : ∃ g', aa = some ⟨g', 0, none⟩ ∧ w.cell? ⟨g', q, none⟩ = some (.int .i64 (hs.getD q 0)) := by
  obtain ⟨g', cp, e, _⟩ := own_addr S.own (by omega)
  simp only [Value.slice.injEq] at e
  refine ⟨g', e.1, ?_⟩
  have := S.own.cells (g := g') (by rw [e.1]; rfl) q _ (show (ints hs)[q]? = some (.int .i64 (hs.getD q 0)) by simp [ints, hq, List.getD_eq_getElem?_getD])
  rw [Addr.add_lit, Nat.zero_add] at this
  exact this
theorem St.setNew (S : St W w base g r gx a b j xs v hs) (Bn : Nat) (hB : base ≤ Bn) (hn : ∀ q, v.ownBlock = some q → q ≠ Bn) (u : Value) (i : Nat) : St W (w.setCell ⟨Bn, i, none⟩ u) base g r gx a b j xs v hs := by
  have gr : w.grownBy (w.setCell ⟨Bn, i, none⟩ u) (some Bn) := ⟨rfl, rfl, rfl, by simp [World.setCell], fun k hk hne => Below.heap_setCell w ⟨Bn, i, none⟩ u k (fun e => hne (by simp [e]))⟩
  have m : Kit.Mod [Bn] w (w.setCell ⟨Bn, i, none⟩ u) := (Kit.Mod.refl _ _).setCell (.inl (by simp)) u
  have gb := S.gb
  exact ⟨S.tab.keep m (by simp; omega) (by simp; omega), S.ref.mod m (by simp; omega) (by simp; omega) (by simp; omega), S.own.kept gr (by
    cases h : v.ownBlock with
    | none => exact .inl rfl
    | some q => exact .inr (fun e => hn q h (by simpa using e))), Kit.step1 S.bel m (Nat.le_trans S.old.1 hB), Nat.le_trans S.siz m.size, S.old, S.gb, S.ap, S.fine⟩
theorem exists_free (xs : List (Int × Int)) : ∃ k, k ≤ xs.length ∧ (∀ i, i < k → (xs.getD i (0, 0)).1 ≠ 0) ∧ (k < xs.length → (xs.getD k (0, 0)).1 = 0) := by
  induction xs with
  | nil => exact ⟨0, Nat.le_refl _, fun i h => by omega, fun h => by simp at h⟩
  | cons x xs ih =>
    by_cases e : x.1 = 0
    · exact ⟨0, Nat.zero_le _, fun i h => by omega, fun _ => e⟩
    · obtain ⟨k, h1, h2, h3⟩ := ih
      refine ⟨k + 1, by simpa using h1, fun i hi => ?_, fun hk => h3 (by simpa using hk)⟩
      cases i with
      | zero => exact e
      | succ i => exact h2 i (by omega)
theorem tabHeap {w' : World} (e : w'.heap = w.heap) (T : Tab w g r xs) : Tab w' g r xs := ⟨by rw [e]; exact T.tab, by rw [e]; exact T.row, T.ne, T.short⟩
theorem refHeap {w' : World} (e : w'.heap = w.heap) (T : Ref w gx a b xs) : Ref w' gx a b xs := ⟨by rw [e]; exact T.tab, by rw [e]; exact T.one, by rw [e]; exact T.two, T.ne, T.short⟩
theorem modFrom {S : List Nat} (w0 : World) (m : Kit.Mod S w w3) (e : w.os = w0.os ∧ w.tape = w0.tape ∧ w.output = w0.output ∧ w.heap = w0.heap) : Kit.Mod S w0 w3 :=
  ⟨m.os.trans e.1, m.tape.trans e.2.1, m.output.trans e.2.2.1, by rw [← e.2.2.2]; exact m.size, fun k hk hn => by rw [← e.2.2.2] at hk ⊢; exact m.block k hk hn⟩
/-- Behind the reference's own step the table still stands. -/
theorem St.mid2 (S : St W w base g r gx a b j xs v hs) (m : Kit.Mod [a, b] w w3) : Tab w3 g r xs :=
  S.tab.keep m (by simp; exact ⟨S.ap.1, S.ap.2.1⟩) (by simp; exact ⟨S.ap.2.2.2.1, S.ap.2.2.2.2⟩)
theorem St.both2 {j' : Nat} (S : St W w base g r gx a b j xs v hs) (m' : Kit.Mod [a, b] w w3) (R : Ref w3 gx a b ys) (m : Kit.Mod [r] w3 w4) (T : Tab w4 g r ys) (F : Fine j' ys hs) : St W w4 base g r gx a b j' ys v hs :=
  ⟨T, R.mod m (by simp; exact fun e => S.ap.2.2.1 e.symm) (by simp; exact fun e => S.ap.2.2.2.1 e.symm) (by simp; exact fun e => S.ap.2.2.2.2 e.symm),
    own_mod (own_mod S.own m' (fun x hx => by
      simp at hx; rcases hx with rfl | rfl
      · exact S.gb.2.2.2.1
      · exact S.gb.2.2.2.2)) m (fun x hx => by simp at hx; subst hx; exact S.gb.2.1),
    Kit.step1 (Kit.step S.bel m' (fun x hx => by
      simp at hx; rcases hx with rfl | rfl
      · exact S.old.2.2.1
      · exact S.old.2.2.2)) m S.old.2.1, Nat.le_trans S.siz (Nat.le_trans m'.size m.size), S.old, S.gb, S.ap, F⟩
end
end Go.Proofs.Ytbjlmhkjlipnmaa.Dp
