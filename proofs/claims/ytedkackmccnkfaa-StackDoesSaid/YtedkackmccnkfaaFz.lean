/- What a range over a stack's frames gathers: all frames, from the top one down. No condition. -/
import Derived.Test.YtedkackmccnkfaaBk
import Derived.Deep.LoopGhost
import Derived.RangeFuncOwn
set_option linter.unusedVariables false
set_option linter.unusedSimpArgs false
namespace Go.Proofs.Ytedkackmccnkfaa.Fz
open Go.RowKit
open Fr Fs Ft Ar Sk Pu Pv Fa Po Nw Bk
theorem infoF : (Try.prog.info? 24).map (fun i => (i.zero, i.size, i.bytes)) = some (some (.agg #[.int .i64 0, .int .i64 0, .int .i64 0, .slice none 0 0]), 4, 48) := by kernel_rfl
/-- A frame that is gathered: its pointers are a row of its own, at or beyond a place. -/
def Mine (B : Nat) (w : World) (x : In) : Prop := w.ownsRow B 3 1 (.slice x.2.1 x.1.ps.length x.2.2) x.1.ps.length (ints x.1.ps) ∧ x.1.ps.length ≤ 1000
/-- Two rows of other types are apart. -/
theorem own_far {w : World} {e e' : TypeId} {k k' b b' : Nat} {v v' : Value} {n n' : Nat} {ys ys' : List Value} (h : w.ownsRow b e k v n ys) (h' : w.ownsRow b' e' k' v' n' ys') (he : e ≠ e') : v.ownBlock = none ∨ v.ownBlock ≠ v'.ownBlock := by
  rcases h.2 with ⟨rfl, _⟩ | ⟨g, cap, cur, rfl, hb, hg, _⟩
  · exact .inl rfl
  · right
    rcases h'.2 with ⟨rfl, _⟩ | ⟨g', cap', cur', rfl, hb', hg', _⟩
    · simp [Value.ownBlock]
    · simp only [Value.ownBlock, ne_eq, Option.some.injEq]
      rintro rfl
      rw [hg] at hg'
      cases hg'
      exact he rfl
/-- A row lies in no block of another type. -/
theorem own_blk {w : World} {e e' : TypeId} {k b p : Nat} {v : Value} {n : Nat} {ys : List Value} {cs : Array Value} {z : Nat × Nat} (h : w.ownsRow b e k v n ys) (hp : w.heap[p]? = some (.cells cs e' z)) (he : e ≠ e') : v.ownBlock = none ∨ v.ownBlock ≠ some p := by
  rcases h.2 with ⟨rfl, _⟩ | ⟨g, cap, cur, rfl, hb, hg, _⟩
  · exact .inl rfl
  · right
    simp only [Value.ownBlock, ne_eq, Option.some.injEq]
    rintro rfl
    rw [hg] at hp
    cases hp
    exact he rfl
theorem own_other {w w' : World} {e : TypeId} {k b : Nat} {v : Value} {n : Nat} {ys : List Value} {row : Option Nat} (h : w.ownsRow b e k v n ys) (hg : w.grownBy w' row) (hr : ∀ j, row = some j → ∃ o : Obj, w.heap[j]? = some o ∧ o.isCells = false) : w'.ownsRow b e k v n ys := by
  refine h.kept hg ?_
  rcases h.2 with ⟨rfl, _⟩ | ⟨g, cap, cur, rfl, hb, hg', _⟩
  · exact .inl rfl
  · right
    intro e
    obtain ⟨o, h1, h2⟩ := hr g e.symm
    rw [hg'] at h1
    cases h1
    cases h2
theorem blk_other {w w' : World} {p : Nat} {cs : Array Value} {e : TypeId} {z : Nat × Nat} {row : Option Nat} (h : w.heap[p]? = some (.cells cs e z)) (hg : w.grownBy w' row) (hr : ∀ j, row = some j → ∃ o : Obj, w.heap[j]? = some o ∧ o.isCells = false) : w'.heap[p]? = some (.cells cs e z) :=
  (hg.block p (Kit.lt_of h) (fun e => by
    obtain ⟨o, h1, h2⟩ := hr p e.symm
    rw [h] at h1
    cases h1
    cases h2)).trans h
/-- A box, and in it a row of frames: the row at or beyond B, the frames' pointers at or beyond M. -/
structure Rws (B M p : Nat) (w : World) (v : Value) (inn : List In) : Prop where
  box : w.heap[p]? = some (.cells #[v] 36 (0, 0))
  own : w.ownsRow B 24 4 v inn.length (flat inn)
  sls : ∀ x, x ∈ inn → Mine M w x
  siz : B ≤ w.heap.size
section
variable {B M p : Nat} {w w' : World} {v : Value} {inn : List In}
theorem own_below {e : TypeId} {k b : Nat} {v : Value} {n : Nat} {ys : List Value} (h : w.ownsRow b e k v n ys) (m : Below w.heap.size w w') : w'.ownsRow b e k v n ys := own_mod (S := []) h (Kit.Mod.of_below m) (by simp)
theorem Mine.stepB {x : In} (h : Mine M w x) (m : Below w.heap.size w w') : Mine M w' x := ⟨own_below h.1 m, h.2⟩
theorem Mine.mod {x : In} {S : List Nat} (h : Mine M w x) (m : Kit.Mod S w w') (hs : ∀ y, y ∈ S → y < M) : Mine M w' x := ⟨own_mod h.1 m hs, h.2⟩
theorem Mine.sl {x : In} (h : Mine M w x) : Sl w x.2.1 x.1.ps ∧ ∀ q o, x.2.1 = some ⟨q, o, none⟩ → M ≤ q := by
  have := Sl.of h.1 (by have := h.2; omega)
  exact ⟨this.2.1, this.2.2⟩
theorem Rws.mod {S : List Nat} (h : Rws B M p w v inn) (m : Kit.Mod S w w') (hs : ∀ y, y ∈ S → y < M ∧ y < B) (hp : p ∉ S) : Rws B M p w' v inn :=
  ⟨Kit.keep h.box m hp, own_mod h.own m (fun y hy => (hs y hy).2), fun x hx => (h.sls x hx).mod m (fun y hy => (hs y hy).1), Nat.le_trans h.siz m.size⟩
theorem Rws.stepB (h : Rws B M p w v inn) (m : Below w.heap.size w w') : Rws B M p w' v inn := h.mod (S := []) (Kit.Mod.of_below m) (by simp) (by simp)
theorem Rws.other {row : Option Nat} (h : Rws B M p w v inn) (hg : w.grownBy w' row) (hr : ∀ j, row = some j → ∃ o : Obj, w.heap[j]? = some o ∧ o.isCells = false) : Rws B M p w' v inn :=
  ⟨blk_other h.box hg hr, own_other h.own hg hr, fun x hx => ⟨own_other (h.sls x hx).1 hg hr, (h.sls x hx).2⟩, Nat.le_trans h.siz hg.size⟩
theorem Rws.push {o : Obj} {w5 : World} {v' : Value} {x : In} (h : Rws B M p w v inn) (hx : Mine M w x) (ho : w5.ownsRow B 24 4 v' (inn.length + 1) (flat inn ++ cellsI x)) (hg : (w.alloc o).grownBy w5 v.ownBlock) :
    w5.heap[p]? = some (.cells #[v] 36 (0, 0)) ∧ Rws B M p (w5.setCell ⟨p, 0, none⟩ v') v' (inn ++ [x]) := by
  have hsz := h.siz
  have b5 : w5.heap[p]? = some (.cells #[v] 36 (0, 0)) := by
    refine (hg.block p (by have := Kit.lt_of h.box; simp; omega) (fun e => ?_)).trans (Kit.keep_alloc h.box o)
    rcases own_blk h.own h.box (by decide) with e2 | e2
    · rw [e2] at e; cases e
    · exact e2 e.symm
  have gr : w5.grownBy (w5.setCell ⟨p, 0, none⟩ v') (some p) := ⟨rfl, rfl, rfl, by simp [World.setCell], fun k hk hne => Below.heap_setCell w5 _ _ k (fun e => hne (by simp [e]))⟩
  refine ⟨b5, by rw [Kit.set_blk b5]; rfl, ?_, ?_, Nat.le_trans hsz (by have := hg.size; simp [World.setCell] at this ⊢; omega)⟩
  · rw [List.length_append, List.length_singleton, flat_snoc]; exact ho.kept gr (own_blk ho b5 (by decide))
  · intro y hy
    have keep : ∀ z, Mine M w z → Mine M (w5.setCell ⟨p, 0, none⟩ v') z := fun z hz => by
      have z5 := (hz.1.alloc o).kept hg (own_far hz.1 h.own (by decide))
      exact ⟨z5.kept gr (own_blk z5 b5 (by decide)), hz.2⟩
    rcases List.mem_append.1 hy with hy | hy
    · exact keep y (h.sls y hy)
    · simp at hy; subst hy; exact keep y hx
/-- What lies at an element gathered. -/
theorem Rws.at_ {aa : Option Addr} {n ca : Nat} (S : Rws B M p w (.slice aa n ca) inn) (i : Nat) (hi : i < inn.length) (d : In) : ∃ q, aa = some ⟨q, 0, none⟩ ∧ n = inn.length ∧ inn.length ≤ ca ∧ w.cell? ⟨q, i * 4, none⟩ = some (.int .i64 (inn.getD i d).1.k) ∧ w.cell? ⟨q, i * 4 + 1, none⟩ = some (.int .i64 (inn.getD i d).1.a) ∧ w.cell? ⟨q, i * 4 + 2, none⟩ = some (.int .i64 (inn.getD i d).1.b) ∧ w.cell? ⟨q, i * 4 + 3, none⟩ = some (.slice (inn.getD i d).2.1 (inn.getD i d).1.ps.length (inn.getD i d).2.2) := by
  have e : ∃ q, aa = some ⟨q, 0, none⟩ ∧ n = inn.length ∧ inn.length ≤ ca := by
    rcases S.own.2 with ⟨_, h0⟩ | ⟨q, cp, cur, e, hb, hg, hc, _⟩
    · omega
    · simp only [Value.slice.injEq] at e; exact ⟨q, e.1, e.2.1, by omega⟩
  obtain ⟨q, e, en, ec⟩ := e
  obtain ⟨f0, f1, f2, f3⟩ := flat_get inn d i hi
  have c := fun j u h => S.own.cells (g := q) (by rw [e]; rfl) j u h
  refine ⟨q, e, en, ec, ?_, ?_, ?_, ?_⟩
  · have := c _ _ f0; rw [Addr.add_lit, Nat.zero_add] at this; exact this
  · have := c _ _ f1; rw [Addr.add_lit, Nat.zero_add] at this; exact this
  · have := c _ _ f2; rw [Addr.add_lit, Nat.zero_add] at this; exact this
  · have := c _ _ f3; rw [Addr.add_lit, Nat.zero_add] at this; exact this
end
section
variable {w w' : World} {g ga r fr wd : Nat} {xs : List Int} {L : List Fm}
theorem nil_or_snoc {α : Type} (l : List α) : l = [] ∨ ∃ l' x, l = l' ++ [x] := by
  rcases List.eq_nil_or_concat l with h | ⟨l', x, h⟩
  · exact .inl h
  · exact .inr ⟨l', x, by rw [h, List.concat_eq_append]⟩
theorem own_mono4 {w : World} {e : TypeId} {k b b' : Nat} {v : Value} {n : Nat} {ys : List Value} (h : w.ownsRow b e k v n ys) (hb : b' ≤ b) : w.ownsRow b' e k v n ys := by
  refine ⟨h.1, ?_⟩
  rcases h.2 with h2 | ⟨g, cap, cur, rfl, h3, h4⟩
  · exact .inl h2
  · exact .inr ⟨g, cap, cur, rfl, Nat.le_trans hb h3, h4⟩
set_option maxHeartbeats 2000000 in
set_option maxRecDepth 100000 in
theorem frames_it (K : Stk w g ga r fr wd xs L) (hw : wd ≤ 65536) :
    Calls Try.prog 28 #[.pointer (some ⟨g, 0, none⟩)] w fun e w' => ∃ v inn, e = .returned (.func (.func 42) #[] #[.pointer (some ⟨w.heap.size, 0, none⟩)]) ∧ Rws w.heap.size w.heap.size w.heap.size w' v inn ∧ inn.map (·.1) = L.reverse ∧ Below w.heap.size w w' := by
  obtain ⟨i0, hi, hz0, hz1, hz2⟩ := info_parts infoF
  have hfit := K.fits
  have KA := Stk.keepB K (Kit.allocB (Below.refl w.heap.size w) (.cells #[.slice none 0 0] 36 (0, 0)))
  have US := Lib.hid (used_it KA)
  have HK := Lib.hid K
  have R0 : Hid (Rws w.heap.size w.heap.size w.heap.size (w.alloc (.cells #[.slice none 0 0] 36 (0, 0))) (.slice none 0 0) [] ∧ Below w.heap.size w (w.alloc (.cells #[.slice none 0 0] 36 (0, 0)))) :=
    ⟨⟨Kit.new_blk _ _, World.ownsRow_nil _ _ _ _, by simp, by simp⟩, Kit.allocB (Below.refl _ _) _⟩
  clear K KA
  go_enter Try.func28, Try.ntmps28
  go_wp2_with fail
  refine US.out.mono ?_; rintro e w1 ⟨rfl, rfl⟩
  go_wp2_with fail
  go_loopg [4] L.length (fun n c wr => ∃ L1 L2, (L = L1 ++ L2 ∧ n = L1.length) ∧ c = .int .i64 (lay L1).length ∧ Hid (∃ v inn, (Rws w.heap.size w.heap.size w.heap.size wr v inn ∧ Below w.heap.size w wr) ∧ inn.map (·.1) = L2.reverse))
  case atStart => exact ⟨L, [], ⟨by simp, rfl⟩, rfl, _, _, R0.out, rfl⟩
  case round =>
    obtain ⟨L1, L2, ⟨hL, rfl⟩, rfl, H⟩ := hrel
    obtain ⟨v, inn, ⟨R, bl⟩, hm⟩ := H.out
    have HM := Lib.hid hm
    have HR := Lib.hid R
    have HB := Lib.hid bl
    obtain ⟨aa, ca, rfl⟩ := shape4 R.own
    clear H hm R
    rcases nil_or_snoc L1 with rfl | ⟨L1, f, rfl⟩
    · have HL := Lib.hid hL
      clear hL bl
      have e0 : (lay []).length = 0 := rfl
      rw [e0]
      clear e0
      go_wp2_with fail
      go_ret
      exact ⟨_, _, rfl, HR.out, by rw [HM.out, HL.out]; rfl, HB.out⟩
    · have e1 : L = L1 ++ f :: L2 := by rw [hL]; simp
      have KW := Stk.keepB HK.out bl
      rw [e1] at KW
      have hl : (lay (L1 ++ [f])).length = (lay L1).length + (f.ps.length + 1) := by rw [lay_snoc]; simp [encF]
      have hle : (lay (L1 ++ [f])).length ≤ (lay L).length := by rw [hL]; simp [lay]
      have hn : f.ps.length ≤ 1000 := (Sk.Good.bounds (HK.out.good f (by rw [e1]; simp))).2.2.2.1
      have hin : inn.length ≤ 65536 := by
        have h1 := congrArg List.length HM.out
        have h2 := lay_ge L
        have h3 := congrArg List.length e1
        simp at h1 h3; omega
      rw [hl]
      have FI : Hid (∀ en : Int, en = (lay L1).length + (f.ps.length + 1) → Calls Try.prog 34 #[.pointer (some ⟨g, 0, none⟩), .int .i64 en] wr fun e w' => ∃ p c, e = .returned (frameV f.k f.a f.b p f.ps.length c) ∧ w'.ownsRow (wr.heap.size + 2) 3 1 (.slice p f.ps.length c) f.ps.length (ints f.ps) ∧ Below wr.heap.size wr w') := fun en hen => frame_it KW hw en hen
      rw [hl] at hle
      have E1 : Hid (L = L1 ++ (f :: L2)) := e1
      have M1 : Hid (∀ p c, (inn ++ [((f, p, c) : In)]).map (·.1) = (f :: L2).reverse) := fun p c => by rw [List.map_append, HM.out]; simp
      have hB := HR.out.siz
      clear e1 KW hl hL HM bl
      obtain ⟨k, a, b, ps⟩ := f
      unfold frameV at FI
      simp only at *
      have hend : decide ((0 : Int) < (lay L1).length + (ps.length + 1)) = true := decide_eq_true (by omega)
      generalize hu : (lay L1).length = u at *
      have HU := Lib.hid hu
      clear hu
      go_wp2_with fail
      refine (FI.out _ (by omega)).mono ?_; rintro e w3 ⟨p, c, rfl, own, b3⟩
      have R3 := Lib.hid (HR.out.stepB b3)
      have B3 := Lib.hid (Kit.stepB HB.out b3)
      have hs3 := b3.size
      have M3 : Hid (Mine w.heap.size w3 (⟨k, a, b, ps⟩, p, c)) := ⟨own_mono4 own (by omega), hn⟩
      have R4 := Lib.hid (R3.out.stepB (Kit.allocB (Below.refl _ _) (.cells #[.int .i64 k, .int .i64 a, .int .i64 b, .slice p ps.length c] 24 (0, 0))))
      have c3 := Kit.cells1 R4.out.box
      have M4 := Lib.hid (M3.out.stepB (Kit.allocB (Below.refl _ _) (.cells #[.int .i64 k, .int .i64 a, .int .i64 b, .slice p ps.length c] 24 (0, 0))))
      have B4 := Lib.hid (Kit.allocB B3.out (.cells #[.int .i64 k, .int .i64 a, .int .i64 b, .slice p ps.length c] 24 (0, 0)))
      have N4 := Lib.hid (Kit.new_blk w3 (.cells #[.int .i64 k, .int .i64 a, .int .i64 b, .slice p ps.length c] 24 (0, 0)))
      have c4n := Lib.hid (Kit.cells4 (Kit.new_blk2 w3 (.cells #[.int .i64 k, .int .i64 a, .int .i64 b, .slice p ps.length c] 24 (0, 0)) (.cells #[.int .i64 k, .int .i64 a, .int .i64 b, .slice p ps.length c] 24 (0, 0))))
      clear own b3 FI
      go_wp2_with (at_builtin; go_loud (refine wpList_append_own _ rfl _ _ 36 rfl w.heap.size 24 i0 (.agg #[.int .i64 0, .int .i64 0, .int .i64 0, .slice none 0 0]) 4 48 Try.underlying36 hi hz0 hz1 hz2 rfl (by decide) _ _ _ rfl (own_mod (S := []) R4.out.own ((Kit.Mod.refl _ _).alloc _) (by simp)) ⟨w3.heap.size + 1, 0, none⟩ 1 1 (cellsI (⟨k, a, b, ps⟩, p, c)) rfl rfl (fun q u hq => by
        match q, hq with
        | 0, hq => simp [cellsI] at hq; subst hq; exact c4n.out.1
        | 1, hq => simp [cellsI] at hq; subst hq; exact c4n.out.2.1
        | 2, hq => simp [cellsI] at hq; subst hq; exact c4n.out.2.2.1
        | 3, hq => simp [cellsI] at hq; subst hq; exact c4n.out.2.2.2) (fun x hx => by simp [cellsI] at hx; rcases hx with rfl | rfl | rfl | rfl <;> rfl) (by unfold maxLen; omega) (by omega) (by simp; omega) ?_))
      intro v' w5 hown' hgrow _
      obtain ⟨b5, R5⟩ := R4.out.push (x := (⟨k, a, b, ps⟩, p, c)) M4.out hown' hgrow
      have h5 : Below (w.heap.size) w w5 := by
        have := R4.out.siz
        exact ((B4.out.alloc B4.out.size _).grown hgrow (by simp at this ⊢; omega) (fun q hq => by have := (R4.out.own.lt q hq).1; omega))
      have ne5 : ∀ q, (Value.slice aa inn.length ca).ownBlock = some q → q ≠ w3.heap.size := fun q hq => by
        have := (R3.out.own.lt q hq).2; omega
      have n5 : w5.heap[w3.heap.size]? = some (.cells #[.int .i64 k, .int .i64 a, .int .i64 b, .slice p ps.length c] 24 (0, 0)) :=
        (hgrow.block w3.heap.size (by simp; omega) (fun e => ne5 _ e.symm rfl)).trans (Kit.keep_alloc N4.out _)
      have c5 := Kit.cells1 b5
      have f5 := Kit.frozen_of b5 0
      have c5n := Kit.cells4 n5
      have BF := Lib.hid (h5.setCell (p := ⟨w.heap.size, 0, none⟩) (Nat.le_refl _) v')
      have RF := Lib.hid R5
      obtain ⟨aa', ca', rfl⟩ := shape4 hown'
      have hne : w3.heap.size ≠ w.heap.size := by have := Kit.lt_of R3.out.box; omega
      clear hown' hgrow h5 ne5 n5 b5 R5 c3
      go_wp2_with fail
      go_roundg L1.length
      case measure => simp
      case rel => exact ⟨L1, _, ⟨E1.out, rfl⟩, by rw [HU.out], _, _, ⟨RF.out, BF.out⟩, M1.out p c⟩
end
end Go.Proofs.Ytedkackmccnkfaa.Fz
