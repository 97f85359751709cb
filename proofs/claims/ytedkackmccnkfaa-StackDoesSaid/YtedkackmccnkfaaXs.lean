/- The document's stack: what it holds, and its plain calls. No condition. -/
import Derived.Test.YtedkackmccnkfaaLawMaps
import Derived.Deep.DrawnRows
set_option linter.unusedVariables false
set_option linter.unusedSimpArgs false
namespace Go.Proofs.Ytedkackmccnkfaa.Xs
open Go.RowKit Go.Shelf
open Fr Fs Ft Ar Sk Pu Pv Fa Po Nw Bk Fz Fy Mq Mj Mk LawMaps
/-- A frame's block of pointers. -/
def blk (x : In) : Option Nat := (Value.slice x.2.1 0 0).ownBlock
theorem blk_own {x : In} : (Value.slice x.2.1 x.1.ps.length x.2.2).ownBlock = blk x := by
  unfold blk
  rcases x.2.1 with _ | a <;> rfl
/-- The document's stack. -/
structure Xr (w : World) (B y wd : Nat) (v : Value) (inn : List In) : Prop where
  obj : w.heap[y]? = some (.cells #[.int .i64 wd, v] 52 (0, 0))
  own : w.ownsRow B 24 4 v inn.length (flat inn)
  sls : ∀ x, x ∈ inn → Mine B w x
  apart : inn.Pairwise fun x z => ∀ q, blk x = some q → blk z ≠ some q
  siz : B ≤ w.heap.size
  low : B ≤ y
/-- Blocks that the document's calls write. -/
def KT (N : Nat) (w : World) (q : Nat) : Prop := N ≤ q ∧ ∃ cs T, w.heap[q]? = some (.cells cs T (0, 0)) ∧ (T = 52 ∨ T = 24 ∨ T = 3)
section
variable {w w' : World} {B y wd : Nat} {v : Value} {inn : List In} {K : Nat → Prop}
theorem own_typ {e : TypeId} {k b : Nat} {v : Value} {n : Nat} {ys : List Value} (h : w.ownsRow b e k v n ys) (q : Nat) (hq : v.ownBlock = some q) : b ≤ q ∧ ∃ cs, w.heap[q]? = some (.cells cs e (0, 0)) := by
  rcases h.2 with ⟨rfl, _⟩ | ⟨g, cap, cur, rfl, hb, hg, _⟩
  · cases hq
  · cases hq; exact ⟨hb, cur, hg⟩
theorem own_keepP {e : TypeId} {k b : Nat} {v : Value} {n : Nat} {ys : List Value} (h : w.ownsRow b e k v n ys) (m : ∀ q, v.ownBlock = some q → w'.heap[q]? = w.heap[q]?) : w'.ownsRow b e k v n ys := by
  refine ⟨h.1, ?_⟩
  rcases h.2 with h2 | ⟨g, cap, cur, rfl, hb, hg, rest⟩
  · exact .inl h2
  · exact .inr ⟨g, cap, cur, rfl, hb, (m g rfl).trans hg, rest⟩
/-- The document's stack lies in blocks of its own types. -/
theorem Xr.keep (h : Xr w B y wd v inn) (m : ∀ (q : Nat) (cs : Array Value) (T : TypeId), w.heap[q]? = some (Obj.cells cs T (0, 0)) → (T = 52 ∨ T = 24 ∨ T = 3) → w'.heap[q]? = w.heap[q]?) (hs : w.heap.size ≤ w'.heap.size) : Xr w' B y wd v inn :=
  ⟨(m y _ _ h.obj (.inl rfl)).trans h.obj, own_keepP h.own (fun q hq => by obtain ⟨_, cs, e⟩ := own_typ h.own q hq; exact m q _ _ e (.inr (.inl rfl))), fun x hx => ⟨own_keepP (h.sls x hx).1 (fun q hq => by obtain ⟨_, cs, e⟩ := own_typ (h.sls x hx).1 q hq; exact m q _ _ e (.inr (.inr rfl))), (h.sls x hx).2⟩, h.apart, Nat.le_trans h.siz hs, h.low⟩
theorem Xr.keepB (h : Xr w B y wd v inn) (m : Below w.heap.size w w') : Xr w' B y wd v inn := h.keep (fun q cs T e _ => m.block q (Kit.lt_of e)) m.size
theorem Xr.heap (h : Xr w B y wd v inn) (e : w'.heap = w.heap) : Xr w' B y wd v inn := h.keep (fun q cs T _ _ => by rw [e]) (by rw [e]; exact Nat.le_refl _)
theorem Xr.shape (h : Xr w B y wd v inn) : ∃ aa ca, v = .slice aa inn.length ca ∧ inn.length ≤ ca := by
  rcases h.own.2 with ⟨e, e0⟩ | ⟨q, cp, cur, e, hb, hg, hc, _⟩
  · exact ⟨none, 0, by rw [e, e0], by omega⟩
  · exact ⟨_, _, e, by omega⟩
theorem Xr.cells (h : Xr w B y wd v inn) : w.cell? ⟨y, 0, none⟩ = some (.int .i64 wd) ∧ w.cell? ⟨y, 1, none⟩ = some v := Kit.cells2 h.obj
/-- What lies at a frame. -/
theorem Xr.at_ {aa : Option Addr} {n ca : Nat} (S : Xr w B y wd (.slice aa n ca) inn) (i : Nat) (hi : i < inn.length) (d : In) : ∃ q, aa = some ⟨q, 0, none⟩ ∧ ca ≤ maxLen ∧ w.cell? ⟨q, i * 4, none⟩ = some (.int .i64 (inn.getD i d).1.k) ∧ w.cell? ⟨q, i * 4 + 1, none⟩ = some (.int .i64 (inn.getD i d).1.a) ∧ w.cell? ⟨q, i * 4 + 2, none⟩ = some (.int .i64 (inn.getD i d).1.b) ∧ w.cell? ⟨q, i * 4 + 3, none⟩ = some (.slice (inn.getD i d).2.1 (inn.getD i d).1.ps.length (inn.getD i d).2.2) := by
  have e : ∃ q, aa = some ⟨q, 0, none⟩ ∧ ca ≤ maxLen := by
    rcases S.own.2 with ⟨_, h0⟩ | ⟨q, cp, cur, e, hb, hg, hc, hm, _⟩
    · omega
    · simp only [Value.slice.injEq] at e; exact ⟨q, e.1, by omega⟩
  obtain ⟨q, e, ec⟩ := e
  obtain ⟨f0, f1, f2, f3⟩ := flat_get inn d i hi
  have c := fun j u h => S.own.cells (g := q) (by rw [e]; rfl) j u h
  refine ⟨q, e, ec, ?_, ?_, ?_, ?_⟩
  · have := c _ _ f0; rw [Addr.add_lit, Nat.zero_add] at this; exact this
  · have := c _ _ f1; rw [Addr.add_lit, Nat.zero_add] at this; exact this
  · have := c _ _ f2; rw [Addr.add_lit, Nat.zero_add] at this; exact this
  · have := c _ _ f3; rw [Addr.add_lit, Nat.zero_add] at this; exact this
theorem lay_app (l1 l2 : List Fm) : (lay (l1 ++ l2)).length = (lay l1).length + (lay l2).length := by simp [lay]
theorem lay_le {n : Nat} (inn : List In) (j : Nat) (hl : (lay (inn.map (·.1))).length ≤ n) : (lay ((inn.take j).map (·.1))).length ≤ n := by
  have e : inn.map (·.1) = (inn.take j).map (·.1) ++ (inn.drop j).map (·.1) := by rw [← List.map_append, List.take_append_drop]
  rw [e, lay_app] at hl
  omega
theorem lay_take (inn : List In) (j : Nat) (hj : j < inn.length) (d : In) : (lay ((inn.take (j + 1)).map (·.1))).length = (lay ((inn.take j).map (·.1))).length + ((inn.getD j d).1.ps.length + 1) := by
  have e : (inn.take (j + 1)).map (·.1) = (inn.take j).map (·.1) ++ [(inn.getD j d).1] := by
    rw [List.take_succ_eq_append_getElem hj, List.map_append, List.getD_eq_getElem?_getD, List.getElem?_eq_getElem hj]
    rfl
  rw [e, lay_snoc]
  simp [encF]
set_option maxHeartbeats 1000000 in
set_option maxRecDepth 100000 in
theorem rused_it (X : Xr w B y wd v inn) (hl : (lay (inn.map (·.1))).length ≤ 65536) : Calls Try.prog 40 #[.pointer (some ⟨y, 0, none⟩)] w fun e w' => e = .returned (.int .i64 (lay (inn.map (·.1))).length) ∧ w' = w := by
  have HX := Lib.hid X
  obtain ⟨aa, ca, rfl, hca⟩ := X.shape
  obtain ⟨c0, c1⟩ := X.cells
  have hin : inn.length ≤ 65536 := by have := lay_ge (inn.map (·.1)); simp at this; omega
  clear X
  go_enter Try.func40, Try.ntmps40
  go_wp2_with fail
  go_loopg [3, 4] inn.length (fun n c3 c4 wr => ∃ j : Nat, (j ≤ inn.length ∧ n = inn.length - j) ∧ (c3 = .int .i64 (lay ((inn.take j).map (·.1))).length ∧ c4 = .int .i64 j) ∧ w = wr)
  case atStart => exact ⟨0, ⟨Nat.zero_le _, rfl⟩, ⟨by simp [lay], rfl⟩, rfl⟩
  case round =>
    obtain ⟨j, ⟨hj, rfl⟩, ⟨rfl, rfl⟩, rfl⟩ := hrel
    have lm := lay_le inn j hl
    by_cases hlt : j < inn.length
    · obtain ⟨q, rfl, hcm, d0, d1, d2, d3⟩ := HX.out.at_ j hlt (⟨0, 0, 0, []⟩, none, 0)
      have LT := Lib.hid (lay_take inn j hlt (⟨0, 0, 0, []⟩, none, 0))
      have hps : (inn.getD j (⟨0, 0, 0, []⟩, none, 0)).1.ps.length ≤ 1000 := (HX.out.sls _ (by rw [List.getD_eq_getElem?_getD, List.getElem?_eq_getElem hlt]; exact List.getElem_mem hlt)).2
      generalize inn.getD j (⟨0, 0, 0, []⟩, none, 0) = x at *
      generalize (lay ((inn.take j).map (·.1))).length = u at *
      have l1 : (j : Int) < inn.length := by omega
      have l2 : (0 : Int) ≤ j := by omega
      unfold maxLen at hcm
      clear d0 d1 d2
      go_wp2_with fail
      go_roundg (inn.length - (j + 1))
      case measure => omega
      case rel => exact ⟨j + 1, ⟨by omega, rfl⟩, ⟨by rw [LT.out]; simp; omega, by simp⟩, rfl⟩
    · obtain rfl : j = inn.length := by omega
      rw [List.take_length]
      go_wp2_with fail
      go_ret
      exact ⟨rfl, rfl⟩
end
end Go.Proofs.Ytedkackmccnkfaa.Xs
