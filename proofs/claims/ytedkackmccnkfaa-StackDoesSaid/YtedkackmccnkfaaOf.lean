/- Opening frames and slices of frames that came in. No condition. -/
import Derived.Test.YtedkackmccnkfaaOp
import Derived.Test.YtedkackmccnkfaaAw
set_option linter.unusedVariables false
namespace Go.Proofs.Ytedkackmccnkfaa.Of
open Go.RowKit Go.ChangeShapes Go.WideShapes Go.Proofs.Ytedkackmccnkfaa.Op Go.Proofs.YtedkackmccnkfaaW.PrintWords
open Fr Sk
/-- How a frame lies in cells. -/
def kF : Kd Fm := Kd.iso (Kd.pair (Kd.int .i64) (Kd.pair (Kd.int .i64) (Kd.pair (Kd.int .i64) (Kd.slice 3 (Kd.int .i64))))) (fun f => (f.k, f.a, f.b, f.ps))
def gF (f : Fm) : Prop := f.ps.length ≤ 17592186044416
theorem opensF {H : Type} {enc : TypeId × Value → H} {w : World} {sp : Nat → Bool} {held : Bool} : Opens enc Try.prog w sp held kF 24 gF := by
  have h := opens_iso (opens_struct Try.underlying24 rfl (by kernel_rfl)
    (opensF_cons (opens_int (H := H) (enc := enc) (w := w) (sp := sp) (held := held) Try.underlying3 (by kernel_rfl)) rfl (opensF_cons (opens_int Try.underlying3 (by kernel_rfl)) rfl (opensF_cons (opens_int Try.underlying3 (by kernel_rfl)) rfl (opensF_one (opens_slice (B := 8) (0 : Int) Try.underlying22 (by kernel_rfl) (by kernel_rfl) (opens_int Try.underlying3 (by kernel_rfl))) rfl)))))
    (fun f : Fm => (f.k, f.a, f.b, f.ps)) (fun p => ⟨p.1, p.2.1, p.2.2.1, p.2.2.2⟩) (fun _ => rfl)
  refine ⟨h.1, fun fuel cs x ht hw => ?_⟩
  obtain ⟨v, hk, g1, g2, g3, g4⟩ := h.2 fuel cs x ht hw
  refine ⟨v, hk, ?_⟩
  have := g4.2.1
  unfold gF
  simp only at this
  omega
theorem Sl.ofC {w : World} {A : Option Addr} {ps : List Int} (h : (Kd.int .i64).C w A ps.length ps) : Sl w A ps := by
  obtain ⟨h1, h2, h3⟩ := h
  refine ⟨h2, fun h0 => ?_⟩
  obtain ⟨ad, rfl, hc⟩ := h3 h0
  have at_ : ∀ j, j < ps.length → w.cell? (ad.add j) = some (.int .i64 (ps.getD j 0)) := fun j hj => by
    obtain ⟨c, hl, hk, hu⟩ := hc j (ps.getD j 0) (by simp [List.getD_eq_getElem?_getD, hj])
    have hk : c = [Value.int .i64 (ps.getD j 0)] := hk
    subst hk
    have := hu 0 _ rfl
    simpa [Kd.int, Kd.scalar] using this
  obtain ⟨b, off, spot⟩ := ad
  have hspot : spot = none := by simpa [Addr.add] using World.cell?_spot (at_ 0 h0)
  subst hspot
  refine ⟨b, off, rfl, ?_, fun i hi => ?_⟩
  · have := World.block_lt_of_cell? w _ (at_ 0 h0)
    simpa [Addr.add] using this
  · have := at_ i hi
    rw [Go.WideShapes.add_plain] at this
    exact this
/-- What is known of a frame's cells. -/
theorem kF_cells {w : World} {f : Fm} {cs : List Value} (h : kF.K w f cs) : ∃ p c, cs = [.int .i64 f.k, .int .i64 f.a, .int .i64 f.b, .slice p f.ps.length c] ∧ Sl w p f.ps := by
  obtain ⟨c0, c1, rfl, h0, d0, d1, rfl, h1, e0, e1, rfl, h2, A, c, rfl, hl, hC⟩ := h
  have h0 : c0 = [Value.int .i64 f.k] := h0
  have h1 : d0 = [Value.int .i64 f.a] := h1
  have h2 : e0 = [Value.int .i64 f.b] := h2
  subst h0 h1 h2
  exact ⟨A, c, rfl, Sl.ofC hC⟩
/-- A frame that came in. -/
theorem frame_arg {H : Type} {enc : TypeId × Value → H} {w : World} {base : Nat} {v : Value} {d : DataW H} {p : List MemPlace} (h : DataW.Trod enc Try.prog w 0 (fun _ => true) true 24 v d p) (o : Value.okWide Try.prog w .any base 24 v)
    (hw : ∀ m ∈ d.weights Try.prog 24, m ≤ reachBytes) : ∃ (f : Fm) (q : Option Addr) (c : Nat), v = frameV f.k f.a f.b q f.ps.length c ∧ Sl w q f.ps ∧ f.ps.length ≤ 17592186044416 := by
  obtain ⟨f, hk, hg⟩ := opens_arg opensF h hw
  obtain ⟨q, c, hc, S⟩ := kF_cells hk
  obtain ⟨cs, rfl, hs⟩ := okWide_struct Try.underlying24 o
  have e : cs.toList = [.int .i64 f.k, .int .i64 f.a, .int .i64 f.b, .slice q f.ps.length c] := by
    rw [← hc]; rfl
  refine ⟨f, q, c, ?_, S, hg⟩
  unfold frameV
  rw [← Array.toArray_toList (xs := cs), e]
end Go.Proofs.Ytedkackmccnkfaa.Of
