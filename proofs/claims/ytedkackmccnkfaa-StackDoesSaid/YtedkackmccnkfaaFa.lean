/- A frame is read back from its words. No condition. -/
import Derived.Test.YtedkackmccnkfaaPv
import Derived.Laws.AppendOwn
import Derived.OwnWalk
import Derived.Maps.AppendAt
import Derived.Deep.LoopGhost
set_option linter.unusedVariables false
set_option linter.unusedSimpArgs false
namespace Go.Proofs.Ytedkackmccnkfaa.Fa
open Go.RowKit
open Fr Fs Ft Ar Sk Pu Pv
theorem infoI : (Try.prog.info? 3).map (fun i => (i.zero, i.size, i.bytes)) = some (some (.int .i64 0), 1, 8) := by kernel_rfl
def ints (l : List Int) : List Value := l.map (Value.int .i64)
theorem ints_get (ps : List Int) (k : Nat) (h : k < ps.length) : (ints ps)[k]? = some (.int .i64 (ps.getD k 0)) := by simp [ints, h, List.getD_eq_getElem?_getD]
theorem shape_of {w : World} {e : TypeId} {b : Nat} {v : Value} {c : Nat} {ys : List Value} (h : w.ownsRow b e 1 v c ys) : ∃ a cp, v = .slice a c cp := by
  rcases h.2 with ⟨rfl, rfl⟩ | ⟨g, cap, cur, rfl, hb, _⟩
  · exact ⟨_, _, rfl⟩
  · exact ⟨_, _, rfl⟩
theorem own_addr {w : World} {e : TypeId} {b : Nat} {v : Value} {n : Nat} {ys : List Value} (h : w.ownsRow b e 1 v n ys) (hn : 0 < n) : ∃ q cp, v = .slice (some ⟨q, 0, none⟩) n cp ∧ b ≤ q ∧ q < w.heap.size := by
  rcases h.2 with ⟨rfl, rfl⟩ | ⟨g, cap, cur, rfl, hb, hg, _⟩
  · omega
  · exact ⟨g, cap, rfl, hb, Kit.lt_of hg⟩
/-- What is gathered reads as a slice of numbers. -/
theorem Sl.of {w : World} {b : Nat} {p : Option Addr} {n c : Nat} {ps : List Int} (h : w.ownsRow b 3 1 (.slice p n c) ps.length (ints ps)) (hm : ps.length ≤ 1048576) : n = ps.length ∧ Sl w p ps ∧ ∀ q o, p = some ⟨q, o, none⟩ → b ≤ q := by
  obtain ⟨a, cp, e⟩ := shape_of h
  simp only [Value.slice.injEq] at e
  refine ⟨e.2.1, ⟨by omega, fun h0 => ?_⟩, fun q o hq => (h.lt q (by subst hq; rfl)).1⟩
  obtain ⟨q, cp, e2, hq, hl⟩ := own_addr h h0
  simp only [Value.slice.injEq] at e2
  refine ⟨q, 0, e2.1, hl, fun i hi => ?_⟩
  have := h.cells (g := q) (by rw [e2.1]; rfl) i _ (ints_get ps i hi)
  rw [Addr.add_lit] at this
  exact this
theorem own_set {w : World} {e : TypeId} {b : Nat} {v : Value} {n : Nat} {ys : List Value} (h : w.ownsRow b e 1 v n ys) (p : Addr) (hp : p.block < b) (u : Value) : (w.setCell p u).ownsRow b e 1 v n ys := by
  have gr : w.grownBy (w.setCell p u) (some p.block) := ⟨rfl, rfl, rfl, by simp [World.setCell], fun k hk hne => Below.heap_setCell w p u k (fun e => hne (by simp [e]))⟩
  refine h.kept gr ?_
  cases hv : v.ownBlock with
  | none => exact .inl rfl
  | some q => right; have := (h.lt q hv).1; simp; omega
section
variable {w w' : World} {g ga r fr wd : Nat} {xs : List Int} {L : List Fm}
theorem code_bits {f : Fm} (h : Sk.Good f) : (0 ≤ code f ∧ code f ≤ 1152921504606846976) ∧ Go.bits .and .u64 (code f) 15 = f.k ∧ Go.bits .and .u64 (code f / 65536) 15 = f.b ∧ code f / 1048576 = f.a ∧ Go.bits .and .u64 (code f / 16) 4095 = f.ps.length := by
  obtain ⟨gk, gA, gB, gn, gp⟩ := Sk.Good.bounds h
  unfold code
  refine ⟨by omega, ?_, ?_, by omega, ?_⟩
  · rw [Bt.and_15 _ (by omega) (by omega)]; omega
  · rw [Bt.and_15 _ (by omega) (by omega)]; omega
  · rw [Bt.and_4095 _ (by omega) (by omega)]; omega
/-- A frame's words among all. -/
theorem frame_words {L1 L2 : List Fm} {f : Fm} (K : Stk w g ga r fr wd xs (L1 ++ f :: L2)) : (∀ i, i < f.ps.length → xs.getD (fr + (lay L1).length + i) 0 = f.ps.getD i 0) ∧ xs.getD (fr + (lay L1).length + f.ps.length) 0 = code f ∧ (lay L1).length + (f.ps.length + 1) ≤ wd := by
  have e : lay (L1 ++ f :: L2) = lay L1 ++ (f.ps ++ (code f :: lay L2)) := by simp [lay, encF]
  have hl : (lay (L1 ++ f :: L2)).length = (lay L1).length + (f.ps.length + 1) + (lay L2).length := by rw [e]; simp; omega
  have hf := K.fits
  refine ⟨fun i hi => ?_, ?_, by omega⟩
  · have := K.words ((lay L1).length + i) (by omega)
    rw [← Nat.add_assoc] at this
    rw [this, e]
    simp only [List.getD_eq_getElem?_getD]
    rw [List.getElem?_append_right (by omega), List.getElem?_append_left (by omega)]
    congr 2; omega
  · have := K.words ((lay L1).length + f.ps.length) (by omega)
    rw [← Nat.add_assoc] at this
    rw [this, e]
    simp only [List.getD_eq_getElem?_getD]
    rw [List.getElem?_append_right (by omega), List.getElem?_append_right (by omega)]
    rw [show (lay L1).length + f.ps.length - (lay L1).length - f.ps.length = 0 by omega]
    rfl
/-- Where the reading loop stands. -/
structure Rd (w wr : World) (k a b : Int) (aa : Option Addr) (j ca : Nat) (ps : List Int) : Prop where
  box : wr.heap[w.heap.size + 1]? = some (.cells #[.int .i64 k, .int .i64 a, .int .i64 b, .slice aa j ca] 24 (0, 0))
  res : wr.heap[w.heap.size]? = some (.cells #[.int .i64 0, .int .i64 0, .int .i64 0, .slice none 0 0] 24 (0, 0))
  own : wr.ownsRow (w.heap.size + 2) 3 1 (.slice aa j ca) j (ints (ps.take j))
  bel : Below w.heap.size w wr
  siz : w.heap.size + 2 ≤ wr.heap.size
theorem Rd.next {w wr w2 : World} {k a b : Int} {aa aa' : Option Addr} {j ca ca' : Nat} {ps : List Int} {o : Obj} (R : Rd w wr k a b aa j ca ps) (hj : j < ps.length)
    (ho : w2.ownsRow (w.heap.size + 2) 3 1 (.slice aa' (j + 1) ca') (j + 1) (ints (ps.take j) ++ [.int .i64 (ps.getD j 0)])) (hg : (wr.alloc o).grownBy w2 (Value.slice aa j ca).ownBlock) :
    w2.heap[w.heap.size + 1]? = some (.cells #[.int .i64 k, .int .i64 a, .int .i64 b, .slice aa j ca] 24 (0, 0)) ∧ Rd w (w2.setCell ⟨w.heap.size + 1, 3, none⟩ (.slice aa' (j + 1) ca')) k a b aa' (j + 1) ca' ps := by
  have ob : ∀ q, (Value.slice aa j ca).ownBlock = some q → w.heap.size + 2 ≤ q := fun q h => (R.own.lt q h).1
  have h0 : Below (w.heap.size + 2) wr w2 := ((Below.refl _ _).alloc R.siz o).grown hg (by have := R.siz; simp; omega) ob
  have b1 := (h0.block (w.heap.size + 1) (by omega)).trans R.box
  have gr : w2.grownBy (w2.setCell ⟨w.heap.size + 1, 3, none⟩ (.slice aa' (j + 1) ca')) (some (w.heap.size + 1)) := ⟨rfl, rfl, rfl, by simp [World.setCell], fun k hk hne => Below.heap_setCell w2 _ _ k (fun e => hne (by simp [e]))⟩
  refine ⟨b1, ?_, ?_, ?_, ?_, ?_⟩
  · rw [Kit.set_blk b1]; rfl
  · exact Kit.set_far ((h0.block _ (by omega)).trans R.res) (by simp) _
  · have e : ints (ps.take (j + 1)) = ints (ps.take j) ++ [.int .i64 (ps.getD j 0)] := by
      rw [List.take_succ_eq_append_getElem hj, List.getD_eq_getElem?_getD, List.getElem?_eq_getElem hj]
      unfold ints
      rw [List.map_append]
      rfl
    rw [e]
    refine ho.kept gr ?_
    cases h : (Value.slice aa' (j + 1) ca').ownBlock with
    | none => exact .inl rfl
    | some q => right; have := (ho.lt q h).1; simp; omega
  · have := h0.mono (B' := w.heap.size) (by omega)
    exact (R.bel.trans this).setCell (p := ⟨w.heap.size + 1, 3, none⟩) (by simp) _
  · have := h0.size; have := R.siz; simp [World.setCell]; omega
theorem readS (O : Own 71 w ga r xs) (i : Int) (k : Nat) (hi : i = k) (hk : k < xs.length) : Calls Try.prog 19 #[.pointer (some ⟨ga, 0, none⟩), .int .i64 i] w fun e w' => e = .returned (.tuple #[.int .u64 (xs.getD k 0), .int .i64 0]) ∧ w' = w := by
  subst hi
  have := read_any w ga r xs k O
  unfold readV atE at this
  rw [if_pos (by omega), if_pos (by omega), Int.toNat_natCast] at this
  exact this.mono fun e w' h => ⟨h.1, h.2.symm⟩
set_option maxHeartbeats 2000000 in
set_option maxRecDepth 100000 in
theorem frame_it {L1 L2 : List Fm} {f : Fm} (K : Stk w g ga r fr wd xs (L1 ++ f :: L2)) (hw : wd ≤ 65536) (en : Int) (hen : en = (lay L1).length + (f.ps.length + 1)) :
    Calls Try.prog 34 #[.pointer (some ⟨g, 0, none⟩), .int .i64 en] w fun e w' => ∃ p c, e = .returned (frameV f.k f.a f.b p f.ps.length c) ∧ w'.ownsRow (w.heap.size + 2) 3 1 (.slice p f.ps.length c) f.ps.length (ints f.ps) ∧ Below w.heap.size w w' := by
  obtain ⟨i0, hi, hz0, hz1, hz2⟩ := info_parts infoI
  have hgood := K.good f (by simp)
  obtain ⟨gk, gA, gB, gn, gp⟩ := Sk.Good.bounds hgood
  obtain ⟨hc0, hc1, hc2, hc3, hc4⟩ := code_bits hgood
  obtain ⟨fw, fc, fl⟩ := frame_words K
  have hfit := K.fits
  have hsm := K.own.small
  have HK := Lib.hid K
  have FW := Lib.hid fw
  have GP := Lib.hid gp
  obtain ⟨x, hx⟩ : ∃ x, x = code f := ⟨_, rfl⟩
  rw [← hx] at fc hc0 hc1 hc2 hc3 hc4
  have HFC := Lib.hid fc
  clear hx fw fc gp K hgood
  obtain ⟨k, a, b, ps⟩ := f
  unfold frameV
  simp only at *
  have hen1 : 1 ≤ en ∧ en ≤ 65536 := by omega
  have HEN := Lib.hid hen
  have HL := Lib.hid hfit
  have hfr : fr ≤ 524288 := by omega
  have KA := Stk.keepB HK.out (Kit.allocB (Below.refl w.heap.size w) (Obj.cells #[Value.int IntKind.i64 0, Value.int IntKind.i64 0, Value.int IntKind.i64 0, Value.slice none 0 0] 24))
  have BA := Lib.hid (Kit.new_blk w (Obj.cells #[Value.int IntKind.i64 0, Value.int IntKind.i64 0, Value.int IntKind.i64 0, Value.slice none 0 0] 24))
  have HA := Lib.hid (Kit.allocB (Below.refl w.heap.size w) (Obj.cells #[Value.int IntKind.i64 0, Value.int IntKind.i64 0, Value.int IntKind.i64 0, Value.slice none 0 0] 24))
  have cs := Stk.cells KA
  have HKA := Lib.hid KA
  have R1 : Hid (∀ w' : World, w'.heap = (w.alloc (Obj.cells #[Value.int IntKind.i64 0, Value.int IntKind.i64 0, Value.int IntKind.i64 0, Value.slice none 0 0] 24)).heap → Calls Try.prog 19 #[.pointer (some ⟨ga, 0, none⟩), .int .i64 ((fr : Int) + en - 1)] w' (fun e w'' => e = .returned (.tuple #[.int .u64 x, .int .i64 0]) ∧ w'' = w')) := fun w' e => by
    have := readS (Stk.heap HKA.out e).own ((fr : Int) + en - 1) (fr + (lay L1).length + ps.length) (by omega) (by omega)
    rw [HFC.out] at this
    exact this
  have s1 : IntKind.i64.wrap ((fr : Int) + en) = fr + en := IntWalk.i64_in _ (by omega)
  have s2 : IntKind.i64.wrap ((fr : Int) + en - 1) = fr + en - 1 := IntWalk.i64_in _ (by omega)
  clear hen hfit KA
  go_enter Try.func34, Try.ntmps34
  go_wp2_with fail
  go_quiet (first | (go_at_call 19; refine Calls.quiet_of_same (R1.out _ rfl)))
  clear s1 s2
  go_wp2_with fail
  have R0 : Hid (∃ aa ca, Rd w (((w.alloc (Obj.cells #[Value.int IntKind.i64 0, Value.int IntKind.i64 0, Value.int IntKind.i64 0, Value.slice none 0 0] 24)).drewN nq).alloc (Obj.cells #[Value.int IntKind.i64 k, Value.int IntKind.i64 a, Value.int IntKind.i64 b, Value.slice none 0 0] 24)) k a b aa 0 ca ps) := by
    refine ⟨none, 0, Kit.new_blk2 w _ _, Kit.keep_alloc (Kit.keep_drewN BA.out nq) _, ?_, Kit.allocB (Kit.drawB HA.out nq) _, by simp⟩
    rw [List.take_zero]
    exact World.ownsRow_nil _ _ _ _
  go_loopg [43] ps.length (fun n i wr => ∃ j : Nat, (j ≤ ps.length ∧ n = ps.length - j) ∧ i = .int .i64 j ∧ Hid (∃ aa ca, Rd w wr k a b aa j ca ps))
  case atStart => exact ⟨0, ⟨Nat.zero_le _, rfl⟩, rfl, R0.out⟩
  case round =>
    obtain ⟨j, ⟨hj, rfl⟩, rfl, HR⟩ := hrel
    obtain ⟨aa, ca, R⟩ := HR.out
    have KR := Stk.keepB HK.out R.bel
    have cs := Stk.cells KR
    have c4 := Kit.cells4 R.box
    have HKR := Lib.hid KR
    have HRR := Lib.hid R
    clear KR HR
    by_cases hlt : j < ps.length
    · have hx := FW.out j hlt
      have hp := GP.out (ps.getD j 0) (by rw [List.getD_eq_getElem?_getD, List.getElem?_eq_getElem hlt]; exact List.getElem_mem hlt)
      have NX : Hid (∀ (w2 : World) (aa' : Option Addr) (ca' : Nat) (o : Obj), w2.ownsRow (w.heap.size + 2) 3 1 (.slice aa' (j + 1) ca') (j + 1) (ints (ps.take j) ++ [.int .i64 (ps.getD j 0)]) → (wr.alloc o).grownBy w2 (Value.slice aa j ca).ownBlock → w2.heap[w.heap.size + 1]? = some (.cells #[.int .i64 k, .int .i64 a, .int .i64 b, .slice aa j ca] 24 (0, 0)) ∧ Rd w (w2.setCell ⟨w.heap.size + 1, 3, none⟩ (.slice aa' (j + 1) ca')) k a b aa' (j + 1) ca' ps) := fun w2 aa' ca' o ho hg => Rd.next R hlt ho hg
      have R2 : Hid (∀ w' : World, w'.heap = wr.heap → Calls Try.prog 19 #[.pointer (some ⟨ga, 0, none⟩), .int .i64 ((fr : Int) + en - 1 - ps.length + j)] w' (fun e w'' => e = .returned (.tuple #[.int .u64 (ps.getD j 0), .int .i64 0]) ∧ w'' = w')) := fun w' e => by
        have := readS (Stk.heap HKR.out e).own ((fr : Int) + en - 1 - ps.length + j) (fr + (lay L1).length + j) (by have := HEN.out; omega) (by have := HL.out; have := HEN.out; omega)
        rw [hx] at this
        exact this
      have s1 : IntKind.i64.wrap ((fr : Int) + en) = fr + en := IntWalk.i64_in _ (by omega)
      have s2 : IntKind.i64.wrap ((fr : Int) + en - 1) = fr + en - 1 := IntWalk.i64_in _ (by omega)
      have s3 : IntKind.i64.wrap ((fr : Int) + en - 1 - ps.length) = fr + en - 1 - ps.length := IntWalk.i64_in _ (by omega)
      have s4 : IntKind.i64.wrap ((fr : Int) + en - 1 - ps.length + j) = fr + en - 1 - ps.length + j := IntWalk.i64_in _ (by omega)
      have hsz := R.siz
      have hB := R.bel.size
      generalize ps.getD j 0 = y at hx hp NX R2
      clear R hx
      go_wp2_with fail
      go_quiet (first | (go_at_call 19; refine Calls.quiet_of_same (R2.out _ rfl)))
      clear s1 s2 s3 s4
      have O2 : Hid ((wr.drewN nq).ownsRow (w.heap.size + 2) 3 1 (.slice aa j ca) j (ints (ps.take j))) := HRR.out.own
      go_wp2_with (at_builtin; go_loud (refine wpList_append_own _ rfl _ _ 22 rfl (w.heap.size + 2) 3 i0 (.int .i64 0) 1 8 Try.underlying22 hi hz0 hz1 hz2 rfl (by decide) _ _ _ rfl (O2.out.alloc _) ⟨wr.heap.size, 0, none⟩ 1 1 [.int .i64 y] rfl rfl (cell_one_new (wr.drewN nq) (.int .i64 y) 3) (fun x hx => by simp at hx; subst hx; rfl) (by unfold maxLen; omega) (by omega) (by simp; omega) ?_))
      intro v' w2 hown' hgrow _
      obtain ⟨aa', ca', rfl⟩ := shape_of hown'
      obtain ⟨bx, RN⟩ := NX.out w2 aa' ca' _ hown' ⟨hgrow.os, hgrow.tape, hgrow.output, hgrow.size, hgrow.block⟩
      have c42 := Kit.cells4 bx
      have f42 := Kit.frozen_of bx 3
      have HRN := Lib.hid RN
      clear hown' hgrow bx RN c4 cs
      go_wp2_with fail
      go_roundg (ps.length - (j + 1))
      case measure => omega
      case rel => exact ⟨j + 1, ⟨by omega, rfl⟩, by simp, ⟨_, _, HRN.out⟩⟩
    · obtain rfl : j = ps.length := by omega
      have c40 := Kit.cells4 R.res
      have f0 := Kit.frozen_of R.res 0
      have f1 := Kit.frozen_of R.res 1
      have f2 := Kit.frozen_of R.res 2
      have f3 := Kit.frozen_of R.res 3
      clear R
      go_wp2_with fail
      have O := HRR.out.own
      rw [List.take_length] at O
      have O4 := own_set (own_set (own_set (own_set O ⟨w.heap.size, 0, none⟩ (by simp) (.int .i64 k)) ⟨w.heap.size, 1, none⟩ (by simp) (.int .i64 a)) ⟨w.heap.size, 2, none⟩ (by simp) (.int .i64 b)) ⟨w.heap.size, 3, none⟩ (by simp) (.slice aa ps.length ca)
      have B4 := (((HRR.out.bel.setCell (p := ⟨w.heap.size, 0, none⟩) (by simp) (.int .i64 k)).setCell (p := ⟨w.heap.size, 1, none⟩) (by simp) (.int .i64 a)).setCell (p := ⟨w.heap.size, 2, none⟩) (by simp) (.int .i64 b)).setCell (p := ⟨w.heap.size, 3, none⟩) (by simp) (.slice aa ps.length ca)
      have E4 : ((((wr.setCell ⟨w.heap.size, 0, none⟩ (.int .i64 k)).setCell ⟨w.heap.size, 1, none⟩ (.int .i64 a)).setCell ⟨w.heap.size, 2, none⟩ (.int .i64 b)).setCell ⟨w.heap.size, 3, none⟩ (.slice aa ps.length ca)).heap[w.heap.size]? = some (.cells #[.int .i64 k, .int .i64 a, .int .i64 b, .slice aa ps.length ca] 24 (0, 0)) := by
        rw [Kit.set_blk (Kit.set_blk (Kit.set_blk (Kit.set_blk HRR.out.res 0 (.int .i64 k)) 1 (.int .i64 a)) 2 (.int .i64 b)) 3 (.slice aa ps.length ca)]
        rfl
      clear O c40 f0 f1 f2 f3 c4 cs
      generalize (((wr.setCell _ _).setCell _ _).setCell _ _).setCell _ _ = wE at *
      have cE := Kit.cells4 E4
      refine bodyPost_ret (v := .agg #[.int .i64 k, .int .i64 a, .int .i64 b, .slice aa ps.length ca]) (by simp [results, Try.results34, go_sem, cE]) rfl ⟨aa, ca, rfl, O4, B4⟩
end
end Go.Proofs.Ytedkackmccnkfaa.Fa
