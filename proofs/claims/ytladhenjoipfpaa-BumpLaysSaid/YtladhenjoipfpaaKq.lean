/- What kept tells, told to pairs. No condition. -/
import Derived.Test.YtladhenjoipfpaaPr
set_option linter.unusedVariables false
set_option linter.unusedSimpArgs false
namespace Go.Proofs.Ytladhenjoipfpaa.Kq
open Go.RowKit Go.Shelf
open Pl Rn Rs Ov Tw Kp Rc K1 Lf Pr
attribute [local go_sem] Oper.semAt_some
variable {w w' : World} {B p q : Nat} {va vb : Value} {rs : List (Nat × Nat)}
/-- What is told on the way. -/
structure Way (w0 W wr : World) (B p q : Nat) (va vb : Value) (rs : List (Nat × Nat)) (B2 p2 q2 k : Nat) : Prop where
  two : Two wr B p q va vb rs
  bel : Below w0.heap.size w0 wr
  fr : Fr B2 p2 q2 W wr
  gr : ∃ v2 u2, Gr wr B2 p2 q2 v2 u2 (rs.take k)
theorem fr_trans {B r1 r2 : Nat} {a b c : World} (h : Fr B r1 r2 a b) (k : Fr B r1 r2 b c) : Fr B r1 r2 a c :=
  ⟨k.os.trans h.os, k.tape.trans h.tape, k.output.trans h.output, Nat.le_trans h.size k.size, fun i a b c => (k.block i a b c).trans (h.block i a b c), h.others.trans k.others⟩
theorem Way.step {w0 W wr w' : World} {B p q : Nat} {va vb : Value} {rs : List (Nat × Nat)} {B2 p2 q2 k : Nat} (T0 : Two w0 B p q va vb rs) (h : Way w0 W wr B p q va vb rs B2 p2 q2 k) (hlo : w0.heap.size ≤ p2 ∧ w0.heap.size ≤ q2) (f : Fr B2 p2 q2 wr w') (r : Nat × Nat) (hr : rs[k]? = some r) (g : ∃ v2 u2, Gr w' B2 p2 q2 v2 u2 (rs.take k ++ [r])) : Way w0 W w' B p q va vb rs B2 p2 q2 (k + 1) := by
  obtain ⟨v2, u2, G⟩ := h.gr
  have lt := G.lt
  have bb : Below w0.heap.size w0 w' := h.bel.trans ⟨f.os, f.tape, f.output, f.size, fun i hi => f.block i (by omega) (by omega) (by omega)⟩
  refine ⟨T0.keepB bb, bb, fr_trans h.fr f, ?_⟩
  rw [List.take_add_one, hr]
  exact g
set_option maxRecDepth 100000 in
set_option maxHeartbeats 4000000 in
theorem kept1_pairs (w0 W : World) (B p q : Nat) (va vb : Value) (rs : List (Nat × Nat)) (hrs : rs.length ≤ 4096) (T0 : Two w0 B p q va vb rs) (hB0 : Below w0.heap.size w0 W) (B2 p2 q2 : Nat) (hlo : w0.heap.size ≤ p2 ∧ w0.heap.size ≤ q2) (h0 : ∃ v2 u2, Gr W B2 p2 q2 v2 u2 []) :
    Calls Try.prog 50 #[.func (.func 31) #[] #[.pointer (some ⟨p2, 0, none⟩), .pointer (some ⟨q2, 0, none⟩)], .pointer (some ⟨p, 0, none⟩), .pointer (some ⟨q, 0, none⟩)] W fun e W' => (∃ v, e = .returned v) ∧ Below w0.heap.size w0 W' ∧ Fr B2 p2 q2 W W' ∧ ∃ v2 u2, Gr W' B2 p2 q2 v2 u2 rs := by
  have HT0 := Lib.hid T0
  have T := T0.keepB hB0
  have cp := Kit.cells1 T.one
  have hl : ∃ k c, va = .slice k rs.length c ∧ (rs.length : Int) ≤ 4096 := by
    rcases T.fst.2 with ⟨e, e0⟩ | ⟨g, cap, cur, e, _⟩
    · exact ⟨none, 0, by rw [e, e0], by omega⟩
    · exact ⟨_, _, e, by omega⟩
  obtain ⟨kk, cc, hva, hlen⟩ := hl
  rw [hva] at cp
  have HVA := Lib.hid hva
  have HW0 : Hid (Way w0 W W B p q va vb rs B2 p2 q2 0) := ⟨T, hB0, ⟨rfl, rfl, rfl, Nat.le_refl _, fun _ _ _ _ => rfl, KeepsOthers.refl _⟩, h0⟩
  clear T hB0 h0 T0
  refine (callsIn_wide (n := 6)).1 ?_
  refine callsIn_of_wp Try.func50 rfl trivial ?_ rfl
  simp only [Try.ntmps50, List.size_toArray, List.length_cons, List.length_nil, Nat.reduceAdd, Nat.reduceSub, Array.replicate_succ, Array.replicate_zero, List.push_toArray, List.append_toArray, List.nil_append, List.cons_append]
  gi_wp2
  gi_loopw [7] (fun i wr => ∃ k : Nat, k ≤ rs.length ∧ i = .int .i64 k ∧ Hid (Way w0 W wr B p q va vb rs B2 p2 q2 k))
    (fun i _ => rs.length - (intOf i).toNat)
  case atStart => exact ⟨0, Nat.zero_le _, rfl, HW0⟩
  case round =>
    obtain ⟨k, hk, rfl, H⟩ := hrel
    have bel := H.out.two
    by_cases hlt : k < rs.length
    · have d1 : decide ((k : Int) < (rs.length : Int)) = true := decide_eq_true (by omega)
      obtain ⟨r, hr⟩ : ∃ r, rs[k]? = some r := ⟨rs[k], by simp [hlt]⟩
      have TW := bel
      obtain ⟨g, cap, u, hva', hc1, hc2, hu, hcell⟩ := own_at TW.fst k hlt
      obtain ⟨g', cap', u', hvb', hd1, hd2, hu', hcell'⟩ := own_at TW.snd k hlt
      have eu : u = .int .i64 (r.1 : Int) := by simp [fstV, hr] at hu; exact hu.symm
      have eu' : u' = .int .i64 (r.2 : Int) := by simp [sndV, hr] at hu'; exact hu'.symm
      subst eu eu'
      have cpp := Kit.cells1 TW.one
      have cqq := Kit.cells1 TW.two
      rw [hva'] at cpp
      rw [hvb'] at cqq
      have hva2 := HVA.out
      rw [hva'] at hva2
      cases hva2
      obtain ⟨v2, u2, G2⟩ := H.out.gr
      have G3 : Gr { wr with drawn := wr.drawn + 1 } B2 p2 q2 v2 u2 (rs.take k) := ⟨G2.one, G2.two, G2.fst, G2.snd, G2.far, G2.lt⟩
      have PC := Lib.hid (pairs1_it _ B2 p2 q2 v2 u2 (rs.take k) r.1 r.2 G3 (by simp; omega))
      have HRK := Lib.hid hr
      clear bel hr TW hu hu' hvb' hva' G2 G3
      gi_wp2
      refine wpIn_reads_call (m := 9) (A := fun v => { tmps := #[.func (.func 31) #[] #[.pointer (some ⟨p2, 0, none⟩), .pointer (some ⟨q2, 0, none⟩)], .pointer (some ⟨p, 0, none⟩), .pointer (some ⟨q, 0, none⟩), undef, .int .i64 k, .slice (some ⟨g, 0, none⟩) rs.length cc, .int .i64 rs.length, .int .i64 k, .bool true, .int .i64 k, v 0, v 1, v 2, v 3, v 4, v 5, v 6, v 7, v 8, v 9, v 10, u21], defers := [] })
        (val := fun j => [.func (.func 31) #[] #[.pointer (some ⟨p2, 0, none⟩), .pointer (some ⟨q2, 0, none⟩)], .slice (some ⟨g, 0, none⟩) rs.length cc, .int .i64 k, .pointer (some ⟨g, k, none⟩), .int .i64 (r.1 : Int), .slice (some ⟨g', 0, none⟩) rs.length cap', .int .i64 k, .pointer (some ⟨g', k, none⟩), .int .i64 (r.2 : Int)].getD j undef)
        rfl ?ord (by kernel_rfl) (fun j => [u10, u11, u12, u13, u14, u15, u16, u17, u18, u19, u20].getD j undef) ?reads ?far
        (fun x W' => x = .bool true ∧ Way w0 W W' B p q va vb rs B2 p2 q2 (k + 1))
        (fun x => match x with | .bool b => .bool (!b) | _ => undef) ?call ?last ?dep ?lm ?K
      case ord =>
        intro j o ho e he
        rcases j with _ | _ | _ | _ | _ | _ | _ | _ | _ | _ | _ | j
        all_goals (first | (cases ho; simp at he; done) | (cases ho; simp at he; rcases he with rfl; decide) | (cases ho; simp at he; rcases he with rfl | rfl <;> decide) | (cases ho; simp at he; rcases he with rfl | rfl | rfl <;> decide) | (cases ho; simp at he; rcases he with rfl | rfl | rfl | rfl <;> decide) | (simp at ho))
      case reads =>
        intro j hj
        rcases j with _ | _ | _ | _ | _ | _ | _ | _ | _ | j
        all_goals (first | omega | refine ⟨_, rfl, rfl, by simp, fun v => by simp [Oper.about], fun _ _ => rfl, fun v h => ?_⟩)
        all_goals simp [binds_data] at h
        · exact move_V rfl rfl
        · exact load_S rfl rfl cpp
        · exact move_V rfl rfl
        · exact index_S rfl h.1 h.2 hlt (by omega)
        · exact load_I rfl h hcell
        · exact load_S rfl rfl cqq
        · exact move_V rfl rfl
        · exact index_S rfl h.1 h.2 hlt (by omega)
        · exact load_I rfl h hcell'
      case far =>
        intro L hL hC hm
        obtain ⟨_, o, ho, hall⟩ := mem_ready.1 hm
        cases ho
        have a0 := hall ⟨0, .data⟩ (by simp) rfl
        have a4 := hall ⟨4, .data⟩ (by simp) rfl
        have a8 := hall ⟨8, .data⟩ (by simp) rfl
        have a3 := hC 4 _ rfl a4 ⟨3, .data⟩ (by simp) rfl
        have a7 := hC 8 _ rfl a8 ⟨7, .data⟩ (by simp) rfl
        have a1 := hC 3 _ rfl a3 ⟨1, .data⟩ (by simp) rfl
        have a2 := hC 3 _ rfl a3 ⟨2, .data⟩ (by simp) rfl
        have a5 := hC 7 _ rfl a7 ⟨5, .data⟩ (by simp) rfl
        have a6 := hC 7 _ rfl a7 ⟨6, .data⟩ (by simp) rfl
        intro j hj
        rcases j with _ | _ | _ | _ | _ | _ | _ | _ | _ | j
        all_goals (first | assumption | omega)
      case call =>
        intro v K hv hK
        have e0 : v 0 = .func (.func 31) #[] #[.pointer (some ⟨p2, 0, none⟩), .pointer (some ⟨q2, 0, none⟩)] := hv 0 (by omega)
        have e4 : v 4 = .int .i64 (r.1 : Int) := hv 4 (by omega)
        have e8 : v 8 = .int .i64 (r.2 : Int) := hv 8 (by omega)
        refine wpOpIn_step rfl (fun K' hK' => ?_)
        try dsimp only
        rw [e0, e4, e8]
        go_simp
        refine ⟨trivial, (callsIn_wide.2 PC.out).mono ?_⟩
        rintro e W3 ⟨rfl, f3, g3⟩
        have W4 : Way w0 W W3 B p q va vb rs B2 p2 q2 (k + 1) := H.out.step HT0.out hlo ⟨f3.os, f3.tape, f3.output, f3.size, f3.block, ⟨f3.others.size, f3.others.same⟩⟩ r HRK.out g3
        have h2 := hK' _ _ (hK (.bool true) W3 ⟨rfl, W4⟩)
        simpa [upd, hv, Act.put] using h2
      case last =>
        refine ⟨_, rfl, rfl, by simp, fun v w' => by simp [Oper.about], fun _ _ => rfl, fun v w' h => ?_⟩
        obtain ⟨h, _⟩ := h
        refine (not_B (b := true) rfl h).trans ?_
        rw [h]
      case dep =>
        intro L hm
        obtain ⟨_, o, ho, hall⟩ := mem_ready.1 hm
        cases ho
        exact hall ⟨9, .data⟩ (by simp) rfl
      case lm => exact fun L hC h => hC 10 _ rfl h ⟨9, .data⟩ (by simp) rfl
      case K =>
        intro v w' hR hl
        try dsimp only
        obtain ⟨h, hW⟩ := hR
        rw [h] at hl
        try dsimp only at hl
        rw [hl]
        have HW5 := Lib.hid hW
        clear hW
        gi_wp2
        go_roundw
        case rel => exact ⟨k + 1, by omega, by simp, HW5⟩
        case measure => simp [intOf]; omega
    · obtain rfl : k = rs.length := by omega
      gi_wp2
      go_end0
      obtain ⟨v2, u2, G2⟩ := H.out.gr
      exact ⟨⟨_, rfl⟩, H.out.bel, H.out.fr, v2, u2, by simpa using G2⟩
end Go.Proofs.Ytladhenjoipfpaa.Kq
