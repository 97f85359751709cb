/- What kept tells, ranged over. No condition. -/
import Derived.Test.YtladhenjoipfpaaKp
import Derived.Test.YtladhenjoipfpaaRc
set_option linter.unusedVariables false
set_option linter.unusedSimpArgs false
namespace Go.Proofs.Ytladhenjoipfpaa.K1
open Go.RowKit Go.Shelf
open Pl Rn Rs Ov Tw Kp Rc
attribute [local go_sem] Oper.semAt_some
variable {w w' : World} {B p q : Nat} {va vb : Value} {rs : List (Nat × Nat)}
/-- Two boxes, and in them two rows, all at or beyond B: what kept has laid. -/
structure Two (w : World) (B p q : Nat) (va vb : Value) (rs : List (Nat × Nat)) : Prop where
  one : w.heap[p]? = some (.cells #[va] 43 (0, 0))
  two : w.heap[q]? = some (.cells #[vb] 43 (0, 0))
  fst : w.ownsRow B 3 1 va rs.length (fstV rs)
  snd : w.ownsRow B 3 1 vb rs.length (sndV rs)
  lt : B ≤ p ∧ B ≤ q
theorem Two.keep (h : Two w B p q va vb rs) (m : ∀ k, B ≤ k → k < w.heap.size → w'.heap[k]? = w.heap[k]?) : Two w' B p q va vb rs := by
  have own : ∀ {v : Value} {xs}, w.ownsRow B 3 1 v rs.length xs → w'.ownsRow B 3 1 v rs.length xs := fun {v xs} h => by
    refine ⟨h.1, ?_⟩
    rcases h.2 with h | ⟨g, cap, cur, rfl, hb, hg, rest⟩
    · exact .inl h
    · exact .inr ⟨g, cap, cur, rfl, hb, (m g hb (Kit.lt_of hg)).trans hg, rest⟩
  exact ⟨(m p h.lt.1 (Kit.lt_of h.one)).trans h.one, (m q h.lt.2 (Kit.lt_of h.two)).trans h.two, own h.fst, own h.snd, h.lt⟩
theorem Two.keepB (h : Two w B p q va vb rs) (m : Below w.heap.size w w') : Two w' B p q va vb rs := h.keep fun k _ hk => m.block k hk
theorem Two.other (h : Two w B p q va vb rs) {row : Option Nat} (hg : w.grownBy w' row) (hr : ∀ k, row = some k → ∃ o : Obj, w.heap[k]? = some o ∧ o.isCells = false) : Two w' B p q va vb rs :=
  ⟨blk_other h.one hg hr, blk_other h.two hg hr, own_other h.fst hg hr, own_other h.snd hg hr, h.lt⟩
/-- The boxes and the rows stay. -/
def GK (B p q : Nat) (va vb : Value) (rs : List (Nat × Nat)) (W W' : World) : Prop := Two W B p q va vb rs → Two W' B p q va vb rs
theorem gk_t {B p q : Nat} {va vb : Value} {rs : List (Nat × Nat)} {X Y Z : World} (h : GK B p q va vb rs X Y) (k : GK B p q va vb rs Y Z) : GK B p q va vb rs X Z := fun t => k (h t)
theorem gk_b {B p q : Nat} {va vb : Value} {rs : List (Nat × Nat)} {W : World} {l : Nat} {o : Obj} (o' : Obj) (hl : W.heap[l]? = some o) (ho : o.isCells = false) : GK B p q va vb rs W (W.putObj l o') := fun t =>
  t.other (grownBy_putObj' W l o') (fun k e => by cases e; exact ⟨_, hl, ho⟩)
theorem own_at {w : World} {T : TypeId} {v : Value} {n B : Nat} {xs : List Value} (h : w.ownsRow B T 1 v n xs) (i : Nat) (hi : i < n) : ∃ g cap u, v = .slice (some ⟨g, 0, none⟩) n cap ∧ n ≤ cap ∧ cap ≤ maxLen ∧ xs[i]? = some u ∧ w.cell? ⟨g, i, none⟩ = some u := by
  rcases h.2 with ⟨_, h0⟩ | ⟨g, cap, cur, rfl, _, hg, hc, hm, hs, ht⟩
  · omega
  · have hl := h.1
    have hxi : i < xs.length := by omega
    refine ⟨g, cap, xs[i], rfl, hc, hm, by simp [hxi], ?_⟩
    rw [cell_of_row w g i cur T (0, 0) hg]
    have e : (cur.toList.take (n * 1))[i]? = some xs[i] := by rw [ht]; simp [hxi]
    rw [List.getElem?_take] at e
    split at e
    · simpa using e
    · cases e
set_option maxRecDepth 100000 in
set_option maxHeartbeats 4000000 in
theorem kept1_in (n : Nat) (hn : 1 ≤ n) (l B p q : Nat) (va vb : Value) (N : Nat) (hN : N ≤ 4096) (rs : List (Nat × Nat)) (hrs : rs.length ≤ N) (hru : ∀ r ∈ rs, r.1 + r.2 ≤ N) (J Jx : List (Ru N) → World → Prop)
    (hY : ∀ pre x W, J pre W → pre.length < N → YieldAt Fence.wide (n - 1) Try.prog l (encN x) W fun e W' =>
      (e = .returned (.bool true) ∧ J (pre ++ [x]) W' ∧ GK B p q va vb rs W W') ∨ (e = .returned (.bool false) ∧ Jx (pre ++ [x]) W'))
    (W : World) (hJ : AbidesFrom W.heap.size J) (T : Two W B p q va vb rs) (h0 : J [] W) :
    CallsIn Fence.wide n Try.prog 50 #[.func (.yield l) #[] #[], .pointer (some ⟨p, 0, none⟩), .pointer (some ⟨q, 0, none⟩)] W fun e W' => (∃ v, e = .returned v) ∧
      ((∃ ys : List (Ru N), ys.map (·.1) = rs ∧ J ys W') ∨ (∃ pre : List (Ru N), (∃ post, rs = pre.map (·.1) ++ post) ∧ Jx pre W')) := by
  have HT := Lib.hid T
  have HJ := Lib.hid hJ
  have cp := Kit.cells1 T.one
  have hl : ∃ k c, va = .slice k rs.length c ∧ (rs.length : Int) ≤ 4096 := by
    rcases T.fst.2 with ⟨e, e0⟩ | ⟨g, cap, cur, e, _⟩
    · exact ⟨none, 0, by rw [e, e0], by omega⟩
    · exact ⟨_, _, e, by omega⟩
  obtain ⟨kk, cc, hva, hlen⟩ := hl
  rw [hva] at cp
  have HVA := Lib.hid hva
  clear T hJ
  refine callsIn_of_wp Try.func50 rfl trivial ?_ rfl
  simp only [Try.ntmps50, List.size_toArray, List.length_cons, List.length_nil, Nat.reduceAdd, Nat.reduceSub, Array.replicate_succ, Array.replicate_zero, List.push_toArray, List.append_toArray, List.nil_append, List.cons_append]
  gi_wp2
  gi_loopw [7] (fun i wr => ∃ k : Nat, k ≤ rs.length ∧ i = .int .i64 k ∧ Hid ((∃ pre : List (Ru N), pre.map (·.1) = rs.take k ∧ J pre wr) ∧ Two wr B p q va vb rs))
    (fun i _ => rs.length - (intOf i).toNat)
  case atStart => exact ⟨0, Nat.zero_le _, rfl, ⟨[], rfl, h0⟩, HT.out⟩
  case round =>
    obtain ⟨k, hk, rfl, H⟩ := hrel
    obtain ⟨⟨pre, hpre, hJp⟩, bel⟩ := H.out
    by_cases hlt : k < rs.length
    · have d1 : decide ((k : Int) < (rs.length : Int)) = true := decide_eq_true (by omega)
      obtain ⟨r, hr⟩ : ∃ r, rs[k]? = some r := ⟨rs[k], by simp [hlt]⟩
      have hrm : r.1 + r.2 ≤ N := hru r (List.mem_of_getElem? hr)
      have TW := bel
      obtain ⟨g, cap, u, hva', hc1, hc2, hu, hcell⟩ := own_at TW.fst k hlt
      obtain ⟨g', cap', u', hvb', hd1, hd2, hu', hcell'⟩ := own_at TW.snd k hlt
      have eu : u = .int .i64 (r.1 : Int) := by simp [fstV, hr] at hu; exact hu.symm
      have eu' : u' = .int .i64 (r.2 : Int) := by simp [sndV, hr] at hu'; exact hu'.symm
      subst eu eu'
      have cpp := Kit.cells1 TW.one
      have cqq := Kit.cells1 TW.two
      rw [hva'] at cpp
      rw [hvb'] at cqq
      have hva2 := HVA.out
      rw [hva'] at hva2
      cases hva2
      have J1 : J pre { wr with drawn := wr.drawn + 1 } := HJ.out _ _ _ none hJp (grown_drewN wr 1) (fun r e => by cases e)
      have pl : pre.length < N := by
        have := congrArg List.length hpre
        simp at this; omega
      obtain ⟨fn, tmps, assign, body, hy, hR⟩ := hY pre ⟨r, hrm⟩ _ J1 pl
      dsimp only [encN] at hy
      have HR := Lib.hid hR
      have HB := Lib.hid bel
      have HPR := Lib.hid hpre
      have HRK := Lib.hid hr
      clear hR bel hpre hr hJp J1 TW hu hu' hvb' hva' hY HJ
      gi_wp2
      refine wpIn_reads_call (m := 9) (A := fun v => { tmps := #[.func (.yield l) #[] #[], .pointer (some ⟨p, 0, none⟩), .pointer (some ⟨q, 0, none⟩), undef, .int .i64 k, .slice (some ⟨g, 0, none⟩) rs.length cc, .int .i64 rs.length, .int .i64 k, .bool true, .int .i64 k, v 0, v 1, v 2, v 3, v 4, v 5, v 6, v 7, v 8, v 9, v 10, u21], defers := [] })
        (val := fun j => [.func (.yield l) #[] #[], .slice (some ⟨g, 0, none⟩) rs.length cc, .int .i64 k, .pointer (some ⟨g, k, none⟩), .int .i64 (r.1 : Int), .slice (some ⟨g', 0, none⟩) rs.length cap', .int .i64 k, .pointer (some ⟨g', k, none⟩), .int .i64 (r.2 : Int)].getD j undef)
        rfl ?ord (by kernel_rfl) (fun j => [u10, u11, u12, u13, u14, u15, u16, u17, u18, u19, u20].getD j undef) ?reads ?far
        (fun x W' => (x = .bool true ∧ J (pre ++ [⟨r, hrm⟩]) W' ∧ GK B p q va vb rs wr W') ∨ (x = .bool false ∧ Jx (pre ++ [⟨r, hrm⟩]) W'))
        (fun x => match x with | .bool b => .bool (!b) | _ => undef) ?call ?last ?dep ?lm ?K
      case ord =>
        intro j o ho e he
        rcases j with _ | _ | _ | _ | _ | _ | _ | _ | _ | _ | _ | j
        all_goals (first | (cases ho; simp at he; done) | (cases ho; simp at he; rcases he with rfl; decide) | (cases ho; simp at he; rcases he with rfl | rfl <;> decide) | (cases ho; simp at he; rcases he with rfl | rfl | rfl <;> decide) | (cases ho; simp at he; rcases he with rfl | rfl | rfl | rfl <;> decide) | (simp at ho))
      case reads =>
        intro j hj
        rcases j with _ | _ | _ | _ | _ | _ | _ | _ | _ | j
        all_goals (first | omega | refine ⟨_, rfl, rfl, by simp, fun v => by simp [Oper.about], fun _ _ => rfl, fun v h => ?_⟩)
        all_goals simp [binds_data] at h
        · exact move_V rfl rfl
        · exact load_S rfl rfl cpp
        · exact move_V rfl rfl
        · exact index_S rfl h.1 h.2 hlt (by omega)
        · exact load_I rfl h hcell
        · exact load_S rfl rfl cqq
        · exact move_V rfl rfl
        · exact index_S rfl h.1 h.2 hlt (by omega)
        · exact load_I rfl h hcell'
      case far =>
        intro L hL hC hm
        obtain ⟨_, o, ho, hall⟩ := mem_ready.1 hm
        cases ho
        have a0 := hall ⟨0, .data⟩ (by simp) rfl
        have a4 := hall ⟨4, .data⟩ (by simp) rfl
        have a8 := hall ⟨8, .data⟩ (by simp) rfl
        have a3 := hC 4 _ rfl a4 ⟨3, .data⟩ (by simp) rfl
        have a7 := hC 8 _ rfl a8 ⟨7, .data⟩ (by simp) rfl
        have a1 := hC 3 _ rfl a3 ⟨1, .data⟩ (by simp) rfl
        have a2 := hC 3 _ rfl a3 ⟨2, .data⟩ (by simp) rfl
        have a5 := hC 7 _ rfl a7 ⟨5, .data⟩ (by simp) rfl
        have a6 := hC 7 _ rfl a7 ⟨6, .data⟩ (by simp) rfl
        intro j hj
        rcases j with _ | _ | _ | _ | _ | _ | _ | _ | _ | j
        all_goals (first | assumption | omega)
      case call =>
        intro v K hv hK
        have e0 : v 0 = .func (.yield l) #[] #[] := hv 0 (by omega)
        have e4 : v 4 = .int .i64 (r.1 : Int) := hv 4 (by omega)
        have e8 : v 8 = .int .i64 (r.2 : Int) := hv 8 (by omega)
        refine wpOpIn_step rfl (fun K' hK' => ?_)
        try dsimp only
        rw [e0, e4, e8]
        go_simp
        have hy' : (Instr.yield l #[Value.int IntKind.i64 (r.1 : Int), Value.int IntKind.i64 (r.2 : Int)]).run Try.prog wr.drew = Result.ok (Next.round l fn tmps assign body) wr.drew := hy
        rw [hy']
        refine ⟨fun _ => hn, HR.out.mono ?_⟩
        rintro e W3 (⟨rfl, hJ3, hk3⟩ | ⟨rfl, hJ3⟩)
        · have h2 := hK' _ _ (hK (.bool true) W3 (.inl ⟨rfl, hJ3, fun t => hk3 (t.other (grown_drewN wr 1) (fun k e => by cases e))⟩))
          simpa [upd, hv, Act.put] using h2
        · have h2 := hK' _ _ (hK (.bool false) W3 (.inr ⟨rfl, hJ3⟩))
          simpa [upd, hv, Act.put] using h2
      case last =>
        refine ⟨_, rfl, rfl, by simp, fun v w' => by simp [Oper.about], fun _ _ => rfl, fun v w' h => ?_⟩
        rcases h with ⟨h, _⟩ | ⟨h, _⟩
        · refine (not_B (b := true) rfl h).trans ?_
          rw [h]
        · refine (not_B (b := false) rfl h).trans ?_
          rw [h]
      case dep =>
        intro L hm
        obtain ⟨_, o, ho, hall⟩ := mem_ready.1 hm
        cases ho
        exact hall ⟨9, .data⟩ (by simp) rfl
      case lm => exact fun L hC h => hC 10 _ rfl h ⟨9, .data⟩ (by simp) rfl
      case K =>
        intro v w' hR hl
        try dsimp only
        rcases hR with ⟨h, hJ3, hk3⟩ | ⟨h, hJ3⟩
        · rw [h] at hl
          try dsimp only at hl
          rw [hl]
          have HK3 := Lib.hid (hk3 HB.out)
          have HJ3 := Lib.hid hJ3
          clear hk3 hJ3
          gi_wp2
          go_roundw
          case rel => exact ⟨k + 1, by omega, by simp, ⟨pre ++ [⟨r, hrm⟩], by rw [List.take_add_one, HRK.out]; simp [HPR.out], HJ3.out⟩, HK3.out⟩
          case measure => simp [intOf]; omega
        · rw [h] at hl
          try dsimp only at hl
          rw [hl]
          have HJ4 := Lib.hid hJ3
          clear hJ3
          gi_wp2
          refine bodyPost_ret (results_none rfl _ _ _) rfl ?_
          exact ⟨⟨_, rfl⟩, .inr ⟨pre ++ [⟨r, hrm⟩], ⟨rs.drop (k + 1), by
            have e : pre.map (·.1) ++ [r] = rs.take (k + 1) := by rw [List.take_add_one, HRK.out]; simp [HPR.out]
            simp only [List.map_append, List.map_cons, List.map_nil]
            rw [e, List.take_append_drop]⟩, HJ4.out⟩⟩
    · obtain rfl : k = rs.length := by omega
      have hend : pre.map (·.1) = rs := by rw [hpre]; simp
      gi_wp2
      go_end0
      exact ⟨⟨_, rfl⟩, .inl ⟨_, hend, hJp⟩⟩
theorem kept1_stops (n : Nat) (hn : 1 ≤ n) (B p q : Nat) (va vb : Value) (N : Nat) (hN : N ≤ 4096) (rs : List (Nat × Nat)) (hrs : rs.length ≤ N) (hru : ∀ r ∈ rs, r.1 + r.2 ≤ N) (w : World) (T : Two w B p q va vb rs) :
    SeqStopsK Fence.wide n Try.prog 50 #[.pointer (some ⟨p, 0, none⟩), .pointer (some ⟨q, 0, none⟩)] (encN (N := N)) (GK B p q va vb rs) (fun ys => ys.map (·.1) = rs) (fun pre => ∃ post, rs = pre.map (·.1) ++ post) N w := fun l J Jx W hW hJ hJx hY h0 => by
  refine (kept1_in n hn l B p q va vb N hN rs hrs hru J Jx hY W hJ (T.keepB hW) h0).mono ?_
  rintro e W' h
  exact h
end Go.Proofs.Ytladhenjoipfpaa.K1
