/- What is told is one's own: the law RememberOwn. No condition. -/
import Derived.Test.YtobplcehaeejoaaLq
import Derived.Test.YtobplcehaeejoaaAg
set_option linter.unusedVariables false
set_option linter.unusedSimpArgs false
namespace Go.Proofs.Ytobplcehaeejoaa.LawOwn
open Go.RowKit Se Mq Sm Ls Nx Lw Ln Lm Lq
/-- A copy of a slice of numbers, appended to an empty one. -/
theorem copied (w : World) (base p : Option Addr) (cap : Nat) (xs : List Int) (S : Sl w p xs) (hl : xs.length ≤ 1048576) (hb : ∃ q, base = some ⟨q, 0, none⟩) :
    ∃ v' w', (Builtin.append_ #[22, 22] 22 #[.slice base 0 0, .slice p xs.length cap]).run Try.prog w = .ok v' w' ∧ (∃ p' c', v' = .slice p' xs.length c' ∧ Sl w' p' xs ∧ (0 < xs.length → p' = some ⟨w.heap.size, 0, none⟩)) ∧ Below w.heap.size w w' := by
  obtain ⟨i0, hi, hz0, hz1, hz2⟩ := info_parts infoI
  by_cases h0 : 0 < xs.length
  · obtain ⟨b, off, rfl, hbb, hc⟩ := S.cells h0
    have hsrc : Src Try.prog i0.size 22 (.slice (some ⟨b, off, none⟩) xs.length cap) xs.length (ints xs) w := by
      rw [hz1]
      exact Src.ofSlice w Try.underlying22 ⟨b, off, none⟩ xs.length cap (ints xs) (by simp [ints]) (fun j u hj => by
        rw [Addr.add_lit]
        have hlt : j < xs.length := by have := (List.getElem?_eq_some_iff.1 hj).1; simpa [ints] using this
        rw [ints_get xs j hlt] at hj
        cases hj
        exact hc j hlt) (ints_one xs)
    have hl0 : ∀ (x : Addr), (loadCells x 0).run Try.prog w.drew = .ok #[] w.drew := fun x => by simpa using run_loadCells_list (P := Try.prog) w.drew x [] (by simp)
    have := run_append_grow_src (P := Try.prog) w 22 22 22 3 i0 (.int .i64 0) Try.underlying22 hi hz0 base 0 0 [] (by cases base <;> simp [Builtin.firstCells, hl0]) _ xs.length _ hsrc (by omega) (by omega) (by
      rw [Nat.zero_add, nextslicecap_zero h0, hz2]; omega)
    rw [Nat.zero_add] at this
    refine ⟨_, _, this, ⟨_, _, rfl, ⟨fun _ => ⟨w.heap.size, 0, rfl, by simp, fun i hi => ?_⟩⟩, fun _ => rfl⟩, Kit.allocB (Kit.drawB (Below.refl _ _) 1) _⟩
    refine (Kit.cell_of (Kit.new_blk w.drew _) (0 + i)).trans ?_
    rw [List.nil_append, Nat.zero_add, Array.getElem?_append_left (by simp [ints]; omega)]
    have := ints_get xs i hi
    simpa using this
  · have e : xs = [] := List.eq_nil_of_length_eq_zero (by omega)
    subst e
    obtain ⟨q, rfl⟩ := hb
    refine ⟨.slice (some ⟨q, 0, none⟩) 0 0, w, ?_, ⟨_, _, rfl, ⟨fun h => absurd h (by simp)⟩, fun h => absurd h (by simp)⟩, Below.refl _ _⟩
    have hl0 : ∀ (x : Addr), (loadCells x 0).run Try.prog w = .ok #[] w := fun x => by simpa using run_loadCells_list (P := Try.prog) w x [] (by simp)
    rcases p with _ | p
    · exact run_append_room_src w 22 22 22 3 i0 Try.underlying22 hi q 0 0 0 (.slice none 0 cap) 0 [] (Src.ofNil w Try.underlying22 cap) (by omega) (fun j hj => by simp at hj) (fun j hj => by simp at hj)
    · exact run_append_room_src w 22 22 22 3 i0 Try.underlying22 hi q 0 0 0 (.slice (some p) 0 cap) 0 [] (by rw [hz1]; exact Src.ofSlice w Try.underlying22 p 0 cap [] (by simp) (fun j u hj => by simp at hj) (by simp)) (by omega) (fun j hj => by simp at hj) (fun j hj => by simp at hj)
theorem sl_keepP {w w' : World} {p : Option Addr} {ps : List Int} {K : Nat → Prop} (h : Sl w p ps) (m : ModP K w w') (hp : 0 < ps.length → ∀ q o, p = some ⟨q, o, none⟩ → ¬ K q) : Sl w' p ps :=
  ⟨fun h0 => by
    obtain ⟨b, off, e, hb, hc⟩ := h.cells h0
    exact ⟨b, off, e, Nat.lt_of_lt_of_le hb m.size, fun i hi => (World.cell?_of_block (w := w) (a := ⟨b, off + i, none⟩) (m.block b hb (hp h0 b off e))).trans (hc i hi)⟩⟩
/-- On the way of the first loop. -/
def Go1 (W w : World) (s r : Nat) (b : Nat → Nat) (n : Nat) : Prop := ∃ M, St W w s r 1 b n M
/-- On the way of the second: what was told is being overwritten. -/
structure Go2 (W w : World) (s r : Nat) (b : Nat → Nat) (n : Nat) (M : Nat → List Int) (va : Option Addr) (vc : Nat) (pw : Option Addr) : Prop where
  st : St W w s r 1 b n M
  was : Sl w pw (M 0)
  at' : 0 < (M 0).length → ∃ q cur, va = some ⟨q, 0, none⟩ ∧ w.heap[q]? = some (.cells cur 3 (0, 0)) ∧ (M 0).length ≤ cur.size ∧ W.heap.size ≤ q ∧ ¬ Own s r 1 b q ∧ ∀ q' o, pw = some ⟨q', o, none⟩ → q' ≠ q
  out : 0 < (M 0).length → ∀ q' o, pw = some ⟨q', o, none⟩ → ¬ Own s r 1 b q'
theorem Go2.put {W w : World} {s r : Nat} {b : Nat → Nat} {n : Nat} {M : Nat → List Int} {va : Option Addr} {vc : Nat} {pw : Option Addr} (h : Go2 W w s r b n M va vc pw) (i : Nat) (hi : i < (M 0).length) (u : Value) : ∃ q, va = some ⟨q, 0, none⟩ ∧ (∃ x, w.cell? ⟨q, i, none⟩ = some x) ∧ w.frozen? ⟨q, i, none⟩ = false ∧ Go2 W (w.setCell ⟨q, i, none⟩ u) s r b n M va vc pw := by
  obtain ⟨q, cur, rfl, hq, hl, hW, ho, hp⟩ := h.at' (by omega)
  have m : ModP (fun k => k = q) w (w.setCell ⟨q, i, none⟩ u) := (ModP.refl (fun k => k = q) w).setCell (p := ⟨q, i, none⟩) (.inl rfl) u
  refine ⟨q, rfl, ⟨cur[i]'(by omega), (Kit.cell_of hq i).trans (by simp [show i < cur.size by omega])⟩, Kit.frozen_of hq i, ⟨h.st.keepP m (fun k hk e => ho (e ▸ hk)) (fun k e => by subst e; exact hW), ⟨fun h0 => ?_⟩, fun _ => ⟨q, _, rfl, Kit.set_blk hq i u, by simpa using hl, hW, ho, hp⟩, h.out⟩⟩
  obtain ⟨b', off, e, hb', hc⟩ := h.was.cells h0
  refine ⟨b', off, e, by simpa [World.setCell] using hb', fun j hj => ?_⟩
  exact (World.cell?_of_block (w := w) (a := ⟨b', off + j, none⟩) (m.block b' hb' (hp b' off e))).trans (hc j hj)
set_option maxHeartbeats 4000000 in
set_option maxRecDepth 100000 in
theorem law (W : World) (A : Option Addr) (len cap : Nat) (zs : List Int) (R : Ag.Nums W A len .i64 zs) :
    Calls Try.prog 4 #[.slice A len cap] W fun e w => e = .returned (.bool true) ∧ Below W.heap.size W w := by
  have NI := Lib.hid (St.new (W := W) (g := 1) (by omega) (by omega) (Below.refl W.heap.size W))
  have AW := Lib.hid awake_it
  have HR := Lib.hid R
  have hmax := R.max
  clear R
  go_enter Try.func4, Try.ntmps4
  go_wp2_with fail
  refine NI.out.mono ?_
  rintro e w1 ⟨s, r, b, rfl, S, _, _⟩
  have HS := Lib.hid S
  clear S NI
  go_wp2_with fail
  refine (AW.out _).mono ?_
  rintro e w2 ⟨rfl, b2⟩
  have HA := Lib.hid (show Go1 W w2 s r b 0 from ⟨_, HS.out.below b2⟩)
  clear b2 AW HS
  go_wp2_with fail
  go_loopg [5] 200 (fun k c wr => ∃ i : Nat, (i ≤ len ∧ i ≤ 200 ∧ k = 200 - i) ∧ c = .int .i64 i ∧ Hid (Go1 W wr s r b i))
  case atStart => exact ⟨0, by omega, rfl, HA⟩
  case round =>
    obtain ⟨i, ⟨hi, hi2, rfl⟩, rfl, H⟩ := hrel
    obtain ⟨M, S⟩ := H.out
    by_cases hlt : i < len ∧ i < 200
    · obtain ⟨l1, l2⟩ := hlt
      obtain ⟨bb, off, rfl, hbb, hc⟩ := HR.out.cells (by omega)
      have c1 : wr.cell? ⟨bb, off + i, none⟩ = some (.int .i64 (zs.getD i 0)) := (S.bel.cell (p := ⟨bb, off + i, none⟩) hbb).trans (hc i l1)
      generalize zs.getD i 0 = x at *
      have PI := Lib.hid (S.put (by omega) 0 x)
      clear S H hc HA
      go_wp2_with fail
      refine PI.out.mono ?_
      rintro e w3 ⟨rfl, S3, _⟩
      have H3 := Lib.hid (show Go1 W w3 s r b (i + 1) from ⟨_, S3⟩)
      clear S3 PI c1
      go_wp2_with fail
      go_roundg (200 - (i + 1))
      case measure => omega
      case rel => exact ⟨i + 1, ⟨by omega, by omega, rfl⟩, by simp, H3⟩
    · have AI := Lib.hid (S.all (by omega) 0)
      have HS := Lib.hid S
      clear S H HA
      rcases (show (i < len ∧ i = 200) ∨ i = len by omega) with ⟨l1, rfl⟩ | rfl
      all_goals
        clear hlt
        go_wp2_with fail
        refine AI.out.mono ?_
        rintro e w3 ⟨v, rfl, o3, b3⟩
        have e0 : allF 1 M 0 = M 0 := by simp [allF]
        rw [e0] at o3
        have hlen := (HS.out.lv.set 0 (by omega)).size_le
        obtain ⟨va, vc, rfl, T3, hva⟩ := Sl.of o3 rfl
        have ba := Kit.allocB (Below.refl w3.heap.size w3) (.cells #[] 3)
        obtain ⟨v4, w4, hr, ⟨pw, pc, rfl, T4, hpw⟩, b4⟩ := copied (w3.alloc (.cells #[] 3)) (some ⟨w3.heap.size, 0, none⟩) va vc (M 0) (T3.keepB ba) (by omega) ⟨_, rfl⟩
        have sz3 : (w3.alloc (.cells #[] 3)).heap.size = w3.heap.size + 1 := by simp
        have b34 : Below w3.heap.size w3 w4 := Kit.stepB ba (by rw [sz3] at b4 ⊢; exact b4)
        have G0 := Lib.hid (show Go2 W w4 s r b _ M va vc pw from ⟨(HS.out.below b3).below b34, T4, fun h0 => by
          obtain ⟨q, cp, ev, hq, hql⟩ := own_addr o3 h0
          obtain ⟨rfl⟩ : va = some ⟨q, 0, none⟩ := by simpa using (Value.slice.inj ev).1
          rcases o3.2 with ⟨_, hz⟩ | ⟨q', cap', cur, ev', hb', hq', h1, h2, h3, _⟩
          · omega
          · simp only [Value.slice.injEq, Option.some.injEq, Addr.mk.injEq] at ev'
            obtain ⟨⟨rfl, _⟩, _, rfl⟩ := ev'
            refine ⟨q, cur, rfl, Kit.keepB hq' b34, by omega, Nat.le_trans HS.out.bel.size hb', fun ho => by have := HS.out.lv.lt q ho; omega, fun q2 o2 e2 => ?_⟩
            rw [hpw h0] at e2
            cases e2
            rw [sz3]
            omega, fun h0 q2 o2 e2 ho => by
          have := HS.out.lv.lt q2 ho
          have hz3 := b3.size
          rw [hpw h0] at e2
          cases e2
          rw [sz3] at this
          omega⟩)
        have R1 := Lib.hid hr
        obtain ⟨N, hN⟩ : ∃ N, N = (M 0).length := ⟨_, rfl⟩
        rw [← hN] at R1 hlen
        have HN := Lib.hid hN
        clear o3 T3 T4 ba b34 b4 b3 hr AI HS hva hpw e0 sz3
        rw [← hN]
        clear hN
        go_wp2_with (at_builtin; refine Rw.wp_append rfl (.tmp 41) (.tmp 42) 22 _ _ _ rfl rfl rfl R1.out ?_)
        have G1 := Lib.hid (show ∃ n, n ≤ 200 ∧ Go2 W w4 s r b n M va vc pw from ⟨_, by omega, G0.out⟩)
        clear G0 R1
        go_loopg [8] N (fun q c wr => ∃ j : Nat, (j ≤ N ∧ q = N - j) ∧ c = .int .i64 j ∧ Hid (∃ n, n ≤ 200 ∧ Go2 W wr s r b n M va vc pw))
        case atStart => exact ⟨0, ⟨Nat.zero_le _, rfl⟩, rfl, G1⟩
        case round =>
          obtain ⟨j, ⟨hj, rfl⟩, rfl, H⟩ := hrel
          obtain ⟨n, hn, G⟩ := H.out
          by_cases hlj : j < N
          · obtain ⟨q, rfl, ⟨x, cx⟩, fx, G5⟩ := G.put j (by rw [← HN.out]; exact hlj) (.int .i64 (-1))
            have H5 := Lib.hid (show ∃ n, n ≤ 200 ∧ Go2 W _ s r b n M (some ⟨q, 0, none⟩) vc pw from ⟨n, hn, G5⟩)
            clear G G5 H G1
            go_wp2_with fail
            go_roundg (N - (j + 1))
            case measure => omega
            case rel => exact ⟨j + 1, ⟨by omega, rfl⟩, by simp, H5⟩
          · obtain rfl : j = N := by omega
            have A2 := Lib.hid (G.st.all (by omega) 0)
            have HG := Lib.hid G
            clear G H G1
            go_wp2_with fail
            refine A2.out.mono ?_
            rintro e w5 ⟨v5, rfl, o5, b5⟩
            have e0 : allF 1 M 0 = M 0 := by simp [allF]
            rw [e0, ← HN.out] at o5
            obtain ⟨p5, c5, rfl, T5, _⟩ := Sl.of o5 HN.out
            rw [← HN.out]
            have Q1 := same_it w5 p5 pw c5 pc (M 0) T5 (HG.out.was.keepB b5) (by rw [← HN.out]; omega)
            rw [← HN.out] at Q1
            have Q1 := Lib.hid Q1
            have S5 := Lib.hid (HG.out.st.below b5)
            have T5w := Lib.hid (HG.out.was.keepB b5)
            have HO := Lib.hid HG.out.out
            clear o5 T5 b5 A2 HG e0
            go_wp2_with fail
            refine Q1.out.mono ?_
            rintro e w6 ⟨rfl, n6, rfl⟩
            have b6 : Below w5.heap.size w5 (w5.drewN n6) := Kit.drawB (Below.refl _ _) n6
            have TK := Lib.hid ((S5.out.below b6).take (by omega) 0)
            have T6w := Lib.hid (T5w.out.keepB b6)
            have HOW := Lib.hid HO.out
            clear b6 Q1 S5 T5w
            go_wp2_with fail
            refine TK.out.mono ?_
            rintro e w7 ⟨v7, rfl, o7, S7, m7⟩
            have e0 : allF 1 M 0 = M 0 := by simp [allF]
            rw [e0, ← HN.out] at o7
            obtain ⟨p7, c7, rfl, T7, _⟩ := Sl.of o7 HN.out
            rw [← HN.out]
            have T7w := sl_keepP T6w.out m7 HOW.out
            have Q2 := same_it w7 p7 pw c7 pc (M 0) T7 T7w (by rw [← HN.out]; omega)
            rw [← HN.out] at Q2
            have Q2 := Lib.hid Q2
            have S7 := Lib.hid S7
            clear o7 T7 T7w m7 TK T6w HOW HO e0
            go_wp2_with fail
            refine Q2.out.mono ?_
            rintro e w8 ⟨rfl, n8, rfl⟩
            have S8 := S7.out.below (Kit.drawB (Below.refl _ _) n8)
            have L8 := len_it S8.lv (by omega)
            have e1 : tot (takeF 1 M 0) 1 = 0 := by simp [tot, takeF, upd]
            rw [e1] at L8
            have L8 := Lib.hid L8
            have HB := Lib.hid S8.bel
            clear S8 S7 Q2 e1
            go_wp2_with fail
            refine L8.out.mono ?_
            rintro e _ ⟨rfl, rfl⟩
            go_wp2_with fail
            go_ret
            exact ⟨rfl, HB.out⟩
end Go.Proofs.Ytobplcehaeejoaa.LawOwn
