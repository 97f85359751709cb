/- The document's lists: Has, less, Drop. No condition. -/
import Derived.Test.YtobplcehaeejoaaRv
import Derived.Deep.RegionWith
set_option linter.unusedVariables false
set_option linter.unusedSimpArgs false
namespace Go.Proofs.Ytobplcehaeejoaa.Ru
open Go.RowKit Se Mq Sm Ls Nx Lw Ln Lm Lq Rv
section
variable {w w' : World} {x y g : Nat} {v : Nat → Value} {M : Nat → List Int} {K : Nat → Prop}
theorem has_all (g : Nat) (M : Nat → List Int) (gen k : Int) : decide (k ∈ allF g M gen) = hasV g M gen k := by
  unfold allF hasV
  by_cases hg : 0 ≤ gen ∧ gen < g
  · rw [if_pos hg]
    congr 1
    simp [hg.1, hg.2]
  · rw [if_neg hg]
    rw [decide_eq_false (by simp), decide_eq_false (fun c => hg ⟨c.1, c.2.1⟩)]
set_option maxHeartbeats 2000000 in
theorem rhas_it (h : Rv w x y g v M) (gen k : Int) (hl : (allF g M gen).length ≤ 1000) : Calls Try.prog 27 #[.pointer (some ⟨x, 0, none⟩), .int .i64 gen, .int .i64 k] w fun e w' => e = .returned (.bool (hasV g M gen k)) ∧ w' = w := by
  have AI := Lib.hid (rall_it h gen)
  rw [← has_all]
  generalize allF g M gen = ps at *
  clear h
  go_enter Try.func27, Try.ntmps27
  go_wp2_with fail
  refine AI.out.mono ?_
  rintro e w ⟨p, c, rfl, S, rfl⟩
  have EL := Lib.hid S
  obtain ⟨N, hN⟩ : ∃ N, N = ps.length := ⟨_, rfl⟩
  have HN := Lib.hid hN
  rw [← hN] at hl ⊢
  clear S AI hN
  go_wp2_with fail
  go_loop [8] (fun i => ∃ j : Nat, j ≤ N ∧ i = .int .i64 j ∧ Hid (∀ q, q < j → ps.getD q 0 ≠ k)) (fun i => N - (intOf i).toNat)
  case atStart => exact ⟨0, by omega, rfl, Lib.hid (fun q hq => by omega)⟩
  case round =>
    obtain ⟨j, hj, rfl, H⟩ := hrel
    by_cases hlt : j < N
    · obtain ⟨bb, off, rfl, hbb, hc⟩ := EL.out.cells (by rw [← HN.out]; omega)
      have q3 := hc j (by rw [← HN.out]; exact hlt)
      clear hc hbb
      by_cases he : ps.getD j 0 = k
      · have HY := Lib.hid (show decide (k ∈ ps) = true from decide_eq_true (by rw [← he, List.getD_eq_getElem?_getD]; simp [show j < ps.length by rw [← HN.out]; exact hlt]))
        rw [he] at q3
        clear he H
        have e1 : (k == k) = true := by simp
        go_wp2_with fail
        go_ret
        exact ⟨by rw [HY.out]; rfl, rfl⟩
      · have HY := Lib.hid (show ∀ q, q < j + 1 → ps.getD q 0 ≠ k from fun q hq => by
          rcases Nat.lt_or_ge q j with c | c
          · exact H.out q c
          · obtain rfl : q = j := by omega
            exact he)
        generalize ps.getD j 0 = z at *
        have e1 : (z == k) = false := by simpa using he
        clear he H
        go_wp2_with fail
        go_round
        case rel => exact ⟨j + 1, by omega, by simp, HY⟩
        case measure => simp [intOf]; omega
    · obtain rfl : j = N := by omega
      have HY := Lib.hid (show decide (k ∈ ps) = false from decide_eq_false (fun c => by
        obtain ⟨q, hq, e⟩ := List.mem_iff_getElem.1 c
        refine H.out q (by rw [HN.out]; exact hq) ?_
        rw [List.getD_eq_getElem?_getD]
        simp [hq, e]))
      clear H
      go_wp2_with fail
      go_ret
      exact ⟨by rw [HY.out]; rfl, rfl⟩
theorem rem_take (k : Int) (m : List Int) (j : Nat) (hj : j < m.length) : rem k (m.take (j + 1)) = if m.getD j 0 = k then rem k (m.take j) else rem k (m.take j) ++ [m.getD j 0] := by
  have g : m.getD j 0 = m[j] := by simp [List.getD_eq_getElem?_getD, hj]
  have e : m.take (j + 1) = m.take j ++ [m[j]] := by
    rw [List.take_add_one, List.getElem?_eq_getElem hj]; rfl
  rw [e, g]
  unfold rem
  rw [List.filter_append]
  by_cases h : m[j] = k
  · rw [if_pos h, List.filter_cons_of_neg (by simp [h])]
    simp
  · rw [if_neg h, List.filter_cons_of_pos (by simp [h])]
    simp
/-- What is gathered of one's own: a slice of numbers, at or beyond the heap as it was. -/
structure Gw (w wr : World) (u : Value) (l : List Int) : Prop where
  own : wr.ownsRow w.heap.size 3 1 u l.length (ints l)
  bel : Below w.heap.size w wr
theorem Gw.push {w wr : World} {u : Value} {l : List Int} (h : Gw w wr u l) (k : Int) (hl : l.length + 1 ≤ 1000000) : ∃ u' w1, (Builtin.append_ #[22, 22] 22 #[u, .slice (some ⟨wr.heap.size, 0, none⟩) 1 1]).run Try.prog (wr.alloc (.cells #[.int .i64 k] 3)) = .ok u' w1 ∧ (∃ a n c, u' = .slice a n c) ∧ Gw w w1 u' (l ++ [k]) := by
  have hz := h.bel.size
  obtain ⟨u', w1, hr, sh, o1, g1, k1⟩ := run_push w.heap.size u l k h.own hl hz
  exact ⟨u', w1, hr, sh, o1, ⟨g1.os.trans h.bel.os, g1.tape.trans h.bel.tape, g1.output.trans h.bel.output, Nat.le_trans hz g1.size, fun j hj => (g1.block j (by omega) (fun e => by have := (h.own.lt j e.symm).1; omega)).trans (h.bel.block j hj)⟩⟩
set_option maxHeartbeats 2000000 in
theorem less_it (w : World) (p : Option Addr) (c : Nat) (m : List Int) (S : Sl w p m) (hl : m.length ≤ 1000) (k : Int) : Calls Try.prog 31 #[.slice p m.length c, .int .i64 k] w fun e w' => ∃ u, e = .returned u ∧ Gw w w' u (rem k m) := by
  have EL := Lib.hid S
  have HT := Lib.hid (fun j hj => rem_take k m j hj)
  have HLe := Lib.hid (fun j => Nat.le_trans (List.length_filter_le (fun x => decide (x ≠ k)) (m.take j)) (List.length_take_le' j m))
  have HE := Lib.hid (show rem k (m.take m.length) = rem k m by rw [List.take_length])
  obtain ⟨N, hN⟩ : ∃ N, N = m.length := ⟨_, rfl⟩
  have HN := Lib.hid hN
  rw [← hN] at hl HE HT HLe ⊢
  clear S hN
  go_enter Try.func31, Try.ntmps31
  go_wp2_with fail
  have G0 := Lib.hid (show Gw w w (.slice none 0 0) (rem k (m.take 0)) from ⟨World.ownsRow_nil _ _ _ _, Below.refl _ _⟩)
  go_loopg [5, 6] N (fun q u i wr => ∃ j : Nat, (j ≤ N ∧ q = N - j) ∧ (∃ a n c, u = .slice a n c) ∧ i = .int .i64 j ∧ Hid (Gw w wr u (rem k (m.take j))))
  case atStart => exact ⟨0, ⟨Nat.zero_le _, rfl⟩, ⟨_, _, _, rfl⟩, rfl, G0⟩
  case round =>
    obtain ⟨j, ⟨hj, rfl⟩, ⟨ua, un, uc, rfl⟩, rfl, H⟩ := hrel
    by_cases hlt : j < N
    · obtain ⟨bb, off, rfl, hbb, hc⟩ := EL.out.cells (by rw [← HN.out]; omega)
      have q3 : wr.cell? ⟨bb, off + j, none⟩ = some (.int .i64 (m.getD j 0)) := (H.out.bel.cell (p := ⟨bb, off + j, none⟩) hbb).trans (hc j (by rw [← HN.out]; exact hlt))
      have QT := Lib.hid (HT.out j hlt)
      clear hc hbb
      generalize m.getD j 0 = z at *
      by_cases he : z = k
      · have H2 := Lib.hid (show Gw w wr (.slice ua un uc) (rem k (m.take (j + 1))) by rw [QT.out, if_pos he]; exact H.out)
        have e1 : (z != k) = false := by simpa using he
        clear H he G0
        go_wp2_with fail
        go_roundg (N - (j + 1))
        case measure => omega
        case rel => exact ⟨j + 1, ⟨by omega, rfl⟩, ⟨_, _, _, rfl⟩, by simp, H2⟩
      · obtain ⟨u', w1, hr, ⟨pa, pn, pc, rfl⟩, G1⟩ := H.out.push z (by
          have := HLe.out j
          unfold rem
          omega)
        have H2 := Lib.hid (show Gw w w1 (.slice pa pn pc) (rem k (m.take (j + 1))) by rw [QT.out, if_neg he]; exact G1)
        have R1 := Lib.hid hr
        have e1 : (z != k) = true := by simpa using he
        clear H he G1 hr G0
        go_wp2_with (at_builtin; refine Rw.wp_append rfl (.tmp 19) (.tmp 24) 22 _ _ _ rfl rfl rfl R1.out ?_)
        go_roundg (N - (j + 1))
        case measure => omega
        case rel => exact ⟨j + 1, ⟨by omega, rfl⟩, ⟨_, _, _, rfl⟩, by simp, H2⟩
    · obtain rfl : j = N := by omega
      have HX := Lib.hid (show Gw w wr (.slice ua un uc) (rem k m) by rw [← HE.out]; exact H.out)
      clear H G0
      go_wp2_with fail
      go_ret
      exact ⟨_, rfl, HX.out⟩
/-- A call that changes a row. -/
def ChR (w : World) (x y g : Nat) (c : Nat) (M' : Nat → List Int) (e : Ending) (w' : World) : Prop := e = .returned (.int .i64 c) ∧ ∃ v', Rv w' x y g v' M' ∧ ModP (fun k => k = y) w w'
set_option maxHeartbeats 4000000 in
set_option maxRecDepth 100000 in
theorem rdrop_it (h : Rv w x y g v M) (hl : ∀ i, i < g → (M i).length ≤ 1000) (gen k : Int) : Calls Try.prog 25 #[.pointer (some ⟨x, 0, none⟩), .int .i64 gen, .int .i64 k] w (ChR w x y g (wc g gen k) (dropF g M gen k)) := by
  have WI := Lib.hid (rwrong_it h gen k)
  unfold dropF
  rcases wc_cases g gen k with hc | ⟨hc, h1, h2⟩
  · rw [if_neg (by omega)]
    have HX := Lib.hid (show ChR w x y g (wc g gen k) M (.returned (.int .i64 (wc g gen k : Nat))) w from ⟨rfl, v, h, ModP.refl _ _⟩)
    have hd : ((wc g gen k : Int) == 0) = false := by rcases hc with e | e <;> rw [e] <;> rfl
    generalize wc g gen k = cc at *
    clear h hl hc
    go_enter Try.func25, Try.ntmps25
    go_wp2_with fail
    refine WI.out.mono ?_
    rintro e w ⟨rfl, rfl⟩
    go_wp2_with fail
    go_ret
    exact HX.out
  · obtain ⟨i, rfl⟩ : ∃ i : Nat, gen = i := ⟨gen.toNat, by omega⟩
    rw [if_pos hc, Int.toNat_natCast]
    rw [hc] at WI ⊢
    obtain ⟨p, c, e, S⟩ := h.rd i (by omega)
    have lm := hl i (by omega)
    have LI := Lib.hid (fun (wr : World) (b : Below w.heap.size w wr) => less_it wr p c (M i) (S.keepB b) lm k)
    have HR := Lib.hid h
    have sm := h.small
    have l2 : (i : Int) < g := by omega
    have CE := Lib.hid (show ∀ wr, Rv wr x y g v M → wr.cell? ⟨x, 0, none⟩ = some (.slice (some ⟨y, 0, none⟩) g g) ∧ wr.cell? ⟨y, i, none⟩ = some (.slice p (M i).length c) ∧ wr.frozen? ⟨y, i, none⟩ = false from fun wr R => ⟨Kit.cells1 R.obj, by rw [← e]; exact R.cell i (by omega), Kit.frozen_of R.row i⟩)
    clear h hl hc e S
    go_enter Try.func25, Try.ntmps25
    go_wp2_with fail
    refine WI.out.mono ?_
    rintro e w ⟨rfl, rfl⟩
    have bd : Below w.heap.size w w.drew := (Below.refl w.heap.size w).drew
    have HD := Lib.hid (HR.out.keepB bd)
    obtain ⟨c0, c1, f1⟩ := CE.out w HR.out
    obtain ⟨d0, d1, g1⟩ := CE.out w.drew HD.out
    have L1 := Lib.hid (LI.out w.drew bd)
    obtain ⟨N, hN⟩ : ∃ N, N = (M i).length := ⟨_, rfl⟩
    have HN := Lib.hid hN
    rw [← hN] at L1 c1 d1
    clear WI LI bd hN
    go_wp2_with fail
    go_region_with (first | (go_at_call 31; refine L1.out.mono ?_; rintro e w3 ⟨u, rfl, G⟩; obtain ⟨ua, uc, rfl⟩ := own_shape G.own; obtain ⟨q0, q1, r1⟩ := CE.out w3 (HD.out.keepB G.bel); rw [← HN.out] at q1; have HG := Lib.hid G; clear G))
    all_goals
      have HX := Lib.hid (show ChR w x y g 0 (upd M i (rem k (M i))) (.returned (.int .i64 0)) (w3.setCell ⟨y, i, none⟩ (.slice ua (rem k (M i)).length uc)) from by
        obtain ⟨p2, c2, e2, T, _⟩ := Sl.of HG.out.own rfl
        simp only [Value.slice.injEq] at e2
        obtain ⟨rfl, _, rfl⟩ := e2
        obtain ⟨R3, m3⟩ := (HD.out.keepB HG.out.bel).put i (by omega) ua uc (rem k (M i)) T
        exact ⟨rfl, _, R3, (ModP.of_below (K := fun k => k = y) (Below.refl w.heap.size w).drew).trans ((ModP.of_below (K := fun k => k = y) HG.out.bel).trans m3 (fun _ _ c => c)) (fun _ _ c => c)⟩)
      clear HG HD HR CE L1 q0 q1 r1 d0 d1 g1 c0 c1 f1 HN
      go_wp2_with fail
      go_ret
      exact HX.out
end
end Go.Proofs.Ytobplcehaeejoaa.Ru
