/- The document's lists: Put. No condition. -/
import Derived.Test.YtobplcehaeejoaaRu
import Derived.Deep.Cut
set_option linter.unusedVariables false
set_option linter.unusedSimpArgs false
namespace Go.Proofs.Ytobplcehaeejoaa.Rp2
open Go.RowKit Se Mq Sm Ls Nx Lw Ln Lm Lq Rv Ru
theorem ins_last (k : Int) : ∀ l : List Int, (∀ z ∈ l, z < k) → ins k l = l ++ [k]
  | [], _ => rfl
  | x :: l, h => by
    have hx := h x (by simp)
    unfold ins
    rw [if_neg (by omega), if_neg (by omega), ins_last k l (fun z hz => h z (List.mem_cons_of_mem _ hz))]
    rfl
theorem ins_app (k : Int) : ∀ (l l2 : List Int), (∃ z ∈ l, k < z) → ins k (l ++ l2) = ins k l ++ l2
  | [], _, h => by obtain ⟨z, hz, _⟩ := h; cases hz
  | x :: l, l2, h => by
    rw [List.cons_append]
    unfold ins
    split
    · rfl
    · rename_i h1
      split
      · rfl
      · obtain ⟨z, hz, hk⟩ := h
        rcases List.mem_cons.1 hz with rfl | hz
        · exact absurd hk h1
        · rw [ins_app k l l2 ⟨z, hz, hk⟩]
          rfl
def D (k : Int) (row : List Int) (j : Nat) : Bool := (row.take j).any (fun z => decide (k < z))
def O (k : Int) (row : List Int) (j : Nat) : List Int := if D k row j = true then ins k (row.take j) else row.take j
section
variable {k : Int} {row : List Int} {j : Nat}
theorem take_s (h : j < row.length) : row.take (j + 1) = row.take j ++ [row.getD j 0] := by
  rw [List.take_add_one, List.getElem?_eq_getElem h, List.getD_eq_getElem?_getD, List.getElem?_eq_getElem h]
  rfl
theorem D_s (h : j < row.length) : D k row (j + 1) = (D k row j || decide (k < row.getD j 0)) := by
  unfold D
  rw [take_s h, List.any_append]
  simp
theorem low (hd : D k row j = false) (hk : k ∉ row) : ∀ z ∈ row.take j, z < k := fun z hz => by
  have h1 : ¬ k < z := fun c => by
    have : D k row j = true := List.any_eq_true.2 ⟨z, hz, by simpa using c⟩
    rw [hd] at this; cases this
  have h2 : z ≠ k := fun e => hk (e ▸ List.mem_of_mem_take hz)
  omega
theorem O_a (h : j < row.length) (hd : D k row j = false) (hk : k ∉ row) (hz : k < row.getD j 0) : O k row (j + 1) = (O k row j ++ [k]) ++ [row.getD j 0] ∧ D k row (j + 1) = true := by
  have d1 : D k row (j + 1) = true := by rw [D_s h, hd]; simpa using hz
  refine ⟨?_, d1⟩
  unfold O
  rw [if_pos d1, hd, if_neg (by simp), take_s h]
  have e : ins k (row.take j ++ [row.getD j 0]) = row.take j ++ ins k [row.getD j 0] := by
    have L := low hd hk
    generalize row.take j = l at *
    clear d1 hd
    induction l with
    | nil => rfl
    | cons x l ih =>
      have hx := L x (by simp)
      rw [List.cons_append]
      show ins k (x :: (l ++ _)) = _
      rw [ins, if_neg (by omega), if_neg (by omega), ih (fun z hz => L z (List.mem_cons_of_mem _ hz))]
      rfl
  have e2 : ins k [row.getD j 0] = [k, row.getD j 0] := by unfold ins; rw [if_pos hz]
  rw [e, e2]
  simp
theorem O_b (h : j < row.length) (hd : D k row j = false) (hz : ¬ k < row.getD j 0) : O k row (j + 1) = O k row j ++ [row.getD j 0] ∧ D k row (j + 1) = false := by
  have d1 : D k row (j + 1) = false := by rw [D_s h, hd]; simpa using hz
  refine ⟨?_, d1⟩
  unfold O
  rw [if_neg (by rw [d1]; simp), if_neg (by rw [hd]; simp), take_s h]
theorem O_c (h : j < row.length) (hd : D k row j = true) : O k row (j + 1) = O k row j ++ [row.getD j 0] ∧ D k row (j + 1) = true := by
  have d1 : D k row (j + 1) = true := by rw [D_s h, hd]; rfl
  refine ⟨?_, d1⟩
  unfold O
  rw [if_pos d1, if_pos hd, take_s h]
  obtain ⟨z, hz, hk⟩ := List.any_eq_true.1 hd
  exact ins_app k _ _ ⟨z, hz, by simpa using hk⟩
theorem O_end (hk : k ∉ row) : (D k row row.length = true → O k row row.length = ins k row) ∧ (D k row row.length = false → O k row row.length ++ [k] = ins k row) := by
  refine ⟨fun h => ?_, fun h => ?_⟩
  · unfold O; rw [if_pos h, List.take_length]
  · have L := low h hk
    unfold O
    rw [if_neg (by rw [h]; simp)]
    rw [List.take_length] at L ⊢
    exact (ins_last k row L).symm
theorem O_len (j : Nat) : (O k row j).length ≤ row.length + 1 := by
  unfold O
  split
  · have h := List.length_take_le' j row
    have : ∀ l : List Int, (ins k l).length ≤ l.length + 1 := fun l => by
      induction l with
      | nil => simp [ins]
      | cons x l ih =>
        unfold ins
        split
        · simp
        · split
          · simp
          · simp; omega
    have := this (row.take j)
    omega
  · have h := List.length_take_le' j row
    omega
end
theorem ins_rem (k : Int) (m : List Int) (h : Up m) : ins k (rem k m) = ins k m := by
  refine up_ext (up_ins k _ (up_rem k m h)) (up_ins k m h) (fun y => ?_)
  rw [mem_ins, mem_ins, mem_rem]
  constructor
  · rintro (h | ⟨h, _⟩)
    · exact .inl h
    · exact .inr h
  · rintro (h | h)
    · exact .inl h
    · by_cases e : y = k
      · exact .inl e
      · exact .inr ⟨h, e⟩
theorem not_rem (k : Int) (m : List Int) : k ∉ rem k m := fun h => ((mem_rem k k m).1 h).2 rfl
set_option maxHeartbeats 4000000 in
set_option maxRecDepth 100000 in
theorem rput_it {w : World} {x y g : Nat} {v : Nat → Value} {M : Nat → List Int} (h : Rv w x y g v M) (hl : ∀ i, i < g → (M i).length ≤ 900 ∧ Up (M i)) (gen k : Int) : Calls Try.prog 24 #[.pointer (some ⟨x, 0, none⟩), .int .i64 gen, .int .i64 k] w (ChR w x y g (wc g gen k) (putF g M gen k)) := by
  have WI := Lib.hid (rwrong_it h gen k)
  unfold putF
  rcases wc_cases g gen k with hc | ⟨hc, h1, h2⟩
  · rw [if_neg (by omega)]
    have HX := Lib.hid (show ChR w x y g (wc g gen k) M (.returned (.int .i64 (wc g gen k : Nat))) w from ⟨rfl, v, h, ModP.refl _ _⟩)
    have hd : ((wc g gen k : Int) != 0) = true := by rcases hc with e | e <;> rw [e] <;> rfl
    generalize wc g gen k = cc at *
    clear h hl hc
    go_enter Try.func24, Try.ntmps24
    go_wp2_with fail
    refine WI.out.mono ?_
    rintro e w ⟨rfl, rfl⟩
    go_wp2_with fail
    go_ret
    exact HX.out
  · obtain ⟨i, rfl⟩ : ∃ i : Nat, gen = i := ⟨gen.toNat, by omega⟩
    rw [if_pos hc, Int.toNat_natCast]
    rw [hc] at WI ⊢
    obtain ⟨p, c, e, S⟩ := h.rd i (by omega)
    have lm := (hl i (by omega)).1
    have eM := Lib.hid (ins_rem k (M i) (hl i (by omega)).2)
    have LI := Lib.hid (less_it w p c (M i) S (by omega) k)
    have HR := Lib.hid h
    have sm := h.small
    have l2 : (i : Int) < g := by omega
    have CE := Lib.hid (show ∀ wr, Rv wr x y g v M → wr.cell? ⟨x, 0, none⟩ = some (.slice (some ⟨y, 0, none⟩) g g) ∧ wr.cell? ⟨y, i, none⟩ = some (.slice p (M i).length c) ∧ wr.frozen? ⟨y, i, none⟩ = false from fun wr R => ⟨Kit.cells1 R.obj, by rw [← e]; exact R.cell i (by omega), Kit.frozen_of R.row i⟩)
    have hrl : (rem k (M i)).length ≤ 900 := Nat.le_trans (List.length_filter_le _ _) lm
    have NR := Lib.hid (not_rem k (M i))
    obtain ⟨c0, c1, f1⟩ := CE.out w h
    clear h hl hc e S
    go_enter Try.func24, Try.ntmps24
    go_wp2_with fail
    refine WI.out.mono ?_
    rintro e w ⟨rfl, rfl⟩
    clear WI
    go_wp2_with fail
    refine LI.out.mono ?_
    rintro e w1 ⟨u, rfl, G⟩
    obtain ⟨pr, cr, rfl, T, _⟩ := Sl.of G.own rfl
    have HT := Lib.hid T
    have R1 := Lib.hid (HR.out.keepB G.bel)
    have B1 := Lib.hid G.bel
    have PO := Lib.hid (fun (wr : World) (b : Below w1.heap.size w1 wr) (po : Option Addr) (co : Nat) (T : Sl wr po (ins k (M i))) => (R1.out.keepB b).put i (by omega) po co (ins k (M i)) T)
    generalize rem k (M i) = row at *
    obtain ⟨N, hN⟩ : ∃ N, N = row.length := ⟨_, rfl⟩
    have HN := Lib.hid hN
    rw [← hN] at hrl ⊢
    have G0 := Lib.hid (show Gw w1 w1 (.slice none 0 0) (O k row 0) from ⟨by simp [O, D]; exact World.ownsRow_nil _ _ _ _, Below.refl _ _⟩)
    have D0 : D k row 0 = false := by simp [D]
    clear G T LI hN c0 c1 f1
    go_wp2_with fail
    go_loopg [8, 9, 11] N (fun q u d t wr => ∃ j : Nat, (j ≤ N ∧ q = N - j) ∧ (∃ a n c, u = .slice a n c) ∧ d = .bool (D k row j) ∧ t = .int .i64 j ∧ Hid (Gw w1 wr u (O k row j)))
    case atStart => exact ⟨0, ⟨Nat.zero_le _, rfl⟩, ⟨_, _, _, rfl⟩, by rw [D0], rfl, G0⟩
    case round =>
      obtain ⟨j, ⟨hj, rfl⟩, ⟨ua, un, uc, rfl⟩, rfl, rfl, H⟩ := hrel
      by_cases hlt : j < N
      · have hlr : j < row.length := by rw [← HN.out]; exact hlt
        obtain ⟨bb, off, rfl, hbb, hcc⟩ := HT.out.cells (by omega)
        have q3 : wr.cell? ⟨bb, off + j, none⟩ = some (.int .i64 (row.getD j 0)) := (H.out.bel.cell (p := ⟨bb, off + j, none⟩) hbb).trans (hcc j hlr)
        have ol := O_len (k := k) (row := row) j
        rw [← HN.out] at ol
        clear hcc hbb G0 D0
        by_cases hd : D k row j = true
        · obtain ⟨e1, e2⟩ := O_c hlr hd
          obtain ⟨u', w2, hr, ⟨pa, pn, pc, rfl⟩, G1⟩ := H.out.push (row.getD j 0) (by omega)
          have H2 := Lib.hid (show Gw w1 w2 (.slice pa pn pc) (O k row (j + 1)) by rw [e1]; exact G1)
          have X1 := Lib.hid hr
          have E2 := Lib.hid e2
          rw [hd]
          generalize row.getD j 0 = z at *
          clear H G1 hr e1 e2 hd ol
          go_wp2_with (at_builtin; refine Rw.wp_append rfl (.tmp 48) (.tmp 53) 22 _ _ _ rfl rfl rfl X1.out ?_)
          go_roundg (N - (j + 1))
          case measure => omega
          case rel => exact ⟨j + 1, ⟨by omega, rfl⟩, ⟨_, _, _, rfl⟩, by rw [E2.out], by simp, H2⟩
        · have hd := Bool.eq_false_iff.2 hd
          by_cases hz : k < row.getD j 0
          · obtain ⟨e1, e2⟩ := O_a hlr hd NR.out hz
            obtain ⟨u', w2, hr, ⟨pa, pn, pc, rfl⟩, G1⟩ := H.out.push k (by omega)
            obtain ⟨u', w3, hr3, ⟨qa, qn, qc, rfl⟩, G3⟩ := G1.push (row.getD j 0) (by simp; omega)
            have q4 : w2.cell? ⟨bb, off + j, none⟩ = some (.int .i64 (row.getD j 0)) := by
              obtain ⟨b2, o2, e4, hb2, hc2⟩ := HT.out.cells (by omega)
              cases e4
              exact (G1.bel.cell (p := ⟨bb, off + j, none⟩) hb2).trans (hc2 j hlr)
            have H2 := Lib.hid (show Gw w1 w3 (.slice qa qn qc) (O k row (j + 1)) by rw [e1]; exact G3)
            have X1 := Lib.hid hr
            have X3 := Lib.hid hr3
            have E2 := Lib.hid e2
            rw [hd]
            generalize row.getD j 0 = z at *
            have d1 : decide (k < z) = true := decide_eq_true hz
            clear H G1 G3 hr hr3 e1 e2 hd ol hz
            go_upto_region 13 with (at_builtin; refine Rw.wp_append rfl (.tmp 44) (.tmp 46) 22 _ _ _ rfl rfl rfl X1.out ?_)
            clear X1 q3
            go_wp2_with (at_builtin; refine Rw.wp_append rfl (.tmp 48) (.tmp 53) 22 _ _ _ rfl rfl rfl X3.out ?_)
            go_roundg (N - (j + 1))
            case measure => omega
            case rel => exact ⟨j + 1, ⟨by omega, rfl⟩, ⟨_, _, _, rfl⟩, by rw [E2.out], by simp, H2⟩
          · obtain ⟨e1, e2⟩ := O_b hlr hd hz
            obtain ⟨u', w2, hr, ⟨pa, pn, pc, rfl⟩, G1⟩ := H.out.push (row.getD j 0) (by omega)
            have H2 := Lib.hid (show Gw w1 w2 (.slice pa pn pc) (O k row (j + 1)) by rw [e1]; exact G1)
            have X1 := Lib.hid hr
            have E2 := Lib.hid e2
            rw [hd]
            generalize row.getD j 0 = z at *
            have d1 : decide (k < z) = false := decide_eq_false hz
            clear H G1 hr e1 e2 hd ol hz
            go_wp2_with (at_builtin; refine Rw.wp_append rfl (.tmp 48) (.tmp 53) 22 _ _ _ rfl rfl rfl X1.out ?_)
            go_roundg (N - (j + 1))
            case measure => omega
            case rel => exact ⟨j + 1, ⟨by omega, rfl⟩, ⟨_, _, _, rfl⟩, by rw [E2.out], by simp, H2⟩
      · obtain rfl : j = N := by omega
        have OE := O_end (k := k) (row := row) NR.out
        rw [← HN.out] at OE
        have ol := O_len (k := k) (row := row) j
        rw [← HN.out] at ol
        by_cases hd : D k row j = true
        · have e1 := OE.1 hd
          have HX := Lib.hid (show ChR w x y g 0 (upd M i (ins k (M i))) (.returned (.int .i64 0)) (wr.setCell ⟨y, i, none⟩ (.slice ua un uc)) from by
            have G := H.out
            rw [e1, eM.out] at G
            obtain ⟨p2, c2, e3, T, _⟩ := Sl.of G.own rfl
            simp only [Value.slice.injEq] at e3
            obtain ⟨rfl, rfl, rfl⟩ := e3
            obtain ⟨R3, m3⟩ := PO.out wr G.bel ua uc T
            exact ⟨rfl, _, R3, (ModP.of_below (K := fun k => k = y) (Kit.stepB B1.out G.bel)).trans m3 (fun _ _ c => c)⟩)
          obtain ⟨c0, c1, f1⟩ := CE.out wr (R1.out.keepB H.out.bel)
          rw [hd]
          clear H OE ol hd e1 G0 D0
          go_wp2_with fail
          go_ret
          exact HX.out
        · have hd := Bool.eq_false_iff.2 hd
          have e1 := OE.2 hd
          obtain ⟨u', w2, hr, ⟨pa, pn, pc, rfl⟩, G1⟩ := H.out.push k (by omega)
          have HX := Lib.hid (show ChR w x y g 0 (upd M i (ins k (M i))) (.returned (.int .i64 0)) (w2.setCell ⟨y, i, none⟩ (.slice pa pn pc)) from by
            have G := G1
            rw [e1, eM.out] at G
            obtain ⟨p2, c2, e3, T, _⟩ := Sl.of G.own rfl
            simp only [Value.slice.injEq] at e3
            obtain ⟨rfl, rfl, rfl⟩ := e3
            obtain ⟨R3, m3⟩ := PO.out w2 G.bel pa pc T
            exact ⟨rfl, _, R3, (ModP.of_below (K := fun k => k = y) (Kit.stepB B1.out G.bel)).trans m3 (fun _ _ c => c)⟩)
          obtain ⟨c0, c1, f1⟩ := CE.out w2 (R1.out.keepB G1.bel)
          have X1 := Lib.hid hr
          rw [hd]
          clear H OE ol hd e1 G1 hr G0 D0
          go_wp2_with (at_builtin; refine Rw.wp_append rfl (.tmp 57) (.tmp 59) 22 _ _ _ rfl rfl rfl X1.out ?_)
          go_ret
          exact HX.out
end Go.Proofs.Ytobplcehaeejoaa.Rp2
