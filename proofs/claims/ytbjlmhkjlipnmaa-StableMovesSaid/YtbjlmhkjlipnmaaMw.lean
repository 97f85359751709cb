/- Whatever moves, a handle tells where its own went: the law StableMoves answers true for every input. No condition. -/
import Derived.Test.YtbjlmhkjlipnmaaMp
import Derived.Test.YtbjlmhkjlipnmaaAg
import Derived.Deep.RegionHeld3
import Derived.Deep.AppendLies
import Derived.Deep.QuietTactic
import Derived.BigQuiet
set_option linter.unusedVariables false
set_option linter.unusedSimpArgs false
namespace Go.Proofs.Ytbjlmhkjlipnmaa.Mw
open Go.RowKit Go.WideShapes
open Sr Tb Tf Tg Tm Ta Fu On Tp Mp
/-- Where the first loop stands. -/
structure St (W w : World) (n : Int) (base g r Bn : Nat) (va : Value) (vb : Value) (was : List Int) : Prop where
  tab : Tab w g r (lies 256 was)
  two : Two w base va (hands was.length) vb was
  cap : w.heap[Bn]? = some (.cells #[.int .i64 n] 3 (0, 0))
  bel : Below W.heap.size W w
  siz : base ≤ w.heap.size
  old : W.heap.size ≤ base ∧ W.heap.size ≤ r
  gb : g < base ∧ r < base ∧ Bn < base ∧ Bn ≠ r
  few : was.length ≤ 256
  fine : ∀ x, x ∈ was → 1 ≤ x ∧ x ≤ 524288
theorem news_far (w : World) (x : Value) (t : TypeId) (o : Obj) : ∀ j u, [x][j]? = some u → ((w.alloc (.cells #[x] t)).alloc o).cell? ((⟨w.heap.size, 0, none⟩ : Addr).add j) = some u := fun j u h => by
  match j, h with
  | 0, h =>
    have := (Below.refl (w.heap.size + 1) (w.alloc (.cells #[x] t))).alloc (by simp) o
    have c := this.cell (p := ⟨w.heap.size, 0, none⟩) (by simp)
    have := cell_one_new w x t 0 u h
    simp only [Addr.add] at this ⊢
    exact c.trans this
theorem news_kept (w w' : World) (x : Value) (t : TypeId) (q : Nat) (row : Option Nat) (hg : w.grownBy w' row) (hw : w.heap[q]? = some (.cells #[x] t (0, 0))) (hr : row ≠ some q) : ∀ j u, [x][j]? = some u → w'.cell? ((⟨q, 0, none⟩ : Addr).add j) = some u := fun j u h => by
  match j, h with
  | 0, h =>
    simp at h
    subst h
    have := (hg.block q (Kit.lt_of hw) (fun e => hr e.symm)).trans hw
    simpa [Addr.add] using Kit.cells1 this
theorem news_blk (w : World) (x : Value) (t : TypeId) (q : Nat) (hw : w.heap[q]? = some (.cells #[x] t (0, 0))) : ∀ j u, [x][j]? = some u → w.cell? ((⟨q, 0, none⟩ : Addr).add j) = some u := fun j u h => by
  match j, h with
  | 0, h =>
    simp at h
    subst h
    simpa [Addr.add] using Kit.cells1 hw
theorem ifW {c : Prop} [Decidable c] {A B : Prop} (hc : c) (h : A) : (if c then A else B) := by rw [if_pos hc]; exact h
/-- One whole number is appended to a row that is one's own. -/
theorem app1 {o : Oper} {a : Act} {K : Act → World → Prop} {Q : Exit → Act → World → Prop} (w : World) (s x : Operand)
    (ho : o.op = .call { callee := .builtin .append, args := #[s, x], argTypes := #[28, 28] }) (base : Nat) (v : Value) (n : Nat) (xs : List Value) (hs : a.eval s = v) (hown : w.ownsRow base 3 1 v n xs)
    (ad : Addr) (y : Value) (hx : a.eval x = .slice (some ad) 1 1) (hy : ∀ j u, [y][j]? = some u → w.cell? (ad.add j) = some u) (h1 : y.oneCell' = true) (hn : n < 1000) (hbase : base ≤ w.heap.size)
    (h : ∀ g cap w', w'.ownsRow base 3 1 (.slice (some ⟨g, 0, none⟩) (n + 1) cap) (n + 1) (xs ++ [y]) → w.grownBy w' v.ownBlock → (v.ownBlock = some g ∨ g = w.heap.size) → g < w'.heap.size → K (a.put o.dst (.slice (some ⟨g, 0, none⟩) (n + 1) cap)) w') :
    Oper.wp Try.prog o a w K Q := by
  obtain ⟨i0, hi, hz0, hz1, hz2⟩ := info_parts info3
  exact wp_append_lies w s x 28 ho base 3 i0 (.int .i64 0) 1 8 Try.underlying28 hi hz0 hz1 hz2 rfl (by decide) v n xs hs hown ad 1 1 [y] hx rfl hy (fun u hu => by simp at hu; subst hu; exact h1) (by decide) (by unfold maxLen; omega) (by omega) hbase _ rfl h
/-- Where the first loop stands behind both appends. -/
theorem St.next {W wr w3 w4 v4 w5 : World} {n : Int} {base g r Bn g1 cap1 g2 cap2 ca cb : Nat} {aa ab : Option Addr} {was : List Int} {x : Int}
    (S : St W wr n base g r Bn (.slice aa was.length ca) (.slice ab was.length cb) was) (hx : 1 ≤ x ∧ x ≤ 524288) (room : was.length < 256)
    (T3 : Tab w3 g r ((lies 256 was).set was.length (x, 1))) (C3 : w3.heap[Bn]? = some (.cells #[.int .i64 n] 3 (0, 0))) (B3 : Below W.heap.size W w3) (S3 : base ≤ w3.heap.size)
    (hw4 : Below base w3 w4) (hw5 : Below base w4 w5)
    (h1 : v4.ownsRow base 3 1 (.slice (some ⟨g1, 0, none⟩) (was.length + 1) cap1) (was.length + 1) (ints (hands was.length) ++ [.int .i64 (256 + (was.length : Int))]))
    (h2 : w5.ownsRow base 3 1 (.slice (some ⟨g2, 0, none⟩) (was.length + 1) cap2) (was.length + 1) (ints was ++ [.int .i64 x]))
    (hg : v4.grownBy w5 (Value.slice ab was.length cb).ownBlock) (hne : (Value.slice ab was.length cb).ownBlock ≠ some g1) (hat : (Value.slice ab was.length cb).ownBlock = some g2 ∨ g2 = v4.heap.size) (hlt : g1 < v4.heap.size) :
    St W w5 n base g r Bn (.slice (some ⟨g1, 0, none⟩) (was.length + 1) cap1) (.slice (some ⟨g2, 0, none⟩) (was.length + 1) cap2) (was ++ [x]) := by
  have k : ∀ q o, q < base → w3.heap[q]? = some o → w5.heap[q]? = some o := fun q o hq h => (hw5.block q hq).trans ((hw4.block q hq).trans h)
  have sz := Nat.le_trans hw4.size hw5.size
  refine ⟨?_, ?_, k _ _ S.gb.2.2.1 C3, ?_, Nat.le_trans S3 sz, S.old, S.gb, by simp; omega, fun y hy => ?_⟩
  · rw [← lies_more 256 was x room]
    exact ⟨k _ _ S.gb.1 T3.tab, k _ _ S.gb.2.1 T3.row, T3.ne, T3.short⟩
  · refine ⟨?_, ?_, ?_⟩
    · have := h1.kept hg (.inr (fun e => hne e.symm))
      rw [List.length_append, List.length_singleton, hands_length, hands_more, ints_append]
      exact this
    · rw [List.length_append, List.length_singleton, ints_append]
      exact h2
    · right
      show some g1 ≠ some g2
      intro e
      injection e with e
      rcases hat with e2 | e2
      · exact hne (by rw [e2, e])
      · omega
  · exact ⟨(hw5.os.trans hw4.os).trans B3.os, (hw5.tape.trans hw4.tape).trans B3.tape, (hw5.output.trans hw4.output).trans B3.output, Nat.le_trans B3.size sz, fun i hi => (hw5.block i (Nat.lt_of_lt_of_le hi S.old.1)).trans ((hw4.block i (Nat.lt_of_lt_of_le hi S.old.1)).trans (B3.block i hi))⟩
  · rcases List.mem_append.1 hy with hy | hy
    · exact S.fine y hy
    · simp at hy; subst hy; exact hx
theorem St.mod {W w w' : World} {n : Int} {base g r Bn : Nat} {va vb : Value} {was : List Int} (S : St W w n base g r Bn va vb was) (m : Kit.Mod [r] w w') (T : Tab w' g r (lies 256 was)) : St W w' n base g r Bn va vb was :=
  ⟨T, S.two.mod m (fun x hx => by simp at hx; subst hx; exact S.gb.2.1), Kit.keep S.cap m (by simp; exact S.gb.2.2.2), Kit.step1 S.bel m S.old.2, Nat.le_trans S.siz m.size, S.old, S.gb, S.few, S.fine⟩
theorem live_len (n : Int) (was : List Int) (h : ∀ y, y ∈ was → 1 ≤ y ∧ y ≤ 524288) : (live (turned n (lies 256 was))).length = was.length := by
  unfold live turned lies
  rw [List.length_map, List.map_append, List.filter_append, List.length_append]
  have a : ((((was.map fun x => (x, (1 : Int))).map (turn1 n)).filter fun p => p.1 != 0)).length = was.length := by
    rw [List.filter_eq_self.2]
    · simp
    · intro p hp
      simp only [List.mem_map] at hp
      obtain ⟨_, ⟨y, hy, rfl⟩, rfl⟩ := hp
      have := h y hy
      unfold turn1
      split
      · rename_i c; simp only [bne_iff_ne]; have := c.2.1; simp only at this ⊢; omega
      · simp only [bne_iff_ne]; omega
  have b : ((((List.replicate (256 - was.length) ((0 : Int), (1 : Int))).map (turn1 n)).filter fun p => p.1 != 0)).length = 0 := by
    rw [List.map_replicate]
    have : turn1 n (0, 1) = (0, 1) := by unfold turn1; simp
    rw [this]
    simp
  omega
set_option maxHeartbeats 4000000 in
set_option maxRecDepth 200000 in
theorem law (W : World) (A : Option Addr) (len cap : Nat) (zs : List Int) (n : Int) (R : Ag.Nums W A len .i64 zs) :
    Calls Try.prog 5 #[.slice A len cap, .int .i64 n] W fun e W' => e = .returned (.bool true) ∧ Below W.heap.size W W' := by
  obtain ⟨i0, hi, hz0, hz1, hz2⟩ := info_parts info3
  have NW := Lib.hid (new_it (W.alloc (.cells #[.int .i64 n] 3 (0, 0))) 256 (by decide) (by decide))
  have BN := Lib.hid (Kit.new_blk W (.cells #[.int .i64 n] 3 (0, 0)))
  have B0 := Lib.hid (Kit.allocB (Below.refl W.heap.size W) (.cells #[.int .i64 n] 3 (0, 0)))
  go_enter Try.func5, Try.ntmps5
  go_wp2_with fail
  refine NW.out.mono ?_; rintro e w1 ⟨g, r, rfl, T1, hg, hr, b1⟩
  have T1' := Lib.hid T1
  have BN1 := Lib.hid (Kit.keepB BN.out b1)
  have B1 := Lib.hid (Kit.stepB B0.out b1)
  simp only [World.size_alloc] at hg hr
  clear T1 b1 NW BN B0
  go_wp2_with fail
  refine (Aw.awake_it _).mono ?_; rintro e w2 ⟨rfl, b2⟩
  have S0 : St W w2 n w2.heap.size g r W.heap.size (.slice none 0 0) (.slice none 0 0) [] :=
    ⟨by rw [lies_nil]; exact T1'.out.keepB b2, Two.start _ _, Kit.keepB BN1.out b2, Kit.stepB B1.out b2, Nat.le_refl _, ⟨Nat.le_trans B1.out.size b2.size, by omega⟩, ⟨Nat.lt_of_lt_of_le (Kit.lt_of T1'.out.tab) b2.size, Nat.lt_of_lt_of_le (Kit.lt_of T1'.out.row) b2.size, Nat.lt_of_lt_of_le (Kit.lt_of BN1.out) b2.size, by omega⟩, by simp, fun x hx => by cases hx⟩
  have HS0 := Lib.hid S0
  obtain ⟨base, hbase⟩ : ∃ base, base = w2.heap.size := ⟨_, rfl⟩
  rw [← hbase] at HS0
  clear S0 b2 T1' B1 hbase BN1
  go_wp2_with fail
  go_loopw [7, 8, 9] (fun va vb c wr => ∃ j : Nat, (j ≤ len ∧ j ≤ 300) ∧ c = .int .i64 j ∧ Hid (∃ was, St W wr n base g r W.heap.size va vb was)) (fun _ _ c _ => 300 - (intOf c).toNat)
  case atStart => exact ⟨0, by omega, rfl, ⟨_, HS0.out⟩⟩
  case round =>
    obtain ⟨j, ⟨hj, hj2⟩, rfl, H⟩ := hrel
    by_cases hlt : j < len ∧ j < 300
    · obtain ⟨l1, l2⟩ := hlt
      obtain ⟨was, S⟩ := H.out
      obtain ⟨b, off, rfl, hb, hc⟩ := R.cells (by omega)
      have c := hc j l1
      replace c := (S.bel.cell (p := ⟨b, off + j, none⟩) hb).trans c
      have fw := S.few
      have HS := Lib.hid S
      obtain ⟨aa, ca, rfl⟩ := shape_of S.two.one
      obtain ⟨ab, cb, rfl⟩ := shape_of S.two.two
      have ll := lies_length 256 was fw
      have lo := lies_out 256 was was.length (Nat.le_refl _)
      have LL := Lib.hid ll
      generalize zs.getD j 0 = x at c
      clear hc S H
      by_cases ok : 1 ≤ x ∧ x ≤ 524288
      · have M := make_in HS.out.tab x ok (fun q hq => by
            rw [ll] at hq
            by_cases e : q < was.length
            · rw [lies_in 256 was q e]; simp
            · rw [lies_out 256 was q (by omega) hq]; simp) was.length (by omega) (fun q hq => by
            rw [lies_in 256 was q hq]
            have := HS.out.fine _ (show was.getD q 0 ∈ was by rw [List.getD_eq_getElem?_getD, List.getElem?_eq_getElem hq]; exact List.getElem_mem hq)
            simp only; omega) (fun h => by rw [lo (by omega)])
        rw [ll] at M
        have HM := Lib.hid M
        clear M ll
        by_cases room : was.length < 256
        · have lo := Lib.hid (lo room)
          go_wp2_with fail
          refine HM.out.mono ?_; rintro e w3 ⟨m3, h5⟩
          rw [if_pos room, lo.out] at h5
          obtain ⟨rfl, T3⟩ := h5
          have hm : ∀ x, x ∈ [r] → x < base := fun x hx => by simp at hx; subst hx; exact HS.out.gb.2.1
          have D3 := HS.out.two.mod m3 hm
          have hll : (Mp.hands was.length).length = was.length := Mp.hands_length _
          have S3 := Nat.le_trans HS.out.siz m3.size
          have O1 : Hid (w3.ownsRow base 3 1 (.slice aa was.length ca) was.length (ints (hands was.length))) := by
            have := D3.one; rw [hands_length] at this; exact this
          have O2 := Lib.hid D3.two
          have H3 := Lib.hid D3
          have HS' : Hid (St W wr n base g r W.heap.size (.slice aa was.length ca) (.slice ab was.length cb) was) := by
            have h := HS.out
            rw [hands_length] at h
            exact Lib.hid h
          have HT3 := Lib.hid T3
          have B3 := Lib.hid (Kit.step1 HS.out.bel m3 HS.out.old.2)
          have C3 := Lib.hid (Kit.keep HS.out.cap m3 (by simp; exact HS.out.gb.2.2.2))
          have hbb : b < wr.heap.size := Nat.lt_of_lt_of_le hb HS.out.bel.size
          have hbr : b ≠ r := by have := HS.out.old.2; omega
          have hbs : b < base := by have := HS.out.old.1; omega
          have c3 : w3.cell? ⟨b, off + j, none⟩ = some (.int .i64 x) := (World.cell?_of_block (w := wr) (a := ⟨b, off + j, none⟩) (m3.block b hbb (by simp [hbr]))).trans c
          have hne : (Value.slice ab was.length cb).ownBlock = none ∨ (Value.slice ab was.length cb).ownBlock ≠ (Value.slice aa was.length ca).ownBlock := by
            rcases H3.out.ne with e | e
            · rw [hands_length] at e
              cases hv : (Value.slice ab was.length cb).ownBlock with
              | none => exact .inl rfl
              | some k => right; rw [e]; simp
            · rw [hands_length] at e; exact .inr (fun h => e h.symm)
          have HNE := Lib.hid hne
          have hrow := Lib.hid (fun q (h : (Value.slice aa was.length ca).ownBlock = some q) => (O1.out.lt q h).2)
          clear hne
          have hl1 := Lib.hid (fun q h => (O1.out.lt q h).1)
          clear T3 m3 hm D3 c HM
          go_wp2_with fail
          go_region_held3 (fun w' => w'.cell? ⟨b, off + j, none⟩ = some (.int .i64 x))
            (first | go_keep | assumption)
            (first
              | (((refine ifW ?hc ?_)); ((case hc => rfl)); ((apply app1 (s := .tmp 51) (x := .tmp 53) (base := base) (v := .slice aa was.length ca) (n := was.length) (xs := ints (Mp.hands was.length)) (y := .int .i64 (256 + (was.length : Int))))); ((case ho => rfl)); ((case hs => rfl)); ((case hx => rfl)); ((case hown => (repeat (with_reducible (first | exact O1.out | refine World.ownsRow.alloc ?_ _ | refine World.ownsRow.drew ?_))))); ((case hy => first | exact cell_one_new _ _ _ | exact news_far _ _ _ _ | exact news_blk _ _ 3 _ (Kit.new_blk2 _ _ _))); ((case h1 => rfl)); ((case hn => omega)); ((case hbase => first | omega | (simp; omega))); ((intro g1 cap1 w4 hown1 hgrow1 hat1 hlt1)); ((have hw4 : Below base w3 w4 := (by refine Below.grown ?_ hgrow1 ?_ hl1.out; (repeat (with_reducible (first | exact Below.refl _ _ | apply Below.drew | refine Below.alloc ?_ ?_ _))); all_goals first | omega | (simp; omega)))); ((have c4 := (hw4.cell (p := ⟨b, off + j, none⟩) hbs).trans c3)); ((have P4 : w4.ownsRow base 3 1 (.slice ab was.length cb) was.length (ints was) := (by refine World.ownsRow.kept ?_ hgrow1 HNE.out; (repeat (with_reducible (first | exact O2.out | refine World.ownsRow.alloc ?_ _ | refine World.ownsRow.drew ?_)))))); ((try have hB1 := news_kept _ _ (.int .i64 x) 3 _ _ hgrow1 (Kit.new_blk2 w3 _ _) (fun e => by have := hrow.out _ e; omega))); ((try have hB0 := news_kept _ _ (.int .i64 x) 3 _ _ hgrow1 (Kit.keep_alloc (Kit.new_blk w3 _) _) (fun e => by have := hrow.out _ e; simp at this))))
              | (((refine ifW ?hc ?_)); ((case hc => rfl)); ((apply app1 (s := .tmp 55) (x := .tmp 60) (base := base) (v := .slice ab was.length cb) (n := was.length) (xs := ints was) (y := .int .i64 x))); ((case ho => rfl)); ((case hs => rfl)); ((case hx => rfl)); ((case hown => (repeat (with_reducible (first | exact P4 | refine World.ownsRow.alloc ?_ _ | refine World.ownsRow.drew ?_))))); ((case hy => first | exact cell_one_new _ _ _ | exact hB1 | exact hB0)); ((case h1 => rfl)); ((case hn => omega)); ((case hbase => have hs4 := hw4.size; first | omega | (simp; omega))); ((intro g2 cap2 w5 hown2 hgrow2 hat2 hlt2)); ((have hw5 : Below base w4 w5 := (by refine Below.grown ?_ hgrow2 ?_ (fun q h => (P4.lt q h).1); (repeat (with_reducible (first | exact Below.refl _ _ | apply Below.drew | refine Below.alloc ?_ ?_ _))); all_goals (have hs4 := hw4.size; first | omega | (simp; omega))))); ((have c5 := (hw5.cell (p := ⟨b, off + j, none⟩) hbs).trans c4)); ((have S5 := Lib.hid (St.next HS'.out ok room HT3.out C3.out B3.out S3 hw4 hw5 (by (repeat (with_reducible (first | exact hown1 | refine World.ownsRow.alloc ?_ _ | refine World.ownsRow.drew ?_)))) hown2 hgrow2 (by rcases HNE.out with e | e; (rw [e]; simp); (rcases hat1 with e1 | e1; (rw [← e1]; exact e); (intro e2; have := (O2.out.lt _ e2).2; first | omega | (simp at e1; omega)))) hat2 (by first | omega | (simp; omega))))))) 
          all_goals
            go_wp2_with fail
            go_roundw
            case rel => exact ⟨j + 1, by omega, by simp, ⟨_, S5.out⟩⟩
            case measure => simp [intOf]; omega
        · go_wp2_with fail
          refine HM.out.mono ?_; rintro e w3 ⟨m3, h5⟩
          rw [if_neg room] at h5
          obtain ⟨rfl, T3⟩ := h5
          have HS3 := Lib.hid (HS.out.mod m3 T3)
          clear T3 m3 HM HS
          go_wp2_with fail
          go_roundw
          case rel => exact ⟨j + 1, by omega, by simp, ⟨_, HS3.out⟩⟩
          case measure => simp [intOf]; omega
      · have MB := Lib.hid (make_bad HS.out.tab x ok)
        go_wp2_with fail
        refine MB.out.mono ?_; rintro e w3 ⟨rfl, rfl⟩
        go_wp2_with fail
        go_roundw
        case rel => exact ⟨j + 1, by omega, by simp, ⟨_, HS.out⟩⟩
        case measure => simp [intOf]; omega
    · obtain ⟨was, S⟩ := H.out
      have fw := S.few
      have HS := Lib.hid S
      have sh := shape_of S.two.one
      rw [Mp.hands_length] at sh
      obtain ⟨aa, ca, rfl⟩ := sh
      obtain ⟨ab, cb, rfl⟩ := shape_of S.two.two
      have M15 := Lib.hid (map15_it S.tab W.heap.size n S.cap S.gb.2.2.2 (fun q hq => by
          rw [lies_length 256 was fw] at hq
          by_cases e : q < was.length
          · rw [lies_in 256 was q e]
            have := HS.out.fine _ (show was.getD q 0 ∈ was by rw [List.getD_eq_getElem?_getD, List.getElem?_eq_getElem e]; exact List.getElem_mem e)
            simp only; omega
          · rw [lies_out 256 was q (by omega) hq]; simp))
      clear S H
      have hc : (j < len ∧ ¬ j < 300) ∨ ¬ j < len := by omega
      rcases hc with ⟨l1, l2⟩ | l1
      all_goals
        go_wp2_with fail
        refine M15.out.mono ?_; rintro e w3 ⟨rfl, T3, m3⟩
        have HT3 := Lib.hid T3
        have D3 := Lib.hid (HS.out.two.mod m3 (fun x hx => by simp at hx; subst hx; exact HS.out.gb.2.1))
        have C3 := Lib.hid (Kit.keep HS.out.cap m3 (by simp; exact HS.out.gb.2.2.2))
        have B3 := Lib.hid (Kit.step1 HS.out.bel m3 HS.out.old.2)
        clear T3 m3
        go_wp2_with fail
        refine (mapNil_it g).mono ?_; rintro e w4 ⟨rfl, rfl⟩
        go_wp2_with fail
        have cl1 := Lib.hid (fun (q : Nat) (hq : q < (Mp.hands was.length).length) => fun (g' : Nat) (hg' : aa = some ⟨g', 0, none⟩) => D3.out.one.cells (g := g') (by rw [hg']; rfl) q _ (ints_get (Mp.hands was.length) q hq))
        have cl2 := Lib.hid (fun (q : Nat) (hq : q < was.length) => fun (g' : Nat) (hg' : ab = some ⟨g', 0, none⟩) => D3.out.two.cells (g := g') (by rw [hg']; rfl) q _ (ints_get was q hq))
        have ad1 := Lib.hid (fun (h0 : 0 < (Mp.hands was.length).length) => own_addr D3.out.one h0)
        have ad2 := Lib.hid (fun (h0 : 0 < was.length) => own_addr D3.out.two h0)
        have hl := hands_length was.length
        go_loopw [12, 13, 14, 15] (fun c _ _ _ wr' => ∃ q : Nat, q ≤ was.length ∧ c = .int .i64 q ∧ Hid (wr'.heap = w4.heap ∧ Below W.heap.size W wr')) (fun c _ _ _ _ => was.length - (intOf c).toNat)
        case atStart => exact ⟨0, by omega, rfl, ⟨rfl, B3.out⟩⟩
        case round =>
          obtain ⟨q, hq, rfl, HW⟩ := hrel
          by_cases ql : q < was.length
          · obtain ⟨ga, cpa, ea, _⟩ := ad1.out (by omega)
            obtain ⟨gb, cpb, eb, _⟩ := ad2.out (by omega)
            simp only [Value.slice.injEq] at ea eb
            obtain ⟨rfl, hq1, rfl⟩ := ea
            obtain ⟨rfl, hq2, rfl⟩ := eb
            clear hq1 hq2
            have c1 := cl1.out q (by omega) ga rfl
            have c2 := cl2.out q ql gb rfl
            rw [Addr.add_lit, Nat.zero_add] at c1 c2
            rw [Mp.hands_get _ _ ql] at c1
            have hx := HS.out.fine _ (show was.getD q 0 ∈ was by rw [List.getD_eq_getElem?_getD, List.getElem?_eq_getElem ql]; exact List.getElem_mem ql)
            have tw := turned_want n 256 was q ql fw (by omega)
            have hb := Kit.cells1 C3.out
            generalize was.getD q 0 = x at c2 hx tw
            have ce : ∀ p, wr.cell? p = w4.cell? p := fun p => by unfold World.cell?; rw [HW.out.1]
            rw [← ce] at c1 c2 hb
            clear ce
            have BY := Lib.hid (fun w => by_it w x n (by omega) (by omega))
            have hq256 : ((256 + (q : Int)) % 256).toNat = q := by omega
            have hG : good (turned n (lies 256 was)) (256 + (q : Int)) := by
              unfold good
              rw [hq256, tw, turned_length, lies_length 256 was fw]
              refine ⟨by omega, by omega, ?_, by omega⟩
              show want x n ≠ 0
              unfold want
              split <;> omega
            have GT := Lib.hid (fun (w' : World) (hw' : w'.heap = w4.heap) => show Calls Try.prog 12 #[.pointer (some ⟨g, 0, none⟩), .int .i64 (256 + (q : Int))] w' fun e w'' => e = .returned (.tuple #[.int .i64 (want x n), .int .i64 0]) ∧ w'' = w' by
              have := get_it (w := w') (g := g) (r := r) (xs := turned n (lies 256 was)) ⟨by rw [hw']; exact HT3.out.tab, by rw [hw']; exact HT3.out.row, HT3.out.ne, HT3.out.short⟩ (256 + (q : Int)) (by omega)
              rw [if_pos hG, if_pos hG, hq256, tw] at this
              exact this)
            clear tw hG hq256
            have three : (byV x n < 1 ∧ want x n = x) ∨ ((¬ byV x n < 1 ∧ 524288 < byV x n) ∧ want x n = x) ∨ ((¬ byV x n < 1 ∧ ¬ 524288 < byV x n) ∧ want x n = byV x n) := by
              unfold want
              by_cases a : byV x n < 1
              · exact .inl ⟨a, by rw [if_neg (by omega)]⟩
              · by_cases b : 524288 < byV x n
                · exact .inr (.inl ⟨⟨a, b⟩, by rw [if_neg (by omega)]⟩)
                · exact .inr (.inr ⟨⟨a, b⟩, by rw [if_pos (by omega)]⟩)
            generalize want x n = wv at three GT
            generalize byV x n = bv at three BY
            rcases three with ⟨v1, rfl⟩ | ⟨⟨v1, v2⟩, rfl⟩ | ⟨⟨v1, v2⟩, rfl⟩
            all_goals
              go_wp2_with fail
              go_quiet (first | (go_at_call 16; refine Calls.quiet_of_same (BY.out _)))
              go_wp2_with fail
              refine (GT.out _ (by exact HW.out.1)).mono ?_; rintro e w7 ⟨rfl, rfl⟩
              go_wp2_with fail
              go_roundw
              case rel => exact ⟨q + 1, by omega, by simp, ⟨HW.out.1, Kit.drawB HW.out.2 _⟩⟩
              case measure => simp [intOf]; omega
          · have T7 : Tab wr g r (turned n (lies 256 was)) := ⟨by rw [HW.out.1]; exact HT3.out.tab, by rw [HW.out.1]; exact HT3.out.row, HT3.out.ne, HT3.out.short⟩
            have LN := len_it T7
            rw [live_len n was (fun y hy => (HS.out.fine y hy))] at LN
            have HL := Lib.hid LN
            clear LN T7
            go_wp2_with fail
            refine HL.out.mono ?_; rintro e w8 ⟨rfl, b8⟩
            have B8 := Lib.hid (Kit.stepB HW.out.2 b8)
            clear b8
            go_wp2_with fail
            go_ret
            exact ⟨rfl, B8.out⟩
end Go.Proofs.Ytbjlmhkjlipnmaa.Mw
