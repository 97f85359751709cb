/- Pointers are turned from the lowest frame up, each once: the law StackMaps answers true for every list of frames. No condition. -/
import Derived.Test.YtedkackmccnkfaaMk
import Derived.Test.YtedkackmccnkfaaAw
import Derived.Deep.AppendSrc
import Derived.Maps.AppendAt
set_option linter.unusedVariables false
set_option linter.unusedSimpArgs false
namespace Go.Proofs.Ytedkackmccnkfaa.LawMaps
open Go.RowKit Go.Shelf
open Fr Fs Ft Ar Sk Pu Pv Fa Po Nw Bk Fz Fy Mq Mj Mk
theorem ints_one (l : List Int) : ∀ u ∈ ints l, u.oneCell' = true := fun u hu => by
  unfold ints at hu
  rw [List.mem_map] at hu
  obtain ⟨x, _, rfl⟩ := hu
  rfl
/-- A slice's numbers behind a row's. -/
theorem run_sl {w : World} (base : Nat) (ty : TypeId) (v : Value) (n : Nat) (xs ys : List Int) (p : Option Addr) (c : Nat) (hown : w.ownsRow base 3 1 v n (ints xs)) (S : Sl w p ys) (hl : n + ys.length ≤ 1000000) (hb : base ≤ w.heap.size) :
    ∃ v' w', (Builtin.append_ #[22, 22] ty #[v, .slice p ys.length c]).run Try.prog w = .ok v' w' ∧ w'.ownsRow base 3 1 v' (n + ys.length) (ints (xs ++ ys)) ∧ w.grownBy w' v.ownBlock := by
  obtain ⟨i0, hi, hz0, hz1, hz2⟩ := info_parts infoI
  have e : ints (xs ++ ys) = ints xs ++ ints ys := by simp [ints]
  rw [e]
  by_cases h0 : ys.length = 0
  · have hy : ys = [] := List.eq_nil_of_length_eq_zero h0
    subst hy
    have hl0 : ∀ (x : Addr) (w : World), (loadCells x 0).run Try.prog w = .ok #[] w := fun x w => by simpa using run_loadCells_list (P := Try.prog) w x [] (by simp)
    have hsrc : Src Try.prog i0.size 22 (.slice p 0 c) 0 [] w := by
      rcases p with _ | a
      · exact Src.ofNil w Try.underlying22 c
      · exact Src.ofSlice w Try.underlying22 a 0 c [] (by simp) (fun j u hj => by simp at hj) (fun u hu => by simp at hu)
    rw [show ints [] = [] from rfl, List.append_nil, List.length_nil, Nat.add_zero]
    rcases hown.2 with ⟨rfl, rfl⟩ | ⟨g, cap, cur, rfl, hbg, hg, hnc, hcm, hcs, htake⟩
    · refine ⟨.slice none 0 0, w, ?_, hown, ⟨rfl, rfl, rfl, Nat.le_refl _, fun _ _ _ => rfl⟩⟩
      rcases p with _ | a
      · simp [Builtin.append_, run_underlying Try.underlying22, sizeOf, typeInfo, hi, Builtin.lenOf, Builtin.firstCells, loadCells, loadCellsFrom]
      · simp [Builtin.append_, run_underlying Try.underlying22, sizeOf, typeInfo, hi, Builtin.lenOf, Builtin.firstCells, hl0]
    · exact ⟨_, _, run_append_room_src w 22 22 ty 3 i0 Try.underlying22 hi g 0 n cap (.slice p 0 c) 0 [] hsrc (by omega) (fun j hj => by simp at hj) (fun j hj => by simp at hj), hown, ⟨rfl, rfl, rfl, Nat.le_refl _, fun _ _ _ => rfl⟩⟩
  · obtain ⟨b, off, rfl, hbl, hc⟩ := S.cells (by omega)
    obtain ⟨v', w', hr, h2, h3, _, h4⟩ := run_append_own_at (P := Try.prog) w base 22 ty 3 i0 (.int .i64 0) 1 8 Try.underlying22 hi hz0 hz1 hz2 rfl (by decide) v n (ints xs) hown ⟨b, off, none⟩ ys.length c (ints ys) (by simp [ints])
      (fun j u hj => by
        have hjl : j < ys.length := by have := (List.getElem?_eq_some_iff.1 hj).1; simpa [ints] using this
        rw [ints_get ys j hjl] at hj
        cases hj
        rw [Addr.add_lit]
        exact hc j hjl) (ints_one ys) (by unfold maxLen; omega) (by omega) hb
    exact ⟨v', w', hr, h2, h3⟩
/-- What the law's function gathers: the blocks C are its own. -/
def JJ (m : Nat) (ps : List Int) (k : Nat) (C : Nat → Prop) (w : World) : Prop :=
  k ≤ ps.length ∧ ∃ v, w.heap[m]? = some (.cells #[v] 22 (0, 0)) ∧ w.ownsRow 0 3 1 v k (ints (ps.take k)) ∧ ∀ c, C c ↔ (c = m ∨ v.ownBlock = some c)
set_option maxHeartbeats 2000000 in
set_option maxRecDepth 100000 in
theorem met_it (w : World) (m : Nat) (ps : List Int) (k : Nat) (C : Nat → Prop) (hps : ps.length ≤ 100000) (h : JJ m ps k C w) (hk : k < ps.length) :
    Calls Try.prog 25 #[.int .i64 (ps.getD k 0), .pointer (some ⟨m, 0, none⟩)] w fun e w' => e = .returned (.int .i64 ((k : Int) + 1)) ∧ ∃ C', JJ m ps (k + 1) C' w' ∧ (∀ c, C' c → C c ∨ w.heap.size ≤ c) ∧ ModP C w w' := by
  obtain ⟨i0, hi, hz0, hz1, hz2⟩ := info_parts infoI
  obtain ⟨-, v, hb, ho, hC⟩ := h
  obtain ⟨aa, ca, rfl⟩ := shape_of ho
  have c1 := Kit.cells1 hb
  have HO := Lib.hid ho
  have HB := Lib.hid hb
  have HC := Lib.hid hC
  have hms := Kit.lt_of hb
  have TK : Hid (ints (ps.take (k + 1)) = ints (ps.take k) ++ [.int .i64 (ps.getD k 0)]) := by
    rw [List.take_succ_eq_append_getElem hk, List.getD_eq_getElem?_getD, List.getElem?_eq_getElem hk]
    unfold ints
    rw [List.map_append]
    rfl
  have FAR := Lib.hid (own_blk ho hb (by decide))
  clear ho hb hC
  generalize ps.getD k 0 = y at *
  go_enter Try.func25, Try.ntmps25
  go_wp2_with (at_builtin; go_loud (refine wpList_append_own_at _ rfl _ _ 22 rfl 0 3 i0 (.int .i64 0) 1 8 Try.underlying22 hi hz0 hz1 hz2 rfl (by decide) _ _ _ rfl (HO.out.alloc _) ⟨w.heap.size, 0, none⟩ 1 1 [.int .i64 y] rfl rfl (cell_one_new w (.int .i64 y) 3) (fun x hx => by simp at hx; subst hx; rfl) (by unfold maxLen; omega) (by omega) (by omega) ?_))
  intro v' w5 hown' hgrow _ hat
  obtain ⟨aa', ca', rfl⟩ := shape_of hown'
  have b5 : w5.heap[m]? = some (.cells #[.slice aa k ca] 22 (0, 0)) := (hgrow.block m (by simp; omega) (fun e => by
    rcases FAR.out with e2 | e2
    · rw [e2] at e; cases e
    · exact e2 e.symm)).trans (Kit.keep_alloc HB.out _)
  have c5 := Kit.cells1 b5
  have f5 := Kit.frozen_of b5 0
  have gr : w5.grownBy (w5.setCell ⟨m, 0, none⟩ (.slice aa' (k + 1) ca')) (some m) := ⟨rfl, rfl, rfl, by simp [World.setCell], fun j hj hne => Below.heap_setCell w5 _ _ j (fun e => hne (by simp [e]))⟩
  have J2 : Hid (JJ m ps (k + 1) (fun c => c = m ∨ (Value.slice aa' (k + 1) ca').ownBlock = some c) (w5.setCell ⟨m, 0, none⟩ (.slice aa' (k + 1) ca'))) :=
    ⟨by omega, _, by rw [Kit.set_blk b5]; rfl, by rw [TK.out]; exact hown'.kept gr (own_blk hown' b5 (by decide)), fun c => Iff.rfl⟩
  have D2 : Hid (∀ c, (c = m ∨ (Value.slice aa' (k + 1) ca').ownBlock = some c) → C c ∨ w.heap.size ≤ c) := fun c hc => by
    rcases hc with rfl | hc
    · exact .inl ((HC.out _).2 (.inl rfl))
    · rcases hat with h | h
      · exact .inl ((HC.out c).2 (.inr (h ▸ hc)))
      · right; rw [h] at hc; cases hc; omega
  have M2 : Hid (ModP C w (w5.setCell ⟨m, 0, none⟩ (.slice aa' (k + 1) ca'))) :=
    (((ModP.refl C w).alloc (.cells #[.int .i64 y] 3)).trans (ModP.of_grown (K := C) hgrow (fun j hj => (HC.out j).2 (.inr hj))) (fun _ _ c => c)).setCell (.inl ((HC.out m).2 (.inl rfl))) _
  clear hown' hgrow hat b5 gr c1
  go_wp2_with fail
  go_ret
  exact ⟨by simp, _, J2.out, D2.out, M2.out⟩
theorem spec (m : Nat) (ps : List Int) (hps : ps.length ≤ 100000) : FSpec 25 (.pointer (some ⟨m, 0, none⟩)) (JJ m ps) ps (fun k => (k : Int) + 1) where
  eg := enters_of Try.func25 (by kernel_rfl) rfl
  low := fun {k C w} h c hc => by
    obtain ⟨_, v, hb, ho, hC⟩ := h
    rcases (hC c).1 hc with rfl | h
    · exact Kit.lt_of hb
    · exact (ho.lt c h).2
  keep := fun {k C w w'} h hs hk => by
    obtain ⟨h1, v, hb, ho, hC⟩ := h
    refine ⟨h1, v, (hk m ((hC m).2 (.inl rfl))).trans hb, ⟨ho.1, ?_⟩, hC⟩
    rcases ho.2 with h | ⟨g, cap, cur, rfl, hbg, hg, rest⟩
    · exact .inl h
    · exact .inr ⟨g, cap, cur, rfl, hbg, (hk g ((hC g).2 (.inr rfl))).trans hg, rest⟩
  call := fun {k C w} h hk => met_it w m ps k C hps h hk
/-- Where the gathering stands. -/
structure Sg (W w : World) (base g ga r : Nat) (xs : List Int) (L : List Fm) (v : Value) : Prop where
  stk : Stk w g ga r 5 2000 xs L
  own : w.ownsRow base 3 1 v (ptrs L).length (ints (ptrs L))
  bel : Below W.heap.size W w
  siz : base ≤ w.heap.size
  old : W.heap.size ≤ base ∧ W.heap.size ≤ g ∧ W.heap.size ≤ ga ∧ W.heap.size ≤ r
  gb : g < base ∧ ga < base ∧ r < base
section
variable {W w w' : World} {base g ga r : Nat} {xs xs' : List Int} {L L' : List Fm} {v : Value}
theorem Sg.stepB (S : Sg W w base g ga r xs L v) (h : Below w.heap.size w w') : Sg W w' base g ga r xs L v :=
  ⟨Pu.Stk.keepB S.stk h, own_below S.own h, Kit.stepB S.bel h, Nat.le_trans S.siz h.size, S.old, S.gb⟩
theorem ptrs_le (K : Stk w g ga r 5 2000 xs L) : (ptrs L).length ≤ 2000 := by
  have := K.fits.1
  rw [lay_len] at this; omega
/-- A frame is pushed, and its pointers are gathered. -/
theorem Sg.push {w3 w5 : World} {f : Fm} {xs3 : List Int} {v' : Value} (S : Sg W w base g ga r xs L v) (m : Kit.Mod [g, r] w w3) (K : Stk w3 g ga r 5 2000 xs3 (L ++ [f])) (ho : w5.ownsRow base 3 1 v' ((ptrs L).length + f.ps.length) (ints (ptrs L ++ f.ps))) (hg : w3.grownBy w5 v.ownBlock) : Sg W w5 base g ga r xs3 (L ++ [f]) v' := by
  have gb := S.gb
  have old := S.old
  have s3 := m.size
  have siz := S.siz
  have low : ∀ x, x ∈ [g, r] → x < base := fun x hx => by simp at hx; rcases hx with rfl | rfl <;> omega
  have O3 := own_mod S.own m low
  have far : ∀ k, k < base → w5.heap[k]? = w3.heap[k]? := fun k hk => hg.block k (by omega) (fun e => by have := (S.own.lt k e.symm).1; omega)
  have b3 : Below W.heap.size W w3 := Kit.step S.bel m (fun x hx => by simp at hx; rcases hx with rfl | rfl <;> omega)
  refine ⟨Stk.same K (far g gb.1) (far ga gb.2.1) (far r gb.2.2), ?_, b3.grown hg (by omega) (fun k hk => by have := (S.own.lt k hk).1; omega), by have := hg.size; omega, S.old, S.gb⟩
  rw [ptrs_snoc, List.length_append]
  exact ho
end
theorem clip_in (n : Int) (h0 : 0 ≤ n) (h1 : n ≤ 524288) : clip n = n := by unfold clip; rw [if_pos ⟨h0, h1⟩]
set_option maxHeartbeats 4000000 in
set_option maxRecDepth 100000 in
theorem law (W : World) (A : Option Addr) (cap : Nat) (fs : List Fm) (R : FIn W A fs) :
    Calls Try.prog 7 #[.slice A fs.length cap] W fun e W' => e = .returned (.bool true) ∧ Below W.heap.size W W' := by
  have hmx := R.max
  have MD := Lib.hid (made_it W 2000 (by decide) (by decide))
  have HR := Lib.hid R
  clear R
  go_enter Try.func7, Try.ntmps7
  go_wp2_with fail
  refine MD.out.mono ?_; rintro e w1 ⟨g, ga, r, rfl, hold, K1, b1⟩
  have HK1 := Lib.hid K1
  have B1 := Lib.hid b1
  have HO := Lib.hid hold
  clear K1 b1 MD hold
  go_wp2_with fail
  refine (Aw.awake_it _).mono ?_; rintro e w2 ⟨rfl, b2⟩
  have S0 : Hid (Sg W w2 w2.heap.size g ga r (List.replicate 2010 0) [] (.slice none 0 0)) := by
    have K := Pu.Stk.keepB HK1.out b2
    have b := Kit.stepB B1.out b2
    have := b.size
    exact ⟨K, World.ownsRow_nil _ _ _ _, b, Nat.le_refl _, ⟨this, HO.out⟩, ⟨Kit.lt_of K.obj, Kit.lt_of K.own.obj, Kit.lt_of K.own.row⟩⟩
  obtain ⟨base, hbase⟩ : ∃ base, base = w2.heap.size := ⟨_, rfl⟩
  rw [← hbase] at S0
  clear b2 HK1 B1 HO hbase
  go_wp2_with fail
  go_loopg [5, 6] 50 (fun k v c wr => ∃ j : Nat, (j ≤ fs.length ∧ j ≤ 50 ∧ k = 50 - j) ∧ c = .int .i64 j ∧ Hid (∃ xs L, Sg W wr base g ga r xs L v ∧ L.length ≤ j))
  case atStart => exact ⟨0, ⟨by omega, by omega, rfl⟩, rfl, _, [], S0.out, by simp⟩
  case round =>
    obtain ⟨j, ⟨hj, hj2, rfl⟩, rfl, H⟩ := hrel
    obtain ⟨xs, L, S, hfew⟩ := H.out
    have HS := Lib.hid S
    obtain ⟨aa, ca, rfl⟩ := shape_of S.own
    clear S H
    by_cases hlt : j < fs.length ∧ j < 50
    · obtain ⟨l1, l2⟩ := hlt
      obtain ⟨bb, off, rfl, hb, hc⟩ := HR.out.cells (by omega)
      obtain ⟨⟨⟨k, a, b, ps⟩, p, c⟩, -, S1, hln, c0, c1, c2, c3⟩ := hc j l1
      simp only at S1 hln c0 c1 c2 c3
      have BL := Lib.hid HS.out.bel
      replace c0 := (BL.out.cell (p := ⟨bb, off + j * 4, none⟩) hb).trans c0
      replace c1 := (BL.out.cell (p := ⟨bb, off + j * 4 + 1, none⟩) hb).trans c1
      replace c2 := (BL.out.cell (p := ⟨bb, off + j * 4 + 2, none⟩) hb).trans c2
      replace c3 := (BL.out.cell (p := ⟨bb, off + j * 4 + 3, none⟩) hb).trans c3
      have SW := Lib.hid S1
      have SN := Lib.hid (S1.keepB BL.out)
      clear hc S1
      by_cases h0 : rightE k a b ps ≠ 0
      · have PN := push_no HS.out.stk k a b p c ps SN.out hln h0
        generalize rightE k a b ps = er at PN h0
        have e0 : (er == 0) = false := beq_eq_false_iff_ne.2 h0
        unfold frameV at PN
        have PN := Lib.hid PN
        rename_i PN2
        clear PN2 h0
        go_wp2_with fail
        refine PN.out.mono ?_; rintro e w3 ⟨rfl, b3⟩
        have S3 := Lib.hid (HS.out.stepB b3)
        clear b3
        go_wp2_with fail
        go_roundg (50 - (j + 1))
        case measure => omega
        case rel => exact ⟨j + 1, ⟨by omega, by omega, rfl⟩, by simp, _, _, S3.out, by omega⟩
      · have h1 : rightE k a b ps = 0 := by omega
        clear h0
        by_cases room : 2000 < (lay L).length + (ps.length + 1)
        · have PF := push_full HS.out.stk k a b p c ps SN.out hln (by decide) h1 room
          unfold frameV at PF
          have PF := Lib.hid PF
          rename_i PF2
          clear PF2
          go_wp2_with fail
          refine PF.out.mono ?_; rintro e w3 ⟨rfl, b3⟩
          have S3 := Lib.hid (HS.out.stepB b3)
          clear b3
          go_wp2_with fail
          go_roundg (50 - (j + 1))
          case measure => omega
          case rel => exact ⟨j + 1, ⟨by omega, by omega, rfl⟩, by simp, _, _, S3.out, by omega⟩
        · have PK := push_ok HS.out.stk k a b p c ps SN.out (fun h0 b' off' e => by
            obtain ⟨b2, o2, e2, hb2, _⟩ := SW.out.cells h0
            rw [e2] at e
            simp at e
            have := HS.out.old
            omega) (by decide) h1 (by omega)
          unfold frameV at PK
          have PK := Lib.hid PK
          rename_i PK2
          have hps : ps.length ≤ 1000 := (Sk.Good.bounds (f := ⟨k, a, b, ps⟩) h1).2.2.2.1
          have hpt := ptrs_le HS.out.stk
          clear PK2 room
          go_wp2_with fail
          refine PK.out.mono ?_; rintro e w3 ⟨rfl, m3, K3⟩
          have HM3 := Lib.hid m3
          have HK3 := Lib.hid K3
          have gb := HS.out.gb
          have old := HS.out.old
          have bw3 : Below W.heap.size W w3 := Kit.step HS.out.bel m3 (fun x hx => by simp at hx; rcases hx with rfl | rfl <;> omega)
          have b0 := (bw3.cell (p := ⟨bb, off + j * 4, none⟩) hb).trans ((BL.out.cell (p := ⟨bb, off + j * 4, none⟩) hb).symm.trans c0)
          have b1 := (bw3.cell (p := ⟨bb, off + j * 4 + 1, none⟩) hb).trans ((BL.out.cell (p := ⟨bb, off + j * 4 + 1, none⟩) hb).symm.trans c1)
          have b2 := (bw3.cell (p := ⟨bb, off + j * 4 + 2, none⟩) hb).trans ((BL.out.cell (p := ⟨bb, off + j * 4 + 2, none⟩) hb).symm.trans c2)
          have b3 := (bw3.cell (p := ⟨bb, off + j * 4 + 3, none⟩) hb).trans ((BL.out.cell (p := ⟨bb, off + j * 4 + 3, none⟩) hb).symm.trans c3)
          obtain ⟨v', w5, hrun, ho5, hg5⟩ := run_sl (w := w3) base 22 (.slice aa (ptrs L).length ca) (ptrs L).length (ptrs L) ps p c (own_mod HS.out.own m3 (fun x hx => by simp at hx; rcases hx with rfl | rfl <;> omega)) (SW.out.keepB bw3) (by omega) (by have := m3.size; have := HS.out.siz; omega)
          obtain ⟨aa', ca', rfl⟩ := shape_of ho5
          have HRUN := Lib.hid hrun
          have S5 := Lib.hid (HS.out.push m3 K3 ho5 hg5)
          have e5 : (ptrs (L ++ [(⟨k, a, b, ps⟩ : Fm)])).length = (ptrs L).length + ps.length := by rw [ptrs_snoc, List.length_append]
          have E5 := Lib.hid e5
          clear m3 K3 c0 c1 c2 c3 PK hrun ho5 hg5 e5 bw3
          go_wp2_with (at_builtin; go_loud (refine Rw.wp_append rfl _ _ _ _ _ _ rfl rfl rfl HRUN.out ?_))
          go_wp2_with fail
          go_roundg (50 - (j + 1))
          case measure => omega
          case rel => exact ⟨j + 1, ⟨by omega, by omega, rfl⟩, by simp, _, _, S5.out, by simp; omega⟩
    · have hc : (j < fs.length ∧ ¬ j < 50) ∨ ¬ j < fs.length := by omega
      rcases hc with ⟨l1, l2⟩ | l1
      all_goals
        have hpt := ptrs_le HS.out.stk
        have hgo := HS.out.old.2.1
        have M0 : Hid (∀ o : Obj, o = .cells #[.slice none 0 0] 22 (0, 0) → Calls Try.prog 24 #[.pointer (some ⟨g, 0, none⟩), .func (.func 25) #[] #[.pointer (some ⟨wr.heap.size, 0, none⟩)]] (wr.alloc o) fun e w' => e = .returned (.tuple #[]) ∧ ∃ xs' v', Stk w' g ga r 5 2000 xs' (refL (fun k => (k : Int) + 1) 0 L) ∧ w'.heap[wr.heap.size]? = some (.cells #[v'] 22 (0, 0)) ∧ w'.ownsRow 0 3 1 v' (ptrs L).length (ints (ptrs L)) ∧ w'.ownsRow base 3 1 (.slice aa (ptrs L).length ca) (ptrs L).length (ints (ptrs L)) ∧ Below W.heap.size W w') := fun o ho => by
          subst ho
          have bA := Kit.allocB (Below.refl wr.heap.size wr) (.cells #[.slice none 0 0] 22 (0, 0))
          have S := HS.out
          have gb := S.gb
          have siz := S.siz
          have old := S.old
          have wsz := S.bel.size
          have J0 : JJ wr.heap.size (ptrs L) 0 (fun c => c = wr.heap.size) (wr.alloc (.cells #[.slice none 0 0] 22 (0, 0))) := ⟨Nat.zero_le _, _, Kit.new_blk _ _, World.ownsRow_nil _ _ _ _, fun c => by simp [Value.ownBlock]⟩
          refine (map_it (spec wr.heap.size (ptrs L) (by omega)) (Pu.Stk.keepB S.stk bA) (by decide) J0 ⟨by omega, by omega, by omega⟩).mono ?_
          rintro e w' ⟨rfl, xs', C', K, -, ⟨-, v', hb, ho, -⟩, -, -, m⟩
          rw [List.take_length] at ho
          have bW : Below W.heap.size W w' := Mq.step (Kit.allocB S.bel (.cells #[.slice none 0 0] 22 (0, 0))) m (fun k hk => by rcases hk with rfl | rfl <;> omega)
          refine ⟨rfl, xs', v', K, hb, ho, ?_, bW⟩
          refine ⟨S.own.1, ?_⟩
          rcases S.own.2 with h | ⟨q, cp, cur, e, hbq, hq, rest⟩
          · exact .inl h
          · have := Kit.lt_of hq
            exact .inr ⟨q, cp, cur, e, hbq, (m.block q (by simp; omega) (by intro h; rcases h with h | h <;> omega)).trans (Kit.keep_alloc hq _), rest⟩
        clear HS
        go_wp2_with fail
        refine (M0.out _ rfl).mono ?_
        rintro e w4 ⟨rfl, xs4, v4, K4, hb4, ho4, hoa, b4⟩
        obtain ⟨a4, c4, rfl⟩ := shape_of ho4
        have cm := Kit.cells1 hb4
        have HK4 := Lib.hid K4
        have HO4 := Lib.hid ho4
        have HOA := Lib.hid hoa
        have HB4 := Lib.hid b4
        have HBM := Lib.hid hb4
        obtain ⟨np, hnp⟩ : ∃ np, np = (ptrs L).length := ⟨_, rfl⟩
        rw [← hnp] at cm hpt HO4 HOA ⊢
        have HNP := Lib.hid hnp
        clear K4 ho4 hoa b4 hb4 M0 hnp
        go_wp2_with fail
        go_loopg [8] np (fun n c wq => ∃ j : Nat, (j ≤ np ∧ n = np - j) ∧ c = .int .i64 j ∧ Hid (∃ nq, wq = w4.drewN nq))
        case atStart => exact ⟨0, ⟨Nat.zero_le _, rfl⟩, rfl, 0, rfl⟩
        case round =>
          obtain ⟨j, ⟨hj, rfl⟩, rfl, HN⟩ := hrel
          obtain ⟨nn, hnn⟩ := HN.out
          by_cases hlt : j < np
          · obtain ⟨q1, rfl, h11, h12, h13⟩ := row_cell HO4.out j (by rw [← HNP.out]; exact hlt)
            obtain ⟨q2, rfl, h21, h22, h23⟩ := row_cell HOA.out j (by rw [← HNP.out]; exact hlt)
            have e1 := h13 wr (by rw [hnn]; rfl)
            have e2 := h23 wr (by rw [hnn]; rfl)
            have e0 : wr.cell? ⟨_, 0, none⟩ = _ := (World.cell?_of_block (w := w4) (a := ⟨_, 0, none⟩) (by rw [hnn]; rfl)).trans cm
            have HNN := Lib.hid hnn
            generalize (ptrs L).getD j 0 = y at e1 e2
            have lb : (j : Int) < np := by omega
            have lb2 : (0 : Int) ≤ j := by omega
            unfold maxLen at h12 h22
            clear h13 h23 hnn HN cm
            go_wp2_with fail
            go_quiet (fail)
            go_wp2_with fail
            go_roundg (np - (j + 1))
            case measure => omega
            case rel => exact ⟨j + 1, ⟨by omega, rfl⟩, by simp, ⟨nn + nq, by rw [HNN.out]; simp [World.drewN, Nat.add_assoc]⟩⟩
          · have KN : Hid (∃ xs', Stk wr g ga r 5 2000 xs' (refL (fun k => (k : Int) + 1) 0 L) ∧ Below W.heap.size W wr) := by
              rw [hnn]; exact ⟨_, Pu.Stk.heap HK4.out rfl, Kit.drawB HB4.out _⟩
            clear hnn HN cm HK4 HO4 HOA HB4 HBM
            go_wp2_with fail
            go_loopg [9] L.length (fun n c wz => ∃ L1 L2, (L = L1 ++ L2 ∧ n = L1.length) ∧ c = .int .i64 (ptrs L1).length ∧ Hid (∃ xs', Stk wz g ga r 5 2000 xs' (refL (fun k => (k : Int) + 1) 0 L1) ∧ Below W.heap.size W wz))
            case atStart => exact ⟨L, [], ⟨by simp, rfl⟩, by rw [HNP.out], KN.out⟩
            case round =>
              obtain ⟨L1, L2, ⟨hL, rfl⟩, rfl, HZ⟩ := hrel
              obtain ⟨xs6, K6, b6⟩ := HZ.out
              have LN := len_it K6
              rw [refL_length] at LN
              have HB6 := Lib.hid b6
              have HL := Lib.hid hL
              have hpl : (ptrs L1).length ≤ np := by rw [HNP.out, hL]; simp [ptrs]
              clear b6 HZ hL KN
              rcases nil_or_snoc L1 with rfl | ⟨L1, f, rfl⟩
              · have LN := Lib.hid LN
                rename_i LN2
                rw [show (ptrs []).length = 0 from rfl]
                clear LN2 K6
                go_wp2_with fail
                refine LN.out.mono ?_; rintro e w7 ⟨rfl, rfl⟩
                go_wp2_with fail
                go_ret
                exact ⟨rfl, HB6.out⟩
              · rw [refL_snoc] at K6
                have PO := pop_it K6 (by decide)
                have HK6 := Lib.hid K6
                have HL' : Hid (L = L1 ++ (f :: L2)) := HL.out.trans (by simp)
                rw [ptrs_snoc, List.length_append] at hpl ⊢
                rw [show (L1 ++ [f]).length = L1.length + 1 by simp] at LN
                have LN := Lib.hid LN
                rename_i LN2
                obtain ⟨cc, hcc⟩ : ∃ cc, cc = (ptrs L1).length := ⟨_, rfl⟩
                rw [← hcc] at PO hpl ⊢
                have HCC := Lib.hid hcc
                obtain ⟨k, a, b, ps⟩ := f
                have EV : Hid (∀ j, j < ps.length → (mixP ps (fun k => (k : Int) + 1) cc ps.length).getD j 0 = (cc : Int) + ((j : Int) + 1)) := fun j hj => by
                  rw [mixP_get _ _ _ _ _ hj, if_pos hj, clip_in _ (by omega) (by simp at hpl; omega)]
                  omega
                unfold frameV at PO
                simp only [refF, refK, mixP_length] at PO hpl
                have PO := Lib.hid PO
                rename_i PO2
                clear PO2 LN2 K6 hcc HL
                go_wp2_with fail
                refine LN.out.mono ?_; rintro e w7 ⟨rfl, rfl⟩
                go_wp2_with fail
                refine PO.out.mono ?_; rintro e w8 ⟨p, c, rfl, own8, m8, K8⟩
                have B8 := Lib.hid (Kit.step1 HB6.out m8 hgo)
                have N9 := Lib.hid (Kit.new_blk w8 (.cells #[.int .i64 k, .int .i64 a, .int .i64 b, .slice p ps.length c] 24 (0, 0)))
                have bA := Kit.allocB (Below.refl w8.heap.size w8) (.cells #[.int .i64 k, .int .i64 a, .int .i64 b, .slice p ps.length c] 24 (0, 0))
                have HK9 := Lib.hid (Pu.Stk.keepB K8 bA)
                have O9 := Lib.hid (own_below own8 bA)
                have B9 := Lib.hid (Kit.allocB B8.out (.cells #[.int .i64 k, .int .i64 a, .int .i64 b, .slice p ps.length c] 24 (0, 0)))
                clear own8 m8 K8 bA PO
                go_wp2_with fail
                generalize hw9 : w8.alloc _ = w9 at *
                have c9 := Kit.cells4 N9.out
                clear hw9
                go_loopg [9, 12] ps.length (fun n c9 c12 wy => ∃ j : Nat, (j ≤ ps.length ∧ n = 0 + j) ∧ (c9 = .int .i64 ((cc : Int) + j) ∧ c12 = .int .i64 ((j : Int) - 1)) ∧ w9 = wy)
                case atStart => exact ⟨ps.length, ⟨Nat.le_refl _, by omega⟩, ⟨by simp, rfl⟩, rfl⟩
                case round =>
                  obtain ⟨j, ⟨hj, rfl⟩, ⟨rfl, rfl⟩, rfl⟩ := hrel
                  by_cases hpos : 0 < j
                  · obtain ⟨j', rfl⟩ : ∃ j', j = j' + 1 := ⟨j - 1, by omega⟩
                    obtain ⟨q1, rfl, h11, h12, h13⟩ := row_cell O9.out j' (by rw [mixP_length]; omega)
                    have e1 := h13 w9 rfl
                    rw [EV.out j' (by omega)] at e1
                    rw [show ((j' + 1 : Nat) : Int) - 1 = (j' : Int) by omega]
                    have lb : (j' : Int) < ps.length := by omega
                    have lb2 : (0 : Int) ≤ j' := by omega
                    unfold maxLen at h12
                    clear h13
                    go_wp2_with fail
                    go_roundg (0 + j')
                    case measure => omega
                    case rel => exact ⟨j', ⟨by omega, rfl⟩, ⟨by simp; omega, rfl⟩, rfl⟩
                  · obtain rfl : j = 0 := by omega
                    go_wp2_with fail
                    go_roundg L1.length
                    case measure => simp
                    case rel => exact ⟨L1, _, ⟨HL'.out, rfl⟩, by simp [← HCC.out], _, HK9.out, B9.out⟩
end Go.Proofs.Ytedkackmccnkfaa.LawMaps
