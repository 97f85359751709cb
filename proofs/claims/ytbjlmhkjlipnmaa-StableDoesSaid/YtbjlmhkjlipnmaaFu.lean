/- A table that is filled, and one slot freed: the law StableFull answers true for every two numbers. No condition. -/
import Derived.Test.YtbjlmhkjlipnmaaAw
set_option linter.unusedVariables false
set_option linter.unusedSimpArgs false
namespace Go.Proofs.Ytbjlmhkjlipnmaa.Fu
open Go.RowKit Go.WideShapes
open Sr Tb Tf Tg Tm Ta
theorem own_mod {w w' : World} {b : Nat} {v : Value} {n : Nat} {ys : List Value} {S : List Nat} (h : w.ownsRow b 3 1 v n ys) (m : Kit.Mod S w w') (hs : ∀ x, x ∈ S → x < b) : w'.ownsRow b 3 1 v n ys := by
  refine ⟨h.1, ?_⟩
  rcases h.2 with hn | ⟨g, cap, cur, rfl, hb, hg, rest⟩
  · exact .inl hn
  · exact .inr ⟨g, cap, cur, rfl, hb, Kit.keep hg m (fun hm => by have := hs g hm; omega), rest⟩
theorem own_addr {w : World} {b : Nat} {v : Value} {n : Nat} {ys : List Value} (h : w.ownsRow b 3 1 v n ys) (hn : 0 < n) : ∃ q cp, v = .slice (some ⟨q, 0, none⟩) n cp ∧ b ≤ q := by
  rcases h.2 with ⟨_, h⟩ | ⟨q, cap, cur, h, hb, _⟩
  · omega
  · exact ⟨q, cap, h, hb⟩
theorem tab_at {w w' : World} {b g r : Nat} {xs : List (Int × Int)} (T : Tab w g r xs) (m : Below b w w') (hg : g < b) (hr : r < b) : Tab w' g r xs :=
  ⟨(m.block g hg).trans T.tab, (m.block r hr).trans T.row, T.ne, T.short⟩
/-- After i makings. -/
def full (n i : Nat) : List (Int × Int) := (List.range n).map fun q => if q < i then ((q : Int) + 1, (1 : Int)) else (0, 1)
theorem full_length (n i : Nat) : (full n i).length = n := by simp [full]
theorem full_get (n i q : Nat) (h : q < n) : (full n i).getD q (0, 0) = if q < i then ((q : Int) + 1, (1 : Int)) else (0, 1) := by
  simp [full, List.getD_eq_getElem?_getD, h]
theorem full_zero (n : Nat) : full n 0 = List.replicate n (0, 1) := by
  apply List.ext_getElem
  · simp [full]
  · intro j h1 h2; simp [full]
theorem full_succ (n i : Nat) (h : i < n) : (full n i).set i ((i : Int) + 1, 1) = full n (i + 1) := by
  apply List.ext_getElem
  · simp [full]
  · intro j h1 h2
    simp only [full, List.getElem_set, List.getElem_map, List.getElem_range]
    by_cases e : i = j
    · subst e; simp
    · rw [if_neg e]
      by_cases f : j < i
      · rw [if_pos f, if_pos (by omega)]
      · rw [if_neg f, if_neg (by omega)]
/-- The handles told. -/
def hands (i : Nat) : List Value := (List.range i).map fun (q : Nat) => Value.int .i64 (256 + (q : Int))
theorem hands_succ (i : Nat) : hands (i + 1) = hands i ++ [.int .i64 (256 + (i : Int))] := by simp [hands, List.range_succ]
theorem hands_get (i q : Nat) (h : q < i) : (hands i)[q]? = some (.int .i64 (256 + (q : Int))) := by simp [hands, h]
theorem live_full (xs : List (Int × Int)) (h : ∀ q, q < xs.length → (xs.getD q (0, 0)).1 ≠ 0) : (live xs).length = xs.length := by
  unfold live
  rw [List.length_map, List.filter_eq_self.2]
  intro a ha
  obtain ⟨q, hq, rfl⟩ := List.getElem_of_mem ha
  have := h q hq
  simp [List.getD_eq_getElem?_getD, hq] at this
  simpa using this
theorem law (W : World) (a b : Int) (a0 : 0 ≤ a) (a1 : a ≤ 255) (b0 : 0 ≤ b) (b1 : b ≤ 255) :
    Calls Try.prog 4 #[.int .u8 a, .int .u8 b] W fun e W' => e = .returned (.bool true) ∧ Below W.heap.size W W' := by
  obtain ⟨i0, hi, hz0, hz1, hz2⟩ := info_parts info3
  obtain ⟨n, hn⟩ := Int.eq_ofNat_of_zero_le (show 0 ≤ a + 1 by omega)
  obtain ⟨k, hk⟩ := Int.eq_ofNat_of_zero_le (show 0 ≤ b % (n : Int) from Int.emod_nonneg _ (by omega))
  have hkn : k < n := by have := Int.emod_lt_of_pos b (show 0 < (n : Int) by omega); omega
  have hn2 : 1 ≤ n ∧ n ≤ 256 := by omega
  have e1 : b.tmod (n : Int) = (k : Int) := by rw [Int.tmod_eq_emod_of_nonneg b0]; exact hk
  have A := Lib.hid (new_it W n hn2.1 hn2.2)
  have HK := Lib.hid hk
  clear hk
  go_enter Try.func4, Try.ntmps4
  go_wp2_with fail
  refine A.out.mono ?_; rintro e w1 ⟨g, r, rfl, T1, hg, hr, b1⟩
  have T1' := Lib.hid T1
  have B1 := Lib.hid b1
  clear T1 b1
  go_wp2_with fail
  refine (Aw.awake_it _).mono ?_; rintro e w2 ⟨rfl, b2⟩
  have hgr : g < w2.heap.size ∧ r < w2.heap.size := ⟨Nat.lt_of_lt_of_le (Kit.lt_of T1'.out.tab) b2.size, Nat.lt_of_lt_of_le (Kit.lt_of T1'.out.row) b2.size⟩
  have T2 := Lib.hid (T1'.out.keepB b2)
  have B2 := Lib.hid (Kit.stepB B1.out b2)
  clear b2 T1' B1
  go_wp2_with fail
  go_loopw [8, 9] (fun v c wr => ∃ j : Nat, j ≤ n ∧ c = .int .i64 j ∧ Hid (Tab wr g r (full n j) ∧ wr.ownsRow w2.heap.size 3 1 v j (hands j) ∧ Below W.heap.size W wr ∧ w2.heap.size ≤ wr.heap.size)) (fun _ c _ => n - (intOf c).toNat)
  case atStart => exact ⟨0, Nat.zero_le _, rfl, ⟨by rw [full_zero]; exact T2.out, World.ownsRow_nil _ _ _ _, B2.out, Nat.le_refl _⟩⟩
  case round =>
    obtain ⟨j, hj, rfl, H⟩ := hrel
    obtain ⟨h1, h2, h3, h4⟩ := H.out
    by_cases hlt : j < n
    · have M := make_in h1 ((j : Int) + 1) (by omega) (fun q hq => by rw [full_length] at hq; rw [full_get _ _ _ hq]; split <;> omega) j (by rw [full_length]; exact hj) (fun q hq => by rw [full_get _ _ _ (by omega), if_pos hq]; simp; omega) (fun _ => by rw [full_get _ _ _ hlt, if_neg (by omega)])
      rw [full_length, full_get _ _ _ hlt, if_neg (show ¬ j < j by omega)] at M
      have HM := Lib.hid M
      clear M h1 h2 h3
      go_wp2_with fail
      refine HM.out.mono ?_; rintro e w3 ⟨m3, h5⟩
      rw [if_pos hlt, full_succ n j hlt] at h5
      obtain ⟨rfl, T3⟩ := h5
      have O3 := Lib.hid (own_mod H.out.2.1 m3 (fun x hx => by simp at hx; subst hx; exact hgr.2))
      have B3 := Lib.hid (Kit.step1 H.out.2.2.1 m3 hr)
      have S3 := Nat.le_trans h4 m3.size
      have HT3 := Lib.hid T3
      clear T3 m3 HM
      go_wp2_with (at_builtin; go_loud (refine wpList_append_own _ rfl _ _ 28 rfl w2.heap.size 3 i0 (.int .i64 0) 1 8 Try.underlying28 hi hz0 hz1 hz2 rfl (by decide) _ _ _ rfl (O3.out.alloc _) ⟨w3.heap.size, 0, none⟩ 1 1 [.int .i64 (256 + (j : Int))] rfl rfl (cell_one_new _ _ _) (fun x hx => by simp at hx; subst hx; rfl) (by unfold maxLen; omega) (by omega) (by simp; omega) ?_))
      intro v' w4 hown' hgrow _
      have hB : Below W.heap.size W w4 := (Kit.allocB B3.out _).grown hgrow (by have := B3.out.size; simp; omega) (fun q h => by have := (O3.out.lt q h).1; have := B2.out.size; omega)
      have hBt : Below w2.heap.size w3 w4 := ((Below.refl w2.heap.size w3).alloc S3 _).grown hgrow (by simp; omega) (fun q h => (O3.out.lt q h).1)
      have HT4 := Lib.hid (tab_at HT3.out hBt hgr.1 hgr.2)
      have HO4 : Hid (w4.ownsRow w2.heap.size 3 1 v' (j + 1) (hands (j + 1))) := Lib.hid (by rw [hands_succ]; exact hown')
      have HB4 := Lib.hid hB
      have S4 := Nat.le_trans S3 hBt.size
      clear hown' hgrow hB hBt HT3 O3 B3 S3
      go_wp2_with fail
      go_roundw
      case rel => exact ⟨j + 1, by omega, by simp, ⟨HT4.out, HO4.out, HB4.out, S4⟩⟩
      case measure => simp [intOf]; omega
    · obtain rfl : j = n := by omega
      obtain ⟨q, cp, rfl, hq⟩ := own_addr h2 (by omega)
      have hsr : ∀ x, x ∈ [r] → x < w2.heap.size := fun x hx => by simp at hx; subst hx; exact hgr.2
      have Hsr := Lib.hid hsr
      have fg : ∀ i, i < j → (full j j).getD i (0, 0) = ((i : Int) + 1, 1) := fun i hi => by rw [full_get _ _ _ hi, if_pos hi]
      have FG := Lib.hid fg
      have tl : (full j j).length = j := full_length j j
      have TL := Lib.hid tl
      have M1 := make_in h1 1 (by decide) (fun i hi => by rw [tl] at hi; rw [fg i hi]; simp) j (by rw [tl]; exact Nat.le_refl _) (fun i hi => by rw [fg i hi]; simp; omega) (fun h => by rw [tl] at h; omega)
      rw [tl] at M1
      have HM1 := Lib.hid M1
      have O1 := Lib.hid h2
      have B1 := Lib.hid h3
      clear M1 h1 h2 h3 h4 H hsr fg tl T2 B2 A
      go_wp2_with fail
      refine HM1.out.mono ?_; rintro e w3 ⟨m3, h5⟩
      rw [if_neg (by omega)] at h5
      obtain ⟨rfl, T3⟩ := h5
      have O3 := own_mod O1.out m3 Hsr.out
      have B3 := Lib.hid (Kit.step1 B1.out m3 hr)
      have cl := O3.cells (g := q) rfl k _ (hands_get j k hkn)
      rw [Addr.add_lit, Nat.zero_add] at cl
      have HO3 := Lib.hid O3
      have gd : good (full j j) (256 + (k : Int)) := by
        have e : (256 + (k : Int)) % 256 = k := by omega
        refine ⟨by omega, by rw [TL.out]; omega, ?_, ?_⟩
        · rw [e, Int.toNat_natCast, FG.out k hkn]; simp; omega
        · rw [e, Int.toNat_natCast, FG.out k hkn]; simp; omega
      have F := free_it T3 (256 + (k : Int)) (by omega) (fun i hi => by rw [TL.out] at hi; rw [FG.out i hi]; simp)
      rw [if_pos gd] at F
      unfold freed at F
      rw [if_pos gd, show (256 + (k : Int)) % 256 = k by omega, Int.toNat_natCast, FG.out k hkn] at F
      simp only at F
      have HF := Lib.hid F
      clear m3 T3 F gd O3 HM1 O1 B1
      go_wp2_with fail
      refine HF.out.mono ?_; rintro e w4 ⟨rfl, T4, m4⟩
      have O4 := own_mod HO3.out m4 Hsr.out
      have B4 := Lib.hid (Kit.step1 B3.out m4 hr)
      have HO4 := Lib.hid O4
      obtain ⟨ys, hys⟩ : ∃ ys, ys = (full j j).set k (0, 1 + 1) := ⟨_, rfl⟩
      rw [← hys] at T4
      have yl : ys.length = j := by rw [hys, List.length_set]; exact TL.out
      have yg : ∀ i, i < j → ys.getD i (0, 0) = if i = k then (0, 2) else ((i : Int) + 1, 1) := fun i hi => by
        rw [hys, List.getD_eq_getElem?_getD, List.getElem?_set]
        by_cases e : k = i
        · subst e; rw [if_pos rfl, if_pos (by rw [TL.out]; exact hi), if_pos rfl]; rfl
        · rw [if_neg e, if_neg (by omega), ← List.getD_eq_getElem?_getD, FG.out i hi]
      have YL := Lib.hid yl
      have YG := Lib.hid yg
      have M2 := make_in T4 9 (by decide) (fun i hi => by rw [yl] at hi; rw [yg i hi]; split <;> simp) k (by rw [yl]; omega) (fun i hi => by rw [yg i (by omega), if_neg (by omega)]; simp; omega) (fun _ => by rw [yg k hkn, if_pos rfl])
      rw [yl, yg k hkn, if_pos rfl] at M2
      simp only at M2
      have HM2 := Lib.hid M2
      clear T4 m4 M2 yl yg hys HF O4 B3 HO3 cl
      go_wp2_with fail
      refine HM2.out.mono ?_; rintro e w5 ⟨m5, h5⟩
      rw [if_pos hkn] at h5
      obtain ⟨rfl, T5⟩ := h5
      have O5 := own_mod HO4.out m5 Hsr.out
      have B5 := Lib.hid (Kit.step1 B4.out m5 hr)
      have HO5 := Lib.hid O5
      have cl := O5.cells (g := q) rfl k _ (hands_get j k hkn)
      rw [Addr.add_lit, Nat.zero_add] at cl
      obtain ⟨zs, hzs⟩ : ∃ zs, zs = ys.set k (9, 2) := ⟨_, rfl⟩
      rw [← hzs] at T5
      have zl : zs.length = j := by rw [hzs, List.length_set]; exact YL.out
      have zk : zs.getD k (0, 0) = (9, 2) := by rw [hzs, List.getD_eq_getElem?_getD, List.getElem?_set, if_pos rfl, if_pos (by rw [YL.out]; exact hkn)]; rfl
      have zn : ∀ i, i < zs.length → (zs.getD i (0, 0)).1 ≠ 0 := fun i hi => by
        rw [zl] at hi
        by_cases e : k = i
        · subst e; rw [zk]; simp
        · rw [hzs, List.getD_eq_getElem?_getD, List.getElem?_set, if_neg e, ← List.getD_eq_getElem?_getD, YG.out i hi, if_neg (by omega)]; simp; omega
      have gd : good zs (2 * 256 + (k : Int)) := by
        have e : (2 * 256 + (k : Int)) % 256 = k := by omega
        refine ⟨by omega, by rw [zl]; omega, ?_, ?_⟩
        · rw [e, Int.toNat_natCast, zk]; simp
        · rw [e, Int.toNat_natCast, zk]; simp; omega
      have G := get_it T5 (2 * 256 + (k : Int)) (by omega)
      rw [if_pos gd, if_pos gd, show (2 * 256 + (k : Int)) % 256 = k by omega, Int.toNat_natCast, zk] at G
      simp only at G
      have L := len_it T5
      rw [live_full zs zn, zl] at L
      have e5 : (2 * 256 + (k : Int)).tmod 256 = (k : Int) := by rw [Int.tmod_eq_emod_of_nonneg (by omega)]; omega
      have e6 : ((2 * 256 + (k : Int)) != (256 + (k : Int))) = true := by simp
      have HG := Lib.hid G
      have HL := Lib.hid L
      clear G L gd zn zk zl hzs T5 m5 HM2 O5 HO4 B4
      generalize 2 * 256 + (k : Int) = hh at HG e5 e6 ⊢
      go_wp2_with fail
      refine HG.out.mono ?_; rintro e w6 ⟨rfl, rfl⟩
      go_wp2_with fail
      refine HL.out.mono ?_; rintro e w7 ⟨rfl, b7⟩
      have B7 := Lib.hid (Kit.stepB B5.out b7)
      clear b7
      go_wp2_with fail
      go_ret
      exact ⟨rfl, B7.out⟩
end Go.Proofs.Ytbjlmhkjlipnmaa.Fu
