/- A call of both pools; all that both tell: the law's helpers do and told. No condition. -/
import Derived.Test.YtlhgdcimchmldaaDq
set_option linter.unusedVariables false
set_option linter.unusedSimpArgs false
namespace Go.Proofs.Ytlhgdcimchmldaa.Do
open Go.RowKit
open Pl Rn Ov Lf Wl Ct Nn Pw Md Gp Gs Sn Gq Pq Rp Rq Rr Dq
/-- Both pools, told alike. -/
structure Both (W w : World) (g a b x r cap N : Nat) : Prop where
  ex : ∃ fs ms, Pool w g a b fs ms ∧ Wf fs ms ∧ RP w x r cap fs ∧ fs.length = N
  own : W.heap.size ≤ g ∧ W.heap.size ≤ a ∧ W.heap.size ≤ b ∧ W.heap.size ≤ x ∧ W.heap.size ≤ r
  ne : x ≠ a ∧ x ≠ b ∧ r ≠ a ∧ r ≠ b ∧ r ≠ g
  bel : Below W.heap.size W w
section
variable {W w w' : World} {g a b x r cap N : Nat}
theorem Both.below (h : Both W w g a b x r cap N) (m : Below w.heap.size w w') : Both W w' g a b x r cap N := by
  obtain ⟨fs, ms, P, WF, R, hl⟩ := h.ex
  exact ⟨⟨fs, ms, P.keepB m, WF, R.keepB m, hl⟩, h.own, h.ne, Kit.stepB h.bel m⟩
/-- Alloc of both. -/
theorem both_alloc (h : Both W w g a b x r cap N) (n : Int) (hn : n ≤ 9223372036854775807) : Calls Try.prog 12 #[.pointer (some ⟨g, 0, none⟩), .int .i64 n] w fun e w1 => ∃ p c : Int, e = .returned (.tuple #[.int .i64 p, .int .i64 c]) ∧
    Calls Try.prog 29 #[.pointer (some ⟨x, 0, none⟩), .int .i64 n] w1 fun e w2 => e = .returned (.tuple #[.int .i64 p, .int .i64 c]) ∧ Both W w2 g a b x r cap N := by
  obtain ⟨fs, ms, P, WF, R, hl⟩ := h.ex
  by_cases h1 : n < 1
  · refine (alloc_small w g n h1).mono ?_
    rintro e w1 ⟨rfl, b1⟩
    refine ⟨_, _, rfl, (ralloc_small w1 x n h1).mono ?_⟩
    rintro e w2 ⟨rfl, rfl⟩
    exact ⟨rfl, h.below b1⟩
  · obtain ⟨K, rfl⟩ : ∃ K : Nat, n = K := ⟨n.toNat, by omega⟩
    refine (Al.alloc_all w g a b fs ms K WF P (by omega) (by omega)).mono ?_
    rintro e w1 (⟨rfl, hno, b1⟩ | ⟨ini, p, k, post, hr, hi, hk, rfl, P1, m1⟩)
    · refine ⟨_, _, rfl, (ralloc_none (R.keepB b1) K (by omega) (by omega) (fits_none K (by omega) hno)).mono ?_⟩
      rintro e w2 ⟨rfl, rfl⟩
      exact ⟨rfl, h.below b1⟩
    · obtain ⟨f1, f2⟩ := fits_first K (by omega) hr hi hk
      have wf := wf_alloc_run WF P.len hr (by omega) (by omega : K ≤ k)
      have R1 := R.keep m1 (by have := h.ne; simp; omega) (by have := h.ne; simp; omega)
      refine ⟨_, _, rfl, (ralloc_it R1 p K (by omega) f1 f2).mono ?_⟩
      rintro e w2 ⟨rfl, R2, m2⟩
      have P2 := P1.keep m2 (by have := h.ne; simp; omega) (by have := h.ne; simp; omega) (by have := h.ne; simp; omega)
      exact ⟨rfl, ⟨_, _, P2, wf.1, R2, (fill_length fs p K p wf.2.1).trans hl⟩, h.own, h.ne, Kit.step1 (Kit.step h.bel m1 (by have := h.own; simp; omega)) m2 h.own.2.2.2.2⟩
/-- Free of both. -/
theorem both_free (h : Both W w g a b x r cap N) (n : Int) : Calls Try.prog 14 #[.pointer (some ⟨g, 0, none⟩), .int .i64 n] w fun e w1 => ∃ c : Int, e = .returned (.int .i64 c) ∧
    Calls Try.prog 31 #[.pointer (some ⟨x, 0, none⟩), .int .i64 n] w1 fun e w2 => e = .returned (.int .i64 c) ∧ Both W w2 g a b x r cap N := by
  obtain ⟨fs, ms, P, WF, R, hl⟩ := h.ex
  by_cases hb : n < 0 ∨ (fs.length : Int) ≤ n ∨ (0 ≤ n ∧ n < fs.length ∧ fs.getD n.toNat 0 ≠ n)
  · refine (free_bad P n hb).mono ?_
    rintro e w1 ⟨rfl, rfl⟩
    refine ⟨_, rfl, (rfree_bad R n hb).mono ?_⟩
    rintro e w2 ⟨rfl, rfl⟩
    exact ⟨rfl, h⟩
  · obtain ⟨f, rfl⟩ : ∃ f : Nat, n = f := ⟨n.toNat, by omega⟩
    have hf : f < fs.length := by omega
    have he : fs.getD f 0 = f := by
      rcases Classical.em (fs.getD f 0 = f) with h | h
      · exact h
      · exact absurd (.inr (.inr ⟨by omega, by omega, by simpa using h⟩)) hb
    obtain ⟨m, e1, e2, e3, e4⟩ := first_group WF f hf he
    have I : ∀ k, k < fs.length → ((f ≤ k ∧ k < f + m) ↔ fs.getD k 0 = f) := fun k hk => by
      have := in_group WF f k hk hf he
      rw [e1, Int.toNat_natCast] at this
      exact this
    refine (free_it P f m he e1 e3 e2).mono ?_
    rintro e w1 ⟨rfl, P1, m1⟩
    have R1 := R.keep m1 (by have := h.ne; simp; omega) (by have := h.ne; simp; omega)
    refine ⟨_, rfl, (rfree_it R1 f m he e3 e2 I).mono ?_⟩
    rintro e w2 ⟨rfl, R2, m2⟩
    have P2 := P1.keep m2 (by have := h.ne; simp; omega) (by have := h.ne; simp; omega) (by have := h.ne; simp; omega)
    exact ⟨rfl, ⟨_, _, P2, wf_free WF P.len f m he e1 e2 e3 e4, R2, (fill_length fs f m (-1) e3).trans hl⟩, h.own, h.ne, Kit.step1 (Kit.step h.bel m1 (by have := h.own; simp; omega)) m2 h.own.2.2.2.2⟩
/-- Group of the reference. -/
theorem ref_group (h : Both W w g a b x r cap N) (n : Int) : ∃ y z c : Int, -9223372036854775808 ≤ y ∧ y ≤ 9223372036854775807 ∧
    (∀ q, Calls Try.prog 30 #[.pointer (some ⟨x, 0, none⟩), .int .i64 n] (w.drewN q) (fun e w2 => e = .returned (.tuple #[.int .i64 y, .int .i64 z, .int .i64 c]) ∧ w2 = w.drewN q)) ∧
    Calls Try.prog 13 #[.pointer (some ⟨g, 0, none⟩), .int .i64 n] w (fun e w2 => e = .returned (.tuple #[.int .i64 y, .int .i64 z, .int .i64 c]) ∧ ∃ q, w2 = w.drewN q) := by
  obtain ⟨fs, ms, P, WF, R, hl⟩ := h.ex
  have hs := P.small
  by_cases hb : n < 0 ∨ (fs.length : Int) ≤ n
  · refine ⟨_, _, _, by decide, by decide, fun q => rgroup_range (R.heap (w' := w.drewN q) rfl) n hb, (group_range P n hb).mono ?_⟩
    rintro e w1 ⟨rfl, rfl⟩
    exact ⟨rfl, 0, rfl⟩
  · obtain ⟨k, rfl⟩ : ∃ k : Nat, n = k := ⟨n.toNat, by omega⟩
    have hk : k < fs.length := by omega
    rcases WF k hk with h0 | ⟨f, m, e1, e2, e3, e4, e5, e6⟩
    · refine ⟨_, _, _, by decide, by decide, fun q => rgroup_free (R.heap (w' := w.drewN q) rfl) k hk (by omega), (group_free P k hk (by omega)).mono ?_⟩
      rintro e w1 ⟨rfl, rfl⟩
      exact ⟨rfl, 0, rfl⟩
    · have hf : f < fs.length := by omega
      have I : ∀ k, k < fs.length → ((f ≤ k ∧ k < f + m) ↔ fs.getD k 0 = f) := fun k hk => by
        have := in_group WF f k hk hf (e6 f (Nat.le_refl _) (by omega))
        rw [e2, Int.toNat_natCast] at this
        exact this
      exact ⟨_, _, _, by omega, by omega, fun q => rgroup_it (R.heap (w' := w.drewN q) rfl) k f m hk e1 e4 I, group_it P k f m hk e1 e2 hf⟩
theorem Both.drew (h : Both W w g a b x r cap N) (q : Nat) : Both W (w.drewN q) g a b x r cap N := by
  obtain ⟨fs, ms, P, WF, R, hl⟩ := h.ex
  exact ⟨⟨fs, ms, P.heap rfl, WF, R.heap rfl, hl⟩, h.own, h.ne, Kit.drawB h.bel q⟩
set_option maxRecDepth 100000 in
set_option maxHeartbeats 2000000 in
theorem do_it (h : Both W w g a b x r cap N) (k n : Int) (hn : n ≤ 9223372036854775807) : Calls Try.prog 21 #[.pointer (some ⟨g, 0, none⟩), .pointer (some ⟨x, 0, none⟩), .agg #[.int .i64 k, .int .i64 n]] w fun e w' => e = .returned (.bool true) ∧ Both W w' g a b x r cap N := by
  have HB := Lib.hid (h.below (w' := w.alloc (.cells #[.int .i64 k, .int .i64 n] 52)) (Kit.allocB (Below.refl _ _) _))
  have cc := Kit.cells2 (Kit.new_blk w (.cells #[.int .i64 k, .int .i64 n] 52))
  clear h
  by_cases k0 : k = 0 ∨ k = 1
  · have BA := Lib.hid (both_alloc HB.out n hn)
    rcases k0 with rfl | rfl
    all_goals
      go_enter Try.func21, Try.ntmps21
      go_wp2_with fail
      refine BA.out.mono ?_
      rintro e w1 ⟨p, c, rfl, RA⟩
      have HRA := Lib.hid RA
      clear RA cc
      go_wp2_with fail
      refine HRA.out.mono ?_
      rintro e w2 ⟨rfl, B2⟩
      have HB2 := Lib.hid B2
      clear B2
      go_wp2_with fail
      go_ret
      exact ⟨rfl, HB2.out⟩
  · by_cases k3 : k = 3
    · subst k3
      obtain ⟨y, z, c, hy1, hy2, RG, _⟩ := ref_group HB.out n
      have HRG := Lib.hid (RG 0)
      clear RG
      by_cases hc : c = 0
      · subst hc
        have BF := Lib.hid (both_free HB.out y)
        go_enter Try.func21, Try.ntmps21
        go_wp2_with fail
        refine HRG.out.mono ?_
        rintro e w1 ⟨rfl, rfl⟩
        clear HRG cc
        go_wp2_with fail
        refine BF.out.mono ?_
        rintro e w1 ⟨c, rfl, RF⟩
        have HRF := Lib.hid RF
        clear RF
        go_wp2_with fail
        refine HRF.out.mono ?_
        rintro e w2 ⟨rfl, B2⟩
        have HB2 := Lib.hid B2
        clear B2
        go_wp2_with fail
        go_ret
        exact ⟨rfl, HB2.out⟩
      · have d1 : (c == 0) = false := by simpa using hc
        have BF := Lib.hid (both_free HB.out n)
        clear hc
        go_enter Try.func21, Try.ntmps21
        go_wp2_with fail
        refine HRG.out.mono ?_
        rintro e w1 ⟨rfl, rfl⟩
        clear HRG cc
        go_wp2_with fail
        refine BF.out.mono ?_
        rintro e w1 ⟨c, rfl, RF⟩
        have HRF := Lib.hid RF
        clear RF
        go_wp2_with fail
        refine HRF.out.mono ?_
        rintro e w2 ⟨rfl, B2⟩
        have HB2 := Lib.hid B2
        clear B2
        go_wp2_with fail
        go_ret
        exact ⟨rfl, HB2.out⟩
    · by_cases k2 : k = 2
      · subst k2
        have BF := Lib.hid (both_free HB.out n)
        go_enter Try.func21, Try.ntmps21
        go_wp2_with fail
        refine BF.out.mono ?_
        rintro e w1 ⟨c, rfl, RF⟩
        have HRF := Lib.hid RF
        clear RF cc
        go_wp2_with fail
        refine HRF.out.mono ?_
        rintro e w2 ⟨rfl, B2⟩
        have HB2 := Lib.hid B2
        clear B2
        go_wp2_with fail
        go_ret
        exact ⟨rfl, HB2.out⟩
      · have z0 : k ≠ 0 := fun e => k0 (.inl e)
        have z1 : k ≠ 1 := fun e => k0 (.inr e)
        obtain ⟨y, z, c, _, _, RG, GG⟩ := ref_group HB.out n
        have HGG := Lib.hid GG
        have RG := Lib.hid RG
        clear GG k0
        go_enter Try.func21, Try.ntmps21
        go_wp2_with fail
        refine HGG.out.mono ?_
        rintro e w1 ⟨rfl, q, rfl⟩
        have RR := Lib.hid (RG.out q)
        have HB2 := Lib.hid (HB.out.drew q)
        clear cc HB HGG
        go_wp2_with fail
        refine RR.out.mono ?_
        rintro e w2 ⟨rfl, rfl⟩
        go_wp2_with fail
        go_ret
        exact ⟨rfl, HB2.out⟩
end
end Go.Proofs.Ytlhgdcimchmldaa.Do
