/- Every call is answered as the document says: the law RememberDoes. No condition. -/
import Derived.Test.YtobplcehaeejoaaLd
set_option linter.unusedVariables false
set_option linter.unusedSimpArgs false
namespace Go.Proofs.Ytobplcehaeejoaa.LawDoes
open Go.RowKit Se Mq Sm Ls Nx Lw Ln Lm Lq Rv Ru Rp2 Ld
def Fn : Nat → Obj → Prop := fun _ _ => False
def Bd (W w : World) (s r g : Nat) (b : Nat → Nat) (x y n : Nat) : Prop := ∃ M, B2 W w Fn s r g b x y n M M
section
variable {W w w' : World} {s r g : Nat} {b : Nat → Nat} {x y n : Nat}
theorem Bd.below (h : Bd W w s r g b x y n) (m : Below w.heap.size w w') : Bd W w' s r g b x y n := by
  obtain ⟨M, B⟩ := h
  exact ⟨M, B.below m⟩
theorem Bd.bel (h : Bd W w s r g b x y n) : Below W.heap.size W w := by
  obtain ⟨M, B⟩ := h
  exact B.st.bel
theorem Bd.do (h : Bd W w s r g b x y n) (hn : n ≤ 800) (k gen a : Int) (ha : (Lit.int .i64 a).wf = true) :
    Calls Try.prog 16 #[.pointer (some ⟨s, 0, none⟩), .pointer (some ⟨x, 0, none⟩), .agg #[.int .i64 k, .int .i64 gen, .int .i64 a]] w fun e w' => e = .returned (.bool true) ∧ Bd W w' s r g b x y (n + 1) := by
  obtain ⟨M, B⟩ := h
  by_cases h0 : k = 0 ∨ k = 1
  · exact (do_put B hn k gen a h0).mono fun e w' ⟨p, q⟩ => ⟨p, _, q⟩
  · by_cases h2 : k = 2
    · subst h2; exact (do_drop B hn gen a).mono fun e w' ⟨p, q⟩ => ⟨p, _, q⟩
    · by_cases h3 : k = 3
      · subst h3; exact (do_take B hn gen a).mono fun e w' ⟨p, q⟩ => ⟨p, _, q⟩
      · exact (do_has B hn k gen a ha ⟨fun e => h0 (.inl e), fun e => h0 (.inr e), h2, h3⟩).mono fun e w' ⟨p, q⟩ => ⟨p, _, q⟩
theorem Bd.lens (h : Bd W w s r g b x y n) (hn : n ≤ 900) : ∃ c : Nat, (Calls Try.prog 13 #[.pointer (some ⟨s, 0, none⟩)] w fun e w' => e = .returned (.int .i64 c) ∧ w' = w) ∧ Calls Try.prog 17 #[.pointer (some ⟨x, 0, none⟩)] w fun e w' => e = .returned (.int .i64 c) ∧ w' = w := by
  obtain ⟨M, B⟩ := h
  obtain ⟨v, R⟩ := B.rv
  exact ⟨_, len_it B.st.lv (by omega), rlen_it R (fun i hi => by have := (B.up hn i hi).1; omega)⟩
theorem Bd.alls (h : Bd W w s r g b x y n) (hn : n ≤ 900) (gen : Int) : Calls Try.prog 11 #[.pointer (some ⟨s, 0, none⟩), .int .i64 gen] w fun e w' => ∃ (m : List Int) (p : Option Addr) (c : Nat), e = .returned (.slice p m.length c) ∧ (Bd W w' s r g b x y n) ∧ Calls Try.prog 18 #[.pointer (some ⟨x, 0, none⟩), .int .i64 gen] w' fun e2 w2 => ∃ p2 c2, e2 = .returned (.slice p2 m.length c2) ∧ w2 = w' ∧ Calls Try.prog 12 #[.slice p m.length c, .slice p2 m.length c2] w' fun e3 w3 => e3 = .returned (.bool true) ∧ ∃ nn, w3 = w'.drewN nn := by
  obtain ⟨M, B⟩ := h
  have hl := all_len (B.up hn) gen
  refine (B.all (by omega) gen).mono ?_
  rintro e w' ⟨p, c, rfl, T, B'⟩
  refine ⟨_, p, c, rfl, ⟨M, B'⟩, (B'.rall gen).mono ?_⟩
  rintro e2 w2 ⟨p2, c2, rfl, T2, hw⟩
  exact ⟨p2, c2, rfl, hw, same_it w' p p2 c c2 _ T T2 (by omega)⟩
end
theorem cell_at {W : World} {A : Option Addr} {len : Nat} {L : Nat → List Int} (R : Ag.Rows W A len [.i64, .i64, .i64] L) (i : Nat) (h : i < len) : ∃ bb off k gen x, A = some ⟨bb, off, none⟩ ∧ (Lit.int .i64 x).wf = true ∧ ∀ w : World, Below W.heap.size W w → w.cell? ⟨bb, off + i * 3, none⟩ = some (.int .i64 k) ∧ w.cell? ⟨bb, off + i * 3 + 1, none⟩ = some (.int .i64 gen) ∧ w.cell? ⟨bb, off + i * 3 + 2, none⟩ = some (.int .i64 x) := by
  obtain ⟨bb, off, rfl, hb, hc⟩ := R.cells (by omega)
  obtain ⟨_, hx⟩ := hc i h
  obtain ⟨k, _, c0, _⟩ := hx 0 .i64 rfl
  obtain ⟨gen, _, c1, _⟩ := hx 1 .i64 rfl
  obtain ⟨x, _, c2, w2⟩ := hx 2 .i64 rfl
  exact ⟨bb, off, k, gen, x, rfl, w2, fun w q => ⟨(q.cell (p := ⟨bb, off + i * 3, none⟩) hb).trans c0, (q.cell (p := ⟨bb, off + i * 3 + 1, none⟩) hb).trans c1, (q.cell (p := ⟨bb, off + i * 3 + 2, none⟩) hb).trans c2⟩⟩
set_option maxHeartbeats 8000000 in
set_option maxRecDepth 100000 in
theorem law_bad (W : World) (m : Int) (h : m < 1 ∨ 4 < m) (A : Option Addr) (len cap : Nat) :
    Calls Try.prog 5 #[.int .i64 m, .slice A len cap] W fun e w => e = .returned (.bool true) ∧ Below W.heap.size W w := by
  have NI := Lib.hid (new_bad W m h)
  have RI := Lib.hid (rnew_bad W m h)
  have AW := Lib.hid (awake_it W)
  clear h
  go_enter Try.func5, Try.ntmps5
  go_wp2_with fail
  refine NI.out.mono ?_
  rintro e W ⟨rfl, rfl⟩
  go_wp2_with fail
  refine RI.out.mono ?_
  rintro e W ⟨rfl, rfl⟩
  go_wp2_with fail
  refine AW.out.mono ?_
  rintro e w1 ⟨rfl, b1⟩
  have B1 := Lib.hid b1
  clear b1 AW
  go_wp2_with fail
  go_ret
  exact ⟨rfl, B1.out⟩
set_option maxHeartbeats 8000000 in
set_option maxRecDepth 100000 in
theorem law (W : World) (g : Nat) (g1 : 1 ≤ g) (g4 : g ≤ 4) (A : Option Addr) (len cap : Nat) (L : Nat → List Int) (R : Ag.Rows W A len [.i64, .i64, .i64] L) :
    Calls Try.prog 5 #[.int .i64 g, .slice A len cap] W fun e w => e = .returned (.bool true) ∧ Below W.heap.size W w := by
  have NI := Lib.hid (St.new (W := W) g1 g4 (Below.refl W.heap.size W))
  have RI := Lib.hid (fun w => rnew_it w g g1 g4)
  have AW := Lib.hid awake_it
  have HR := Lib.hid R
  have hmax := R.max
  clear R
  go_enter Try.func5, Try.ntmps5
  go_wp2_with fail
  refine NI.out.mono ?_
  rintro e w1 ⟨s, r, b, rfl, S, _, _⟩
  have HS := Lib.hid S
  clear S NI
  go_wp2_with fail
  refine (RI.out w1).mono ?_
  rintro e w2 ⟨rfl, b2, RV⟩
  have HB := Lib.hid (show Bd W w2 s r g b (w1.heap.size + 1) w1.heap.size 0 from ⟨_, HS.out.below b2, ⟨_, RV⟩, ⟨⟨fun c => by have := HS.out.lv.lt _ c; omega, fun c => by have := HS.out.lv.lt _ c; omega⟩, by have := HS.out.bel.size; omega, HS.out.bel.size⟩, fun k o f => f.elim⟩)
  clear b2 RV RI HS
  generalize w1.heap.size = y at *
  generalize y + 1 = x at *
  go_wp2_with fail
  refine (AW.out _).mono ?_
  rintro e w3 ⟨rfl, b3⟩
  have HA := Lib.hid (HB.out.below b3)
  clear b3 AW HB
  go_wp2_with fail
  go_loopg [9] 300 (fun k c wr => ∃ i : Nat, (i ≤ len ∧ i ≤ 300 ∧ k = 300 - i) ∧ c = .int .i64 i ∧ Hid (Bd W wr s r g b x y i))
  case atStart => exact ⟨0, by omega, rfl, HA⟩
  case round =>
    obtain ⟨i, ⟨hi, hi2, rfl⟩, rfl, H⟩ := hrel
    clear HA
    by_cases hlt : i < len ∧ i < 300
    · obtain ⟨l1, l2⟩ := hlt
      obtain ⟨bb, off, k, gen, a, rfl, ha, hc⟩ := cell_at HR.out i l1
      obtain ⟨q0, q1, q2⟩ := hc wr H.out.bel
      have DI := Lib.hid (H.out.do (by omega) k gen a ha)
      clear H hc ha
      go_wp2_with fail
      refine DI.out.mono ?_
      rintro e w4 ⟨rfl, B4⟩
      obtain ⟨cc, p1, p2⟩ := B4.lens (by omega)
      have P1 := Lib.hid p1
      have P2 := Lib.hid p2
      have H4 := Lib.hid B4
      have ee : ((cc : Int) != (cc : Int)) = false := by simp
      clear B4 DI p1 p2 q0 q1 q2
      go_wp2_with fail
      refine P1.out.mono ?_
      rintro e w4 ⟨rfl, rfl⟩
      go_wp2_with fail
      refine P2.out.mono ?_
      rintro e w4 ⟨rfl, rfl⟩
      clear P1 P2
      go_wp2_with fail
      go_roundg (300 - (i + 1))
      case measure => omega
      case rel => exact ⟨i + 1, ⟨by omega, by omega, rfl⟩, by simp, H4⟩
    · rcases (show (i < len ∧ i = 300) ∨ len = i by omega) with ⟨l1, rfl⟩ | rfl
      all_goals
        clear hlt
        go_wp2_with fail
        have HC := Lib.hid (show ∃ n, n ≤ 300 ∧ Bd W wr s r g b x y n from ⟨_, hi2, H.out⟩)
        clear hi2 H
        go_loopg [10] g (fun q c wr => ∃ j : Nat, (j ≤ g ∧ q = g - j) ∧ c = .int .i64 j ∧ Hid (∃ n, n ≤ 300 ∧ Bd W wr s r g b x y n))
        case atStart => exact ⟨0, ⟨Nat.zero_le _, rfl⟩, rfl, HC⟩
        case round =>
          obtain ⟨j, ⟨hj, rfl⟩, rfl, H⟩ := hrel
          obtain ⟨n, hn, B⟩ := H.out
          clear HC
          by_cases hlj : j < g
          · have AI := Lib.hid (B.alls (by omega) j)
            clear B H
            go_wp2_with fail
            refine AI.out.mono ?_
            rintro e w5 ⟨m, p, c, rfl, B5, A2⟩
            have H5 := Lib.hid (show ∃ n, n ≤ 300 ∧ Bd W w5 s r g b x y n from ⟨n, hn, B5⟩)
            have A2 := Lib.hid A2
            clear AI B5
            go_wp2_with fail
            refine A2.out.mono ?_
            rintro e w5 ⟨p2, c2, rfl, rfl, Q⟩
            have Q := Lib.hid Q
            clear A2
            go_wp2_with fail
            refine Q.out.mono ?_
            rintro e w6 ⟨rfl, nn, rfl⟩
            have H6 := Lib.hid (show ∃ n, n ≤ 300 ∧ Bd W (w5.drewN nn) s r g b x y n from by
              obtain ⟨n, hn, B⟩ := H5.out
              exact ⟨n, hn, B.below (Kit.drawB (Below.refl _ _) nn)⟩)
            clear Q H5
            go_wp2_with fail
            go_roundg (g - (j + 1))
            case measure => omega
            case rel => exact ⟨j + 1, ⟨by omega, rfl⟩, by simp, H6⟩
          · obtain rfl : j = g := by omega
            have HX := Lib.hid B.bel
            clear B H
            go_wp2_with fail
            go_ret
            exact ⟨rfl, HX.out⟩
end Go.Proofs.Ytobplcehaeejoaa.LawDoes
