-- PRINTED BY print.sh 35421559b90ae4d0a3588c463048766b98c2df88dd9212a6774a882060cdf62d: not written by this session
import Derived.Test.YtkfmenmnbhenoaaPWordMovesx0
import Derived.Test.YtkfmenmnbhenoaaPWordMovesx1
namespace Go.Proofs.Ytkfmenmnbhenoaa.PWordMoves
open Go.RowKit Go.Proofs.YtkfmenmnbhenoaaW.PrintWords Go.Proofs.YtkfmenmnbhenoaaW.PrintLast Go.Proofs.YtkfmenmnbhenoaaW.PrintMore
attribute [local go_sem] max2_int min2_int max_two min_two max_three min_three max_four min_four   -- for this text's walks alone
set_option linter.unusedVariables false
set_option linter.unusedSimpArgs false

/-! ### middenlaw01_WordMoves: function 5 -/
def middenlaw01_WordMoves.j0 : Nat → Int → Int → Int → Bool → Option (Bool)
  | 0, _, _, _, _ => none
  | k + 1, x0, x5, x6, x39 => if x39 = true then (some false) else (if x0 < 1 then (if x5 = 0 then (some (x6 == 4)) else (some false)) else (if x0 > 524288 then (if x5 = 0 then (some (x6 == 4)) else (some false)) else ((word_Moved.f x5).bind fun bt115 => (if x6 = 0 then (if x5 = (IntKind.u64.wrap (2 * (IntKind.u64.wrap (x0)))) then (if bt115.1 = x0 then (some bt115.2) else (some false)) else (some false)) else (some false)))))
def middenlaw01_WordMoves.f (k : Nat) (a0 : Int) (a1 : Int) : Option (Bool) := (word_Forward.f a0).bind fun bt108 => ((word_Moved.f a1).bind fun bt110 => ((middenref01_Moved.f a1).bind fun bt112 => ((middenlaw01_awake.f k).bind fun t114 => (if t114 = true then (if bt110.1 = bt112.1 then (middenlaw01_WordMoves.j0 k a0 bt108.1 bt108.2 (bt110.2 != bt112.2)) else (middenlaw01_WordMoves.j0 k a0 bt108.1 bt108.2 true)) else (middenlaw01_WordMoves.j0 k a0 bt108.1 bt108.2 true)))))
theorem middenlaw01_WordMoves.mono_l : ∀ k, (∀ y0 y1 y2 y3, LeO (middenlaw01_WordMoves.j0 k y0 y1 y2 y3) (middenlaw01_WordMoves.j0 (k + 1) y0 y1 y2 y3))
  | 0 => fun _ _ _ _ r h => by simp [middenlaw01_WordMoves.j0] at h
  | k + 1 => by
    have ih0 := middenlaw01_WordMoves.mono_l k
    · intro y0 y1 y2 y3
      unfold middenlaw01_WordMoves.j0
      repeat' first
      | (with_reducible exact ih0 _ _ _ _)
      | (with_reducible exact middenlaw01_awake.mono _)
      | (with_reducible exact LeO.refl _)
      | (with_reducible exact LeO.none _)
      | (with_reducible refine LeO.ite ?_ ?_)
      | (with_reducible refine LeO.bind ?_ (fun _ => ?_))
      | exact ih0 _ _ _ _
      | exact middenlaw01_awake.mono _
      | exact LeO.none _
      | refine LeO.ite ?_ ?_
      | refine LeO.bind ?_ (fun _ => ?_)
theorem middenlaw01_WordMoves.mono : ∀ a0 a1 k, LeO (middenlaw01_WordMoves.f k a0 a1) (middenlaw01_WordMoves.f (k + 1) a0 a1) := by
  intro a0 a1 k
  have ih0 := middenlaw01_WordMoves.mono_l k
  unfold middenlaw01_WordMoves.f
  repeat' first
      | (with_reducible exact ih0 _ _ _ _)
      | (with_reducible exact middenlaw01_awake.mono _)
      | (with_reducible exact LeO.refl _)
      | (with_reducible exact LeO.none _)
      | (with_reducible refine LeO.ite ?_ ?_)
      | (with_reducible refine LeO.bind ?_ (fun _ => ?_))
      | exact ih0 _ _ _ _
      | exact middenlaw01_awake.mono _
      | exact LeO.none _
      | refine LeO.ite ?_ ?_
      | refine LeO.bind ?_ (fun _ => ?_)
set_option maxHeartbeats 8000000 in
set_option maxRecDepth 100000 in
theorem middenlaw01_WordMoves.calls (k : Nat) (a0 : Int) (a1 : Int) (r : Bool) (w : World) (h : middenlaw01_WordMoves.f k a0 a1 = some r) :
    Calls Try.prog 5 #[.int .i64 a0, .int .u64 a1] w fun e w' => e = .returned (.bool r) ∧ Below w.heap.size w w' := by
  have HB := Aside0.mk (Below.refl w.heap.size w)
  have H : ((word_Forward.f a0).bind fun bt108 => ((word_Moved.f a1).bind fun bt110 => ((middenref01_Moved.f a1).bind fun bt112 => ((middenlaw01_awake.f k).bind fun t114 => (if t114 = true then (if bt110.1 = bt112.1 then (middenlaw01_WordMoves.j0 k a0 bt108.1 bt108.2 (bt110.2 != bt112.2)) else (middenlaw01_WordMoves.j0 k a0 bt108.1 bt108.2 true)) else (middenlaw01_WordMoves.j0 k a0 bt108.1 bt108.2 true)))))) = some r := h
  clear h
  replace H := Option.bind_eq_some_iff.mp H
  obtain ⟨⟨t108, t109⟩, A30, H⟩ := H
  replace H : ((word_Moved.f a1).bind fun bt110 => ((middenref01_Moved.f a1).bind fun bt112 => ((middenlaw01_awake.f k).bind fun t114 => (if t114 = true then (if bt110.1 = bt112.1 then (middenlaw01_WordMoves.j0 k a0 t108 t109 (bt110.2 != bt112.2)) else (middenlaw01_WordMoves.j0 k a0 t108 t109 true)) else (middenlaw01_WordMoves.j0 k a0 t108 t109 true))))) = some r := H
  have A3 := Aside0.mk A30
  clear A30
  replace H := Option.bind_eq_some_iff.mp H
  obtain ⟨⟨t110, t111⟩, A40, H⟩ := H
  replace H : ((middenref01_Moved.f a1).bind fun bt112 => ((middenlaw01_awake.f k).bind fun t114 => (if t114 = true then (if t110 = bt112.1 then (middenlaw01_WordMoves.j0 k a0 t108 t109 (t111 != bt112.2)) else (middenlaw01_WordMoves.j0 k a0 t108 t109 true)) else (middenlaw01_WordMoves.j0 k a0 t108 t109 true)))) = some r := H
  have A4 := Aside0.mk A40
  clear A40
  replace H := Option.bind_eq_some_iff.mp H
  obtain ⟨⟨t112, t113⟩, A50, H⟩ := H
  replace H : ((middenlaw01_awake.f k).bind fun t114 => (if t114 = true then (if t110 = t112 then (middenlaw01_WordMoves.j0 k a0 t108 t109 (t111 != t113)) else (middenlaw01_WordMoves.j0 k a0 t108 t109 true)) else (middenlaw01_WordMoves.j0 k a0 t108 t109 true))) = some r := H
  have A5 := Aside0.mk A50
  clear A50
  have HC6 := Aside0.mk H
  clear H
  go_enter Try.func5, Try.ntmps5
  go_upto_region 4 with (first | ((with_reducible refine gate_callee (f := 12) rfl ?_); refine goesL_ (some 15) rfl rfl Try.func12 (by kernel_rfl) rfl #[.int .i64 a0] rfl (by (try simp only [List.map_toArray, List.map_cons, List.map_nil]); first | done | rfl | (simp only [List.length_drop, List.length_take]; rfl)) ?_; (with_reducible refine (word_Forward.calls a0 t108 t109 _ A3.out).mono ?_); rintro e w' ⟨rfl, ⟨nd, rfl⟩⟩; refine ⟨_, rfl, ?_⟩) | ((with_reducible refine gate_callee (f := 13) rfl ?_); refine goesL_ (some 20) rfl rfl Try.func13 (by kernel_rfl) rfl #[.int .u64 a1] rfl (by (try simp only [List.map_toArray, List.map_cons, List.map_nil]); first | done | rfl | (simp only [List.length_drop, List.length_take]; rfl)) ?_; (with_reducible refine (word_Moved.calls a1 t110 t111 _ A4.out).mono ?_); rintro e w' ⟨rfl, ⟨nd, rfl⟩⟩; refine ⟨_, rfl, ?_⟩) | ((with_reducible refine gate_callee (f := 14) rfl ?_); refine goesL_ (some 25) rfl rfl Try.func14 (by kernel_rfl) rfl #[.int .u64 a1] rfl (by (try simp only [List.map_toArray, List.map_cons, List.map_nil]); first | done | rfl | (simp only [List.length_drop, List.length_take]; rfl)) ?_; (with_reducible refine (middenref01_Moved.calls a1 t112 t113 _ A5.out).mono ?_); rintro e w' ⟨rfl, ⟨nd, rfl⟩⟩; refine ⟨_, rfl, ?_⟩))
  (try simp only [Act.put, List.setIfInBounds_toArray, List.set_cons_zero, List.set_cons_succ])
  go_cut [39] (fun v39 wc => ∃ (kq : Nat) (x39_5 : Bool), v39 = .bool x39_5 ∧ Aside0 (middenlaw01_WordMoves.j0 kq a0 t108 t109 x39_5 = some r) ∧ Aside0 (kq ≤ k) ∧ Aside0 (Below w.heap.size w wc))
  case first =>
    have H := HC6.out
    clear HC6
    replace H := Option.bind_eq_some_iff.mp H
    obtain ⟨t114, A70, H⟩ := H
    replace H : (if t114 = true then (if t110 = t112 then (middenlaw01_WordMoves.j0 k a0 t108 t109 (t111 != t113)) else (middenlaw01_WordMoves.j0 k a0 t108 t109 true)) else (middenlaw01_WordMoves.j0 k a0 t108 t109 true)) = some r := H
    have A7 := Aside0.mk A70
    clear A70
    by_cases c8 : t114 = true
    · subst c8
      have H1 : (if t110 = t112 then (middenlaw01_WordMoves.j0 k a0 t108 t109 (t111 != t113)) else (middenlaw01_WordMoves.j0 k a0 t108 t109 true)) = some r := by rw [if_pos rfl] at H; exact H
      clear H
      have H := H1
      clear H1
      by_cases c9 : t110 = t112
      · rw [if_pos c9] at H
        have c9b0 : (t110 == t112) = true := beq_iff_eq.mpr c9
        have c9b1 : (t110 != t112) = false := bne_eq_false_iff_eq.mpr c9
        clear c9
        (first | rw [c9b0] | (simp only [i64_w, i32_w]; rw [c9b0]) | skip)
        have H' := Aside0.mk H
        clear H
        go_wp2_with (first | ((with_reducible refine gate_callee (f := 8) rfl ?_); refine goesL_ (some 28) rfl rfl Try.func8 (by kernel_rfl) rfl #[] rfl (by (try simp only [List.map_toArray, List.map_cons, List.map_nil]); first | done | rfl | (simp only [List.length_drop, List.length_take]; rfl)) ?_; (with_reducible refine (middenlaw01_awake.calls k  true _ A7.out).mono ?_); rintro e w10 ⟨rfl, hb⟩; refine ⟨_, rfl, ?_⟩; have n0_ := Aside0.mk (below_step (by repeat (first | (with_reducible first | exact HB.out | apply below_alloc | apply pw_below_drewN | apply below_drew1) | exact HB.out)) hb); clear HB; have HB := n0_; clear n0_; (try clear hb); (try clear hb2); (try clear hk); (try clear hi)))
        go_meet
        case rel => exact ⟨_, ((t111 != t113)), (by first | rfl | (simp; done) | (simp [*]; done)), H', ⟨by first | omega | exact Nat.le_refl _⟩, ⟨by repeat (first | (with_reducible first | exact HB.out | apply below_alloc | apply pw_below_drewN | apply below_drew1) | exact HB.out)⟩⟩
      · rw [if_neg c9] at H
        have c9b0 : (t110 == t112) = false := beq_eq_false_iff_ne.mpr c9
        have c9b1 : (t110 != t112) = true := bne_iff_ne.mpr c9
        (first | rw [c9b0] | (simp only [i64_w, i32_w]; rw [c9b0]) | skip)
        have H' := Aside0.mk H
        clear H
        go_wp2_with (first | ((with_reducible refine gate_callee (f := 8) rfl ?_); refine goesL_ (some 28) rfl rfl Try.func8 (by kernel_rfl) rfl #[] rfl (by (try simp only [List.map_toArray, List.map_cons, List.map_nil]); first | done | rfl | (simp only [List.length_drop, List.length_take]; rfl)) ?_; (with_reducible refine (middenlaw01_awake.calls k  true _ A7.out).mono ?_); rintro e w11 ⟨rfl, hb⟩; refine ⟨_, rfl, ?_⟩; have n0_ := Aside0.mk (below_step (by repeat (first | (with_reducible first | exact HB.out | apply below_alloc | apply pw_below_drewN | apply below_drew1) | exact HB.out)) hb); clear HB; have HB := n0_; clear n0_; (try clear hb); (try clear hb2); (try clear hk); (try clear hi)))
        go_meet
        case rel => exact ⟨_, (true), (by first | rfl | (simp; done) | (simp [*]; done)), H', ⟨by first | omega | exact Nat.le_refl _⟩, ⟨by repeat (first | (with_reducible first | exact HB.out | apply below_alloc | apply pw_below_drewN | apply below_drew1) | exact HB.out)⟩⟩
    · replace c8 := Bool.eq_false_iff.mpr c8
      subst c8
      have H1 : (middenlaw01_WordMoves.j0 k a0 t108 t109 true) = some r := by rw [if_neg (show ¬ (false = true) by decide)] at H; exact H
      clear H
      have H := H1
      clear H1
      have H' := Aside0.mk H
      clear H
      go_wp2_with (first | ((with_reducible refine gate_callee (f := 8) rfl ?_); refine goesL_ (some 28) rfl rfl Try.func8 (by kernel_rfl) rfl #[] rfl (by (try simp only [List.map_toArray, List.map_cons, List.map_nil]); first | done | rfl | (simp only [List.length_drop, List.length_take]; rfl)) ?_; (with_reducible refine (middenlaw01_awake.calls k  false _ A7.out).mono ?_); rintro e w12 ⟨rfl, hb⟩; refine ⟨_, rfl, ?_⟩; have n0_ := Aside0.mk (below_step (by repeat (first | (with_reducible first | exact HB.out | apply below_alloc | apply pw_below_drewN | apply below_drew1) | exact HB.out)) hb); clear HB; have HB := n0_; clear n0_; (try clear hb); (try clear hb2); (try clear hk); (try clear hi)))
      go_meet
      case rel => exact ⟨_, (true), (by first | rfl | (simp; done) | (simp [*]; done)), H', ⟨by first | omega | exact Nat.le_refl _⟩, ⟨by repeat (first | (with_reducible first | exact HB.out | apply below_alloc | apply pw_below_drewN | apply below_drew1) | exact HB.out)⟩⟩
  case rest =>
    clear HC6
    try clear c1
    try clear p2
    try clear c5
    try clear c8
    try clear c9
    try clear c9b0
    try clear c9b1
    try clear c12
    obtain ⟨kq, x39_5, rfl, HA, HJ5, HB⟩ := hcut
    cases kq with
    | zero => exact absurd HA.out (by simp [middenlaw01_WordMoves.j0])
    | succ kj5 =>
      have H := HA.out
      clear HA
      simp only [middenlaw01_WordMoves.j0] at H
      by_cases c13 : x39_5 = true
      · subst c13
        have H1 : (some false) = some r := by rw [if_pos rfl] at H; exact H
        clear H
        have H := H1
        clear H1
        obtain rfl := Option.some.inj H
        go_wp2
        go_ret
        exact ⟨by first | rfl | (simp [errW_none, errW_some] <;> rfl) | (simp [*, errW_none, errW_some] <;> rfl), by repeat (first | (with_reducible first | exact HB.out | apply below_alloc | apply pw_below_drewN | apply below_drew1) | exact HB.out)⟩
      · replace c13 := Bool.eq_false_iff.mpr c13
        subst c13
        have H1 : (if a0 < 1 then (if t108 = 0 then (some (t109 == 4)) else (some false)) else (if a0 > 524288 then (if t108 = 0 then (some (t109 == 4)) else (some false)) else ((word_Moved.f t108).bind fun bt115 => (if t109 = 0 then (if t108 = (IntKind.u64.wrap (2 * (IntKind.u64.wrap (a0)))) then (if bt115.1 = a0 then (some bt115.2) else (some false)) else (some false)) else (some false))))) = some r := by rw [if_neg (show ¬ (false = true) by decide)] at H; exact H
        clear H
        have H := H1
        clear H1
        by_cases c14 : a0 < 1
        · rw [if_pos c14] at H
          have c14b0 : decide (a0 < 1) = true := decide_eq_true c14
          clear c14
          by_cases c15 : t108 = 0
          · rw [if_pos c15] at H
            have c15b0 : (t108 == 0) = true := beq_iff_eq.mpr c15
            have c15b1 : (t108 != 0) = false := bne_eq_false_iff_eq.mpr c15
            clear c15
            obtain rfl := Option.some.inj H
            go_wp2
            go_ret
            exact ⟨by first | rfl | (simp [errW_none, errW_some] <;> rfl) | (simp [*, errW_none, errW_some] <;> rfl), by repeat (first | (with_reducible first | exact HB.out | apply below_alloc | apply pw_below_drewN | apply below_drew1) | exact HB.out)⟩
          · rw [if_neg c15] at H
            have c15b0 : (t108 == 0) = false := beq_eq_false_iff_ne.mpr c15
            have c15b1 : (t108 != 0) = true := bne_iff_ne.mpr c15
            obtain rfl := Option.some.inj H
            go_wp2
            go_ret
            exact ⟨by first | rfl | (simp [errW_none, errW_some] <;> rfl) | (simp [*, errW_none, errW_some] <;> rfl), by repeat (first | (with_reducible first | exact HB.out | apply below_alloc | apply pw_below_drewN | apply below_drew1) | exact HB.out)⟩
        · rw [if_neg c14] at H
          have c14b0 : decide (a0 < 1) = false := decide_eq_false c14
          clear c14
          by_cases c16 : a0 > 524288
          · rw [if_pos c16] at H
            have c16b0 : decide (524288 < a0) = true := decide_eq_true c16
            clear c16
            by_cases c17 : t108 = 0
            · rw [if_pos c17] at H
              have c17b0 : (t108 == 0) = true := beq_iff_eq.mpr c17
              have c17b1 : (t108 != 0) = false := bne_eq_false_iff_eq.mpr c17
              clear c17
              obtain rfl := Option.some.inj H
              go_wp2
              go_ret
              exact ⟨by first | rfl | (simp [errW_none, errW_some] <;> rfl) | (simp [*, errW_none, errW_some] <;> rfl), by repeat (first | (with_reducible first | exact HB.out | apply below_alloc | apply pw_below_drewN | apply below_drew1) | exact HB.out)⟩
            · rw [if_neg c17] at H
              have c17b0 : (t108 == 0) = false := beq_eq_false_iff_ne.mpr c17
              have c17b1 : (t108 != 0) = true := bne_iff_ne.mpr c17
              obtain rfl := Option.some.inj H
              go_wp2
              go_ret
              exact ⟨by first | rfl | (simp [errW_none, errW_some] <;> rfl) | (simp [*, errW_none, errW_some] <;> rfl), by repeat (first | (with_reducible first | exact HB.out | apply below_alloc | apply pw_below_drewN | apply below_drew1) | exact HB.out)⟩
          · rw [if_neg c16] at H
            have c16b0 : decide (524288 < a0) = false := decide_eq_false c16
            clear c16
            replace H := Option.bind_eq_some_iff.mp H
            obtain ⟨⟨t115, t116⟩, A180, H⟩ := H
            replace H : (if t109 = 0 then (if t108 = (IntKind.u64.wrap (2 * (IntKind.u64.wrap (a0)))) then (if t115 = a0 then (some t116) else (some false)) else (some false)) else (some false)) = some r := H
            have A18 := Aside0.mk A180
            clear A180
            by_cases c19 : t109 = 0
            · rw [if_pos c19] at H
              have c19b0 : (t109 == 0) = true := beq_iff_eq.mpr c19
              have c19b1 : (t109 != 0) = false := bne_eq_false_iff_eq.mpr c19
              clear c19
              by_cases c20 : t108 = (IntKind.u64.wrap (2 * (IntKind.u64.wrap (a0))))
              · rw [if_pos c20] at H
                have c20b0 : (t108 == (IntKind.u64.wrap (2 * (IntKind.u64.wrap (a0))))) = true := beq_iff_eq.mpr c20
                have c20b1 : (t108 != (IntKind.u64.wrap (2 * (IntKind.u64.wrap (a0))))) = false := bne_eq_false_iff_eq.mpr c20
                clear c20
                by_cases c21 : t115 = a0
                · rw [if_pos c21] at H
                  have c21b0 : (t115 == a0) = true := beq_iff_eq.mpr c21
                  have c21b1 : (t115 != a0) = false := bne_eq_false_iff_eq.mpr c21
                  clear c21
                  obtain rfl := Option.some.inj H
                  go_wp2_with (first | ((with_reducible refine gate_callee (f := 13) rfl ?_); refine goesL_ (some 54) rfl rfl Try.func13 (by kernel_rfl) rfl #[.int .u64 t108] rfl (by (try simp only [List.map_toArray, List.map_cons, List.map_nil]); first | done | rfl | (simp only [List.length_drop, List.length_take]; rfl)) ?_; (with_reducible refine (word_Moved.calls t108 t115 t116 _ A18.out).mono ?_); rintro e w' ⟨rfl, ⟨nd, rfl⟩⟩; refine ⟨_, rfl, ?_⟩))
                  go_ret
                  exact ⟨by first | rfl | (simp [errW_none, errW_some] <;> rfl) | (simp [*, errW_none, errW_some] <;> rfl), by repeat (first | (with_reducible first | exact HB.out | apply below_alloc | apply pw_below_drewN | apply below_drew1) | exact HB.out)⟩
                · rw [if_neg c21] at H
                  have c21b0 : (t115 == a0) = false := beq_eq_false_iff_ne.mpr c21
                  have c21b1 : (t115 != a0) = true := bne_iff_ne.mpr c21
                  obtain rfl := Option.some.inj H
                  go_wp2_with (first | ((with_reducible refine gate_callee (f := 13) rfl ?_); refine goesL_ (some 54) rfl rfl Try.func13 (by kernel_rfl) rfl #[.int .u64 t108] rfl (by (try simp only [List.map_toArray, List.map_cons, List.map_nil]); first | done | rfl | (simp only [List.length_drop, List.length_take]; rfl)) ?_; (with_reducible refine (word_Moved.calls t108 t115 t116 _ A18.out).mono ?_); rintro e w' ⟨rfl, ⟨nd, rfl⟩⟩; refine ⟨_, rfl, ?_⟩))
                  go_ret
                  exact ⟨by first | rfl | (simp [errW_none, errW_some] <;> rfl) | (simp [*, errW_none, errW_some] <;> rfl), by repeat (first | (with_reducible first | exact HB.out | apply below_alloc | apply pw_below_drewN | apply below_drew1) | exact HB.out)⟩
              · rw [if_neg c20] at H
                have c20b0 : (t108 == (IntKind.u64.wrap (2 * (IntKind.u64.wrap (a0))))) = false := beq_eq_false_iff_ne.mpr c20
                have c20b1 : (t108 != (IntKind.u64.wrap (2 * (IntKind.u64.wrap (a0))))) = true := bne_iff_ne.mpr c20
                obtain rfl := Option.some.inj H
                go_wp2_with (first | ((with_reducible refine gate_callee (f := 13) rfl ?_); refine goesL_ (some 54) rfl rfl Try.func13 (by kernel_rfl) rfl #[.int .u64 t108] rfl (by (try simp only [List.map_toArray, List.map_cons, List.map_nil]); first | done | rfl | (simp only [List.length_drop, List.length_take]; rfl)) ?_; (with_reducible refine (word_Moved.calls t108 t115 t116 _ A18.out).mono ?_); rintro e w' ⟨rfl, ⟨nd, rfl⟩⟩; refine ⟨_, rfl, ?_⟩))
                go_ret
                exact ⟨by first | rfl | (simp [errW_none, errW_some] <;> rfl) | (simp [*, errW_none, errW_some] <;> rfl), by repeat (first | (with_reducible first | exact HB.out | apply below_alloc | apply pw_below_drewN | apply below_drew1) | exact HB.out)⟩
            · rw [if_neg c19] at H
              have c19b0 : (t109 == 0) = false := beq_eq_false_iff_ne.mpr c19
              have c19b1 : (t109 != 0) = true := bne_iff_ne.mpr c19
              obtain rfl := Option.some.inj H
              go_wp2_with (first | ((with_reducible refine gate_callee (f := 13) rfl ?_); refine goesL_ (some 54) rfl rfl Try.func13 (by kernel_rfl) rfl #[.int .u64 t108] rfl (by (try simp only [List.map_toArray, List.map_cons, List.map_nil]); first | done | rfl | (simp only [List.length_drop, List.length_take]; rfl)) ?_; (with_reducible refine (word_Moved.calls t108 t115 t116 _ A18.out).mono ?_); rintro e w' ⟨rfl, ⟨nd, rfl⟩⟩; refine ⟨_, rfl, ?_⟩))
              go_ret
              exact ⟨by first | rfl | (simp [errW_none, errW_some] <;> rfl) | (simp [*, errW_none, errW_some] <;> rfl), by repeat (first | (with_reducible first | exact HB.out | apply below_alloc | apply pw_below_drewN | apply below_drew1) | exact HB.out)⟩

/-- THE ONE PURE STATEMENT of middenlaw01_WordMoves: yours. -/
def middenlaw01_WordMoves.Pure : Prop := ∀ (a0 : Int) (a1 : Int), (Lit.int .i64 a0).wf = true → (Lit.int .u64 a1).wf = true → ∃ k, middenlaw01_WordMoves.f k a0 a1 = some true
theorem middenlaw01_WordMoves.walk (P : middenlaw01_WordMoves.Pure) (a0 : Int) (a1 : Int) (w : World) (w0 : (Lit.int .i64 a0).wf = true) (w1 : (Lit.int .u64 a1).wf = true) :
    Calls Try.prog 5 #[.int .i64 a0, .int .u64 a1] w fun e w' => e = .returned (.bool true) ∧ Below w.heap.size w w' := by
  obtain ⟨k, h⟩ := P a0 a1 w0 w1
  refine (middenlaw01_WordMoves.calls k a0 a1 true w h).mono ?_
  rintro e w' ⟨rfl, hd⟩
  exact ⟨rfl, hd⟩

end Go.Proofs.Ytkfmenmnbhenoaa.PWordMoves
