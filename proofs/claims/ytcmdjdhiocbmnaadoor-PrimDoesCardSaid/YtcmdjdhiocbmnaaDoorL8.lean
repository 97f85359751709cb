/- Layer 8: the five statements' walks: each tells true for every input, where the table of primitives reads as the program's text lays it. -/
import Derived.Test.YtcmdjdhiocbmnaaDoorDo
set_option linter.unusedVariables false
namespace Go.Proofs.YtcmdjdhiocbmnaaDoor.L8
open Go.RowKit Go.Proofs.YtcmdjdhiocbmnaaDoorW.PrintWords Go.Proofs.YtcmdjdhiocbmnaaDoorW.PrintLast Go.Proofs.YtcmdjdhiocbmnaaDoorW.PrintMore
open Of (nm ar nd nameOf arityOf needOf inTab find findFrom str Tab)
open Do (doV)
theorem tab_below {w w' : World} (T : Tab w) (h : Below w.heap.size w w') : Tab w' :=
  ⟨Nat.lt_of_lt_of_le T.size h.size, fun i hi => (h.cell (p := ⟨0, i * 5, none⟩) T.size).trans (T.name i hi), fun i hi => (h.cell (p := ⟨0, i * 5 + 1, none⟩) T.size).trans (T.arity i hi),
    fun i hi => (h.cell (p := ⟨0, i * 5 + 2, none⟩) T.size).trans (T.need0 i hi), fun i hi => (h.cell (p := ⟨0, i * 5 + 3, none⟩) T.size).trans (T.need1 i hi), fun i hi => (h.cell (p := ⟨0, i * 5 + 4, none⟩) T.size).trans (T.need2 i hi)⟩
theorem tab_drewN {w : World} (T : Tab w) (n : Nat) : Tab (w.drewN n) := ⟨T.size, T.name, T.arity, T.need0, T.need1, T.need2⟩
theorem do_any (n a b : Int) (w : World) : Calls Tryd.prog 13 #[.int .i64 n, .int .i64 a, .int .i64 b] w fun e w' => e = .returned (.tuple #[.int .i64 (doV n a b).1, .int .i64 (doV n a b).2]) ∧ Drawn0 w w' :=
  PPrimDoes.prim_Do.calls 5 n a b _ _ w (Do.prim_do n a b)
theorem ref_do_any (n a b : Int) (w : World) (a0 : -9223372036854775808 ≤ a) (a1 : a ≤ 9223372036854775807) (b0 : -9223372036854775808 ≤ b) (b1 : b ≤ 9223372036854775807) :
    Calls Tryd.prog 14 #[.int .i64 n, .int .i64 a, .int .i64 b] w fun e w' => e = .returned (.tuple #[.int .i64 (doV n a b).1, .int .i64 (doV n a b).2]) ∧ Drawn0 w w' :=
  PPrimDoes.middenref08_Do.calls 82 n a b _ _ w (Do.ref_do n a b a0 a1 b0 b1)
theorem ref_name_any (n : Int) (w : World) : Calls Tryd.prog 10 #[.int .i64 n] w fun e w' => e = .returned (.string (nameOf n)) ∧ Drawn0 w w' := PPrimNames.middenref08_Name.calls n _ w (Pr.ref_name n)
theorem ref_find_any (s : ByteArray) (w : World) : Calls Tryd.prog 12 #[.string s] w fun e w' => e = .returned (.int .i64 (find s)) ∧ Drawn0 w w' := PPrimNames.middenref08_Find.calls 20 s _ w (Pr.ref_find s)
theorem ref_arity_any (n : Int) (w : World) : Calls Tryd.prog 16 #[.int .i64 n] w fun e w' => e = .returned (.int .i64 (arityOf n)) ∧ Drawn0 w w' := PPrimNeeds.middenref08_Arity.calls 5 n _ w (Pr.ref_arity n)
theorem ref_need_any (n i : Int) (w : World) : Calls Tryd.prog 18 #[.int .i64 n, .int .i64 i] w fun e w' => e = .returned (.int .i64 (needOf n i)) ∧ Drawn0 w w' := PPrimNeeds.middenref08_Need.calls 9 n i _ w (Pr.ref_need n i)
theorem find_div (w : World) (T : Tab w) : Calls Tryd.prog 11 #[.string ⟨#[35, 100, 105, 118]⟩] w fun e w' => e = .returned (.int .i64 4) ∧ w = w' := by
  have h := Of.find_any ⟨#[35, 100, 105, 118]⟩ w T
  rwa [show find ⟨#[35, 100, 105, 118]⟩ = 4 by decide +kernel] at h
theorem do_div (w : World) : Calls Tryd.prog 13 #[.int .i64 4, .int .i64 (-7), .int .i64 2] w fun e w' => e = .returned (.tuple #[.int .i64 (-3), .int .i64 0]) ∧ Drawn0 w w' := by
  have h := do_any 4 (-7) 2 w
  rwa [show doV 4 (-7) 2 = (-3, 0) by decide +kernel] at h
theorem name_8 (w : World) (T : Tab w) : Calls Tryd.prog 9 #[.int .i64 8] w fun e w' => e = .returned (.string ⟨#[35, 101, 109, 105, 116]⟩) ∧ Below w.heap.size w w' := Of.name_any 8 w T
theorem arity_15 (w : World) (T : Tab w) : Calls Tryd.prog 15 #[.int .i64 15] w fun e w' => e = .returned (.int .i64 3) ∧ Below w.heap.size w w' := Of.arity_any 15 w T
theorem awake (w : World) (T : Tab w) : Calls Tryd.prog 8 #[] w fun e w' => e = .returned (.bool true) ∧ Below w.heap.size w w' := by
  go_enter Tryd.func8, Tryd.ntmps8
  go_wp2_with fail
  refine (find_div _ T).mono ?_; rintro e w' ⟨rfl, rfl⟩
  go_wp2_with fail
  refine (do_div _).mono ?_; rintro e w' ⟨rfl, ⟨nd, rfl⟩⟩
  go_wp2_with fail
  refine (name_8 _ (tab_drewN T nd)).mono ?_; rintro e w2 ⟨rfl, hb⟩
  have B := Lib.hid (show Below w.heap.size w w2 from below_step (pw_below_drewN (Below.refl w.heap.size w) nd) hb)
  clear hb
  go_wp2_with fail
  refine (arity_15 _ (tab_below T B)).mono ?_; rintro e w3 ⟨rfl, hb⟩
  have B2 := Lib.hid (below_step B hb)
  clear hb
  go_wp2_with fail
  go_ret
  exact ⟨rfl, B2⟩
theorem law_does (n a b : Int) (w : World) (T : Tab w) (a0 : -9223372036854775808 ≤ a) (a1 : a ≤ 9223372036854775807) (b0 : -9223372036854775808 ≤ b) (b1 : b ≤ 9223372036854775807) :
    Calls Tryd.prog 4 #[.int .i64 n, .int .i64 a, .int .i64 b] w fun e w' => e = .returned (.bool true) ∧ Below w.heap.size w w' := by
  have hd := fun w => do_any n a b w
  have hr := fun w => ref_do_any n a b w a0 a1 b0 b1
  generalize (doV n a b).1 = x at *
  generalize (doV n a b).2 = e0 at *
  have Hd := Lib.hid hd
  have Hr := Lib.hid hr
  clear hd hr
  go_enter Tryd.func4, Tryd.ntmps4
  go_wp2_with fail
  refine (Hd.out _).mono ?_; rintro e w' ⟨rfl, ⟨nd, rfl⟩⟩
  go_wp2_with fail
  refine (Hr.out _).mono ?_; rintro e w' ⟨rfl, ⟨nd', rfl⟩⟩
  go_wp2_with fail
  refine (awake _ (by repeat (first | exact T | apply tab_drewN))).mono ?_; rintro e w2 ⟨rfl, hb⟩
  have B := Lib.hid (show Below w.heap.size w w2 from below_step (by repeat (first | exact Below.refl _ _ | apply pw_below_drewN)) hb)
  clear hb
  go_wp2_with fail
  go_ret
  exact ⟨Kit.ret_bool (by simp), B⟩
theorem law_needs (n i : Int) (w : World) (T : Tab w) :
    Calls Tryd.prog 7 #[.int .i64 n, .int .i64 i] w fun e w' => e = .returned (.bool true) ∧ Below w.heap.size w w' := by
  go_enter Tryd.func7, Tryd.ntmps7
  go_wp2_with fail
  refine (awake _ T).mono ?_; rintro e w1 ⟨rfl, hb⟩
  have B1 := Lib.hid hb
  have T1 := Lib.hid (tab_below T hb)
  clear hb
  go_wp2_with fail
  refine (Of.arity_any n _ T1).mono ?_; rintro e w2 ⟨rfl, hb⟩
  have B2 := Lib.hid (below_step B1 hb)
  have T2 := Lib.hid (tab_below T1 hb)
  clear hb
  go_wp2_with fail
  refine (ref_arity_any n _).mono ?_; rintro e w' ⟨rfl, ⟨k1, rfl⟩⟩
  go_wp2_with fail
  refine (Of.need_any n i _ (tab_drewN T2 k1)).mono ?_; rintro e w3 ⟨rfl, hb⟩
  have B3 := Lib.hid (show Below w.heap.size w w3 from below_step (pw_below_drewN B2 k1) hb)
  clear hb
  go_wp2_with fail
  refine (ref_need_any n i _).mono ?_; rintro e w' ⟨rfl, ⟨k2, rfl⟩⟩
  go_wp2_with fail
  go_ret
  exact ⟨Kit.ret_bool (by simp), pw_below_drewN B3 k2⟩
theorem tab_find : ∀ j : Fin 17, 1 ≤ j.val → find (nm j.val) = (j.val : Int) := by decide +kernel
theorem law_names_in (n : Int) (t s : ByteArray) (w : World) (T : Tab w) (h1 : (t.toList = []) = False) (h2 : t.toList.isEmpty = false)
    (hn : ∀ w, Tab w → Calls Tryd.prog 9 #[.int .i64 n] w fun e w' => e = .returned (.string t) ∧ Below w.heap.size w w') (hr : ∀ w, Calls Tryd.prog 10 #[.int .i64 n] w fun e w' => e = .returned (.string t) ∧ Drawn0 w w')
    (hf : ∀ w, Tab w → Calls Tryd.prog 11 #[.string t] w fun e w' => e = .returned (.int .i64 n) ∧ w = w') :
    Calls Tryd.prog 3 #[.int .i64 n, .string s] w fun e w' => e = .returned (.bool true) ∧ Below w.heap.size w w' := by
  have Hn := Lib.hid hn
  have Hr := Lib.hid hr
  have Hf := Lib.hid hf
  clear hn hr hf
  go_enter Tryd.func3, Tryd.ntmps3
  go_wp2_with fail
  refine (awake _ T).mono ?_; rintro e w1 ⟨rfl, hb⟩
  have B1 := Lib.hid hb
  have T1 := Lib.hid (tab_below T hb)
  clear hb
  go_wp2_with fail
  refine (Hn.out _ T1).mono ?_; rintro e w2 ⟨rfl, hb⟩
  have B2 := Lib.hid (below_step B1 hb)
  have T2 := Lib.hid (tab_below T1 hb)
  clear hb
  go_wp2_with fail
  refine (Hr.out _).mono ?_; rintro e w' ⟨rfl, ⟨k1, rfl⟩⟩
  go_wp2_with fail
  refine (Of.find_any s _ (tab_drewN T2 k1)).mono ?_; rintro e w' ⟨rfl, rfl⟩
  go_wp2_with fail
  refine (ref_find_any s _).mono ?_; rintro e w' ⟨rfl, ⟨k2, rfl⟩⟩
  go_wp2_with fail
  refine (Hn.out _ (by repeat (first | exact T2 | apply tab_drewN))).mono ?_; rintro e w3 ⟨rfl, hb⟩
  have B3 := Lib.hid (show Below w.heap.size w w3 from below_step (by repeat (first | exact B2 | apply pw_below_drewN)) hb)
  have T3 := Lib.hid (show Tab w3 from tab_below (by repeat (first | exact T2 | apply tab_drewN)) hb)
  clear hb
  go_wp2_with fail
  refine (Hn.out _ T3).mono ?_; rintro e w4 ⟨rfl, hb⟩
  have B4 := Lib.hid (below_step B3 hb)
  have T4 := Lib.hid (tab_below T3 hb)
  clear hb
  go_wp2_with fail
  refine (Hf.out _ T4).mono ?_; rintro e w' ⟨rfl, rfl⟩
  go_wp2_with fail
  go_ret
  exact ⟨Kit.ret_bool (by simp), B4⟩
theorem law_names_out (n : Int) (s : ByteArray) (w : World) (T : Tab w)
    (hn : ∀ w, Tab w → Calls Tryd.prog 9 #[.int .i64 n] w fun e w' => e = .returned (.string ⟨#[]⟩) ∧ Below w.heap.size w w') (hr : ∀ w, Calls Tryd.prog 10 #[.int .i64 n] w fun e w' => e = .returned (.string ⟨#[]⟩) ∧ Drawn0 w w') :
    Calls Tryd.prog 3 #[.int .i64 n, .string s] w fun e w' => e = .returned (.bool true) ∧ Below w.heap.size w w' := by
  have Hn := Lib.hid hn
  have Hr := Lib.hid hr
  clear hn hr
  go_enter Tryd.func3, Tryd.ntmps3
  go_wp2_with fail
  refine (awake _ T).mono ?_; rintro e w1 ⟨rfl, hb⟩
  have B1 := Lib.hid hb
  have T1 := Lib.hid (tab_below T hb)
  clear hb
  go_wp2_with fail
  refine (Hn.out _ T1).mono ?_; rintro e w2 ⟨rfl, hb⟩
  have B2 := Lib.hid (below_step B1 hb)
  have T2 := Lib.hid (tab_below T1 hb)
  clear hb
  go_wp2_with fail
  refine (Hr.out _).mono ?_; rintro e w' ⟨rfl, ⟨k1, rfl⟩⟩
  go_wp2_with fail
  refine (Of.find_any s _ (tab_drewN T2 k1)).mono ?_; rintro e w' ⟨rfl, rfl⟩
  go_wp2_with fail
  refine (ref_find_any s _).mono ?_; rintro e w' ⟨rfl, ⟨k2, rfl⟩⟩
  go_wp2_with fail
  refine (Hn.out _ (by repeat (first | exact T2 | apply tab_drewN))).mono ?_; rintro e w3 ⟨rfl, hb⟩
  have B3 := Lib.hid (show Below w.heap.size w w3 from below_step (by repeat (first | exact B2 | apply pw_below_drewN)) hb)
  clear hb
  go_wp2_with fail
  go_ret
  exact ⟨Kit.ret_bool (by simp), B3⟩
theorem law_names (n : Int) (s : ByteArray) (w : World) (T : Tab w) :
    Calls Tryd.prog 3 #[.int .i64 n, .string s] w fun e w' => e = .returned (.bool true) ∧ Below w.heap.size w w' := by
  by_cases c : inTab n
  · have hn := fun (w : World) (T : Tab w) => Of.name_any n w T
    have hr := fun w => ref_name_any n w
    have c' := c
    unfold inTab at c'
    obtain ⟨k, rfl⟩ := Int.eq_ofNat_of_zero_le (show 0 ≤ n by omega)
    have e : nameOf (k : Int) = nm k := by unfold nameOf; rw [if_pos c]; rfl
    rw [e] at hn hr
    have h2 := Of.names_ne k (by omega) (by omega)
    have hf := fun (w : World) (T : Tab w) => Of.find_any (nm k) w T
    rw [show find (nm k) = (k : Int) from tab_find ⟨k, by omega⟩ (by show 1 ≤ k; omega)] at hf
    refine law_names_in k (nm k) s w T ?_ h2 hn hr hf
    rw [List.isEmpty_eq_false_iff] at h2
    simp [h2]
  · have hn := fun (w : World) (T : Tab w) => Of.name_any n w T
    have hr := fun w => ref_name_any n w
    have e : nameOf n = ⟨#[]⟩ := by unfold nameOf; rw [if_neg c]; rfl
    rw [e] at hn hr
    exact law_names_out n s w T hn hr

theorem law_orders (a b x y z : Int) (w : World) (T : Tab w)
    (hx : ∀ w, Calls Tryd.prog 13 #[.int .i64 7, .int .i64 a, .int .i64 b] w fun e w' => e = .returned (.tuple #[.int .i64 x, .int .i64 0]) ∧ Drawn0 w w')
    (hy : ∀ w, Calls Tryd.prog 13 #[.int .i64 6, .int .i64 a, .int .i64 b] w fun e w' => e = .returned (.tuple #[.int .i64 y, .int .i64 0]) ∧ Drawn0 w w')
    (hz : ∀ w, Calls Tryd.prog 13 #[.int .i64 7, .int .i64 b, .int .i64 a] w fun e w' => e = .returned (.tuple #[.int .i64 z, .int .i64 0]) ∧ Drawn0 w w')
    (x0 : 0 ≤ x) (x1 : x ≤ 1) (y0 : 0 ≤ y) (y1 : y ≤ 1) (z0 : 0 ≤ z) (z1 : z ≤ 1) (hs : x + y + z = 1) :
    Calls Tryd.prog 6 #[.int .i64 a, .int .i64 b] w fun e w' => e = .returned (.bool true) ∧ Below w.heap.size w w' := by
  have Hx := Lib.hid hx
  have Hy := Lib.hid hy
  have Hz := Lib.hid hz
  have HS := Lib.hid hs
  clear hx hy hz hs
  go_enter Tryd.func6, Tryd.ntmps6
  go_wp2_with fail
  refine (Hx.out _).mono ?_; rintro e w' ⟨rfl, ⟨k1, rfl⟩⟩
  go_wp2_with fail
  refine (Hy.out _).mono ?_; rintro e w' ⟨rfl, ⟨k2, rfl⟩⟩
  go_wp2_with fail
  refine (Hz.out _).mono ?_; rintro e w' ⟨rfl, ⟨k3, rfl⟩⟩
  go_wp2_with fail
  refine (awake _ (by repeat (first | exact T | apply tab_drewN))).mono ?_; rintro e w2 ⟨rfl, hb⟩
  have B := Lib.hid (show Below w.heap.size w w2 from below_step (by repeat (first | exact Below.refl _ _ | apply pw_below_drewN)) hb)
  clear hb
  go_wp2_with fail
  go_ret
  exact ⟨Kit.ret_bool (by rw [HS.out]; rfl), B⟩
theorem orders (a b : Int) (w : World) (T : Tab w) : Calls Tryd.prog 6 #[.int .i64 a, .int .i64 b] w fun e w' => e = .returned (.bool true) ∧ Below w.heap.size w w' := by
  have e7 : ∀ u v, doV 7 u v = (if u < v then 1 else 0, 0) := fun u v => by unfold doV; simp
  have e6 : ∀ u v, doV 6 u v = (if u = v then 1 else 0, 0) := fun u v => by unfold doV; simp
  have hx := fun w => do_any 7 a b w
  have hy := fun w => do_any 6 a b w
  have hz := fun w => do_any 7 b a w
  rw [e7] at hx hz
  rw [e6] at hy
  refine law_orders a b _ _ _ w T hx hy hz ?_ ?_ ?_ ?_ ?_ ?_ ?_
  all_goals (simp only; (repeat split) <;> omega)
theorem wrap_mod (x : Int) : wrap64 x % 18446744073709551616 = x % 18446744073709551616 := by unfold wrap64; omega
theorem wrap_congr {x y : Int} (h : x % 18446744073709551616 = y % 18446744073709551616) : wrap64 x = wrap64 y := by unfold wrap64; omega
theorem back (a b : Int) (a0 : -9223372036854775808 ≤ a) (a1 : a ≤ 9223372036854775807) : wrap64 (wrap64 (wrap64 (a.tdiv b) * b) + a.tmod b) = a := by
  have e : wrap64 (wrap64 (wrap64 (a.tdiv b) * b) + a.tmod b) = wrap64 a := by
    refine wrap_congr ?_
    rw [Int.add_emod, wrap_mod, Int.mul_emod, wrap_mod, ← Int.mul_emod, ← Int.add_emod]
    have := Int.tmod_add_mul_tdiv a b
    rw [Int.mul_comm (a.tdiv b) b, Int.add_comm, this]
  rw [e]
  exact Pr.wrap_in a a0 a1
theorem law_parts (a b q r p rr bb : Int) (w : World) (T : Tab w)
    (hq : ∀ w, Calls Tryd.prog 13 #[.int .i64 4, .int .i64 a, .int .i64 b] w fun e w' => e = .returned (.tuple #[.int .i64 q, .int .i64 0]) ∧ Drawn0 w w')
    (hr : ∀ w, Calls Tryd.prog 13 #[.int .i64 5, .int .i64 a, .int .i64 b] w fun e w' => e = .returned (.tuple #[.int .i64 r, .int .i64 0]) ∧ Drawn0 w w')
    (hp : ∀ w, Calls Tryd.prog 13 #[.int .i64 3, .int .i64 q, .int .i64 b] w fun e w' => e = .returned (.tuple #[.int .i64 p, .int .i64 0]) ∧ Drawn0 w w')
    (hs : ∀ w, Calls Tryd.prog 13 #[.int .i64 1, .int .i64 p, .int .i64 r] w fun e w' => e = .returned (.tuple #[.int .i64 a, .int .i64 0]) ∧ Drawn0 w w')
    (b0 : -9223372036854775808 ≤ b) (b1 : b ≤ 9223372036854775807) (r0 : -9223372036854775808 ≤ r) (r1 : r ≤ 9223372036854775807)
    (cr : (0 < r ∧ 0 < a) ∨ (r ≤ 0 ∧ 0 ≤ r) ∨ (r < 0 ∧ a < 0)) (cb : (0 < b ∧ r < b ∧ -b < r) ∨ (b < 0 ∧ r < -b ∧ b < r)) :
    Calls Tryd.prog 5 #[.int .i64 a, .int .i64 b] w fun e w' => e = .returned (.bool true) ∧ Below w.heap.size w w' := by
  have Hq := Lib.hid hq
  have Hr := Lib.hid hr
  have Hp := Lib.hid hp
  have HS := Lib.hid hs
  clear hq hr hp hs
  rcases cr with ⟨c1, c2⟩ | ⟨c1, c2⟩ | ⟨c1, c2⟩
  all_goals rcases cb with ⟨d1, d2, d3⟩ | ⟨d1, d2, d3⟩
  all_goals
    go_enter Tryd.func5, Tryd.ntmps5
    go_wp2_with fail
    refine (Hq.out _).mono ?_; rintro e w' ⟨rfl, ⟨k1, rfl⟩⟩
    go_wp2_with fail
    refine (Hr.out _).mono ?_; rintro e w' ⟨rfl, ⟨k2, rfl⟩⟩
    go_wp2_with fail
    refine (awake _ (by repeat (first | exact T | apply tab_drewN))).mono ?_; rintro e w2 ⟨rfl, hb⟩
    have B := Lib.hid (show Below w.heap.size w w2 from below_step (by repeat (first | exact Below.refl _ _ | apply pw_below_drewN)) hb)
    clear hb
    go_wp2_with fail
    refine (Hp.out _).mono ?_; rintro e w' ⟨rfl, ⟨k3, rfl⟩⟩
    go_wp2_with fail
    refine (HS.out _).mono ?_; rintro e w' ⟨rfl, ⟨k4, rfl⟩⟩
    go_wp2_with fail
    go_ret
    exact ⟨Kit.ret_bool (by first | rfl | (simp; done) | (simp; omega)), by repeat (first | exact B | apply pw_below_drewN)⟩
theorem law_zero (a : Int) (w : World) (T : Tab w)
    (hq : ∀ w, Calls Tryd.prog 13 #[.int .i64 4, .int .i64 a, .int .i64 0] w fun e w' => e = .returned (.tuple #[.int .i64 0, .int .i64 40]) ∧ Drawn0 w w')
    (hr : ∀ w, Calls Tryd.prog 13 #[.int .i64 5, .int .i64 a, .int .i64 0] w fun e w' => e = .returned (.tuple #[.int .i64 0, .int .i64 40]) ∧ Drawn0 w w') :
    Calls Tryd.prog 5 #[.int .i64 a, .int .i64 0] w fun e w' => e = .returned (.bool true) ∧ Below w.heap.size w w' := by
  have Hq := Lib.hid hq
  have Hr := Lib.hid hr
  clear hq hr
  go_enter Tryd.func5, Tryd.ntmps5
  go_wp2_with fail
  refine (Hq.out _).mono ?_; rintro e w' ⟨rfl, ⟨k1, rfl⟩⟩
  go_wp2_with fail
  refine (Hr.out _).mono ?_; rintro e w' ⟨rfl, ⟨k2, rfl⟩⟩
  go_wp2_with fail
  refine (awake _ (by repeat (first | exact T | apply tab_drewN))).mono ?_; rintro e w2 ⟨rfl, hb⟩
  have B := Lib.hid (show Below w.heap.size w w2 from below_step (by repeat (first | exact Below.refl _ _ | apply pw_below_drewN)) hb)
  clear hb
  go_wp2_with fail
  go_ret
  exact ⟨Kit.ret_bool (by first | rfl | (simp; done)), B⟩
theorem rest_sign (a b : Int) (hb : b ≠ 0) : ((0 < a.tmod b ∧ 0 < a) ∨ (a.tmod b ≤ 0 ∧ 0 ≤ a.tmod b) ∨ (a.tmod b < 0 ∧ a < 0)) ∧ ((0 < b ∧ a.tmod b < b ∧ -b < a.tmod b) ∨ (b < 0 ∧ a.tmod b < -b ∧ b < a.tmod b)) := by
  have h1 : 0 ≤ a → 0 ≤ a.tmod b := fun h => Int.tmod_nonneg b h
  have h2 : a ≤ 0 → a.tmod b ≤ 0 := fun h => by
    have := Int.tmod_nonneg b (show 0 ≤ -a by omega)
    rw [Int.neg_tmod] at this; omega
  have lt : ∀ x : Int, 0 ≤ x → ∀ y : Int, 0 < y → x.tmod y < y := fun x hx y hy => Int.tmod_lt_of_pos x hy
  refine ⟨by omega, ?_⟩
  by_cases hp : 0 < b
  · refine .inl ⟨hp, Int.tmod_lt_of_pos a hp, ?_⟩
    have := Int.tmod_lt_of_pos (-a) hp
    rw [Int.neg_tmod] at this; omega
  · refine .inr ⟨by omega, ?_, ?_⟩
    · have := Int.tmod_lt_of_pos a (show 0 < -b by omega)
      rw [Int.tmod_neg] at this; exact this
    · have := Int.tmod_lt_of_pos (-a) (show 0 < -b by omega)
      rw [Int.tmod_neg, Int.neg_tmod] at this; omega
theorem parts (a b : Int) (w : World) (T : Tab w) (a0 : -9223372036854775808 ≤ a) (a1 : a ≤ 9223372036854775807) (b0 : -9223372036854775808 ≤ b) (b1 : b ≤ 9223372036854775807) :
    Calls Tryd.prog 5 #[.int .i64 a, .int .i64 b] w fun e w' => e = .returned (.bool true) ∧ Below w.heap.size w w' := by
  by_cases hb : b = 0
  · subst hb
    have hq := fun w => do_any 4 a 0 w
    have hr := fun w => do_any 5 a 0 w
    rw [show doV 4 a 0 = (0, 40) by unfold doV; simp] at hq
    rw [show doV 5 a 0 = (0, 40) by unfold doV; simp] at hr
    exact law_zero a w T hq hr
  · have hq := fun w => do_any 4 a b w
    have hr := fun w => do_any 5 a b w
    have hp := fun w => do_any 3 (wrap64 (a.tdiv b)) b w
    have hs := fun w => do_any 1 (wrap64 (wrap64 (a.tdiv b) * b)) (a.tmod b) w
    rw [show doV 4 a b = (wrap64 (a.tdiv b), 0) by unfold doV; simp [hb]] at hq
    rw [show doV 5 a b = (a.tmod b, 0) by unfold doV; simp [hb]] at hr
    rw [show doV 3 (wrap64 (a.tdiv b)) b = (wrap64 (wrap64 (a.tdiv b) * b), 0) by unfold doV; simp] at hp
    rw [show doV 1 (wrap64 (wrap64 (a.tdiv b) * b)) (a.tmod b) = (a, 0) by unfold doV; simp [back a b a0 a1]] at hs
    have r := Do.tmod_in a b a0 a1
    have sg := rest_sign a b hb
    exact law_parts a b _ _ _ 0 0 w T hq hr hp hs b0 b1 r.1 r.2 sg.1 sg.2
end Go.Proofs.YtcmdjdhiocbmnaaDoor.L8
