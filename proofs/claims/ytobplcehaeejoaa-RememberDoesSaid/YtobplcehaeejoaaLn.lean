/- Lists of addresses: All of a generation that is none; Take; New. No condition. -/
import Derived.Test.YtobplcehaeejoaaLw
set_option linter.unusedVariables false
set_option linter.unusedSimpArgs false
namespace Go.Proofs.Ytobplcehaeejoaa.Ln
open Go.RowKit Se Mq Sm Ls Nx Lw
section
variable {w w' : World} {s r g n : Nat} {b : Nat → Nat} {M : Nat → List Int} {K : Nat → Prop}
set_option maxHeartbeats 2000000 in
theorem all_none (w : World) (p : Value) (gen : Int) (LI : Calls Try.prog 22 #[p, .int .i64 gen] w fun e w' => e = .returned (.map none) ∧ w' = w) :
    Calls Try.prog 11 #[p, .int .i64 gen] w fun e w' => e = .returned (.slice none 0 0) ∧ Below w.heap.size w w' := by
  have L1 := Lib.hid LI
  have SN := Lib.hid (fun w => Try.slices_Sort_int_none none 0 w)
  have hr := fun (w : World) => run_range_nilMap (P := Try.prog) w 48 3 3 Try.underlying48
  have hx := fun (w : World) (ty : TypeId) => run_next_nilMap (P := Try.prog) w ty 0 0 #[]
  clear LI
  go_enter Try.func11, Try.ntmps11
  go_wp2_with fail
  refine L1.out.mono ?_
  rintro e w ⟨rfl, rfl⟩
  go_wp2_with fail
  refine wp_loop_rounds 1 ?_
  rw [rounds_succ]
  go_wp2_with fail
  refine (SN.out _).mono ?_
  rintro e w2 ⟨rfl, rfl⟩
  go_wp2_with fail
  go_ret
  exact ⟨rfl, Kit.allocB (Below.refl _ _) _⟩
set_option maxHeartbeats 2000000 in
theorem take_none (w : World) (p : Value) (gen : Int) (LI : Calls Try.prog 22 #[p, .int .i64 gen] w fun e w' => e = .returned (.map none) ∧ w' = w) :
    Calls Try.prog 14 #[p, .int .i64 gen] w fun e w' => e = .returned (.slice none 0 0) ∧ Below w.heap.size w w' := by
  have AI := Lib.hid (all_none w p gen LI)
  clear LI
  go_enter Try.func14, Try.ntmps14
  go_wp2_with fail
  refine AI.out.mono ?_
  rintro e w2 ⟨rfl, b2⟩
  have B2 := Lib.hid b2
  clear b2 AI
  go_wp2_with fail
  refine wp_loop_rounds 1 ?_
  rw [rounds_succ]
  go_wp2_with fail
  go_ret
  exact ⟨rfl, B2.out⟩
theorem upd_upd {α : Type} (f : Nat → α) (i : Nat) (x y : α) : upd (upd f i x) i y = upd f i y := by
  funext j
  unfold upd
  split <;> rfl
theorem upd_same {α : Type} (f : Nat → α) (i : Nat) : upd f i (f i) = f := by
  funext j
  unfold upd
  split
  · rename_i h; subst h; rfl
  · rfl
theorem upd_at {α : Type} (f : Nat → α) (i : Nat) (x : α) : upd f i x i = x := by simp [upd]
theorem rem_drop {m : List Int} (h : Up m) (j : Nat) (hj : j < m.length) : rem (m.getD j 0) (m.drop j) = m.drop (j + 1) := by
  have e : m.drop j = m[j] :: m.drop (j + 1) := List.drop_eq_getElem_cons hj
  have u : Up (m.drop j) := h.sublist (List.drop_sublist _ _)
  have g : m.getD j 0 = m[j] := by simp [List.getD_eq_getElem?_getD, hj]
  rw [g, e]
  rw [e] at u
  have hx := (List.pairwise_cons.1 u).1
  have : rem m[j] (m[j] :: m.drop (j + 1)) = rem m[j] (m.drop (j + 1)) := by unfold rem; rw [List.filter_cons_of_neg (by simp)]
  rw [this]
  unfold rem
  rw [List.filter_eq_self]
  intro a ha
  have := hx a ha
  simp
  omega
/-- On the way of Take: so many are taken out. -/
structure Tw (w wr : World) (s r g : Nat) (b : Nat → Nat) (n : Nat) (M : Nat → List Int) (i : Nat) (v : Value) (j : Nat) : Prop where
  lv : Lv wr s r g b n (upd M i ((M i).drop j))
  own : wr.ownsRow w.heap.size 3 1 v (M i).length (ints (M i))
  mod : ModP (fun k => k = b i) w wr
theorem Tw.step {w wr : World} {i j : Nat} {v : Value} (h : Tw w wr s r g b n M i v j) (hw : Lv w s r g b n M) (hi : i < g) (hj : j < (M i).length) (hf : ∀ x ∈ M i, (Lit.int .i64 x).wf = true) (ty : TypeId) :
    ∃ w', (Builtin.delete_ #[48, 3] ty #[.map (some (b i)), .int .i64 ((M i).getD j 0)]).run Try.prog wr = .ok (.tuple #[]) w' ∧ Tw w w' s r g b n M i v (j + 1) := by
  have S := h.lv.set i hi
  rw [upd_at] at S
  have u := (hw.set i hi).up
  obtain ⟨w', hr, S1, g1, z1⟩ := S.del ((M i).getD j 0) (hf _ (by rw [List.getD_eq_getElem?_getD]; simp [hj])) ty
  rw [rem_drop u j hj] at S1
  obtain ⟨L1, m1⟩ := h.lv.turn i hi S1 (Nat.le_refl _) g1
  rw [upd_upd] at L1
  refine ⟨w', hr, L1, own_kept h.own (fun k hk => ?_), h.mod.trans m1 (fun _ _ c => c)⟩
  have := h.own.lt k hk
  have := (hw.set i hi).lt
  exact m1.block k (by omega) (by omega)
set_option maxHeartbeats 2000000 in
set_option maxRecDepth 100000 in
theorem take_it (h : Lv w s r g b n M) (i : Nat) (hi : i < g) (hn : n ≤ 1000) (hf : ∀ x ∈ M i, (Lit.int .i64 x).wf = true) : Calls Try.prog 14 #[.pointer (some ⟨s, 0, none⟩), .int .i64 i] w fun e w' =>
    ∃ v, e = .returned v ∧ w'.ownsRow w.heap.size 3 1 v (M i).length (ints (M i)) ∧ Lv w' s r g b n (upd M i []) ∧ ModP (fun k => k = b i) w w' := by
  have AI := Lib.hid (all_it h i hi hn)
  have HL := Lib.hid h
  have sm := h.small
  have hlen := (h.set i hi).size_le
  obtain ⟨N, hN⟩ : ∃ N, N = (M i).length := ⟨_, rfl⟩
  have HN := Lib.hid hN
  rw [← hN] at AI hlen
  clear h hN
  go_enter Try.func14, Try.ntmps14
  go_wp2_with fail
  refine AI.out.mono ?_
  rintro e w2 ⟨v, rfl, o2, b2⟩
  obtain ⟨va, vc, rfl⟩ := own_shape o2
  have HT := Lib.hid (show Tw w w2 s r g b n M i (.slice va N vc) 0 from ⟨by rw [List.drop_zero, upd_same]; exact HL.out.keepB b2, by rw [← HN.out]; exact o2, ModP.of_below b2⟩)
  clear o2 b2 AI
  go_wp2_with fail
  go_loopg [13] N (fun q c wr => ∃ j : Nat, (j ≤ N ∧ q = N - j) ∧ c = .int .i64 j ∧ Hid (Tw w wr s r g b n M i (.slice va N vc) j))
  case atStart => exact ⟨0, ⟨Nat.zero_le _, rfl⟩, rfl, HT⟩
  case round =>
    obtain ⟨j, ⟨hj, rfl⟩, rfl, H⟩ := hrel
    by_cases hlt : j < N
    · have ow := H.out.own
      rw [← HN.out] at ow
      obtain ⟨p0, c0, e0, S0, _⟩ := Sl.of (ps := M i) ow HN.out
      simp only [Value.slice.injEq] at e0
      obtain ⟨rfl, _, rfl⟩ := e0
      obtain ⟨bb, off, rfl, hbb, hc⟩ := S0.cells (by rw [← HN.out]; omega)
      have c1 := hc j (by rw [← HN.out]; omega)
      have c2 := Kit.cells1 H.out.lv.obj
      have c3 := H.out.lv.cell i hi
      obtain ⟨w3, hr, T3⟩ := H.out.step HL.out hi (by rw [← HN.out]; omega) hf 0
      have HT3 := Lib.hid T3
      generalize (M i).getD j 0 = x at *
      generalize b i = bi at *
      clear hc S0 ow H T3 hbb
      go_wp2_with fail
      go_roundg (N - (j + 1))
      case measure => omega
      case rel => exact ⟨j + 1, ⟨by omega, rfl⟩, by simp, HT3⟩
    · obtain rfl : j = N := by omega
      have HX := Lib.hid (show wr.ownsRow w.heap.size 3 1 (.slice va j vc) (M i).length (ints (M i)) ∧ Lv wr s r g b n (upd M i []) ∧ ModP (fun k => k = b i) w wr from ⟨H.out.own, by
        have e : (M i).drop j = [] := List.drop_eq_nil_of_le (by rw [← HN.out]; exact Nat.le_refl _)
        have := H.out.lv
        rw [e] at this
        exact this, H.out.mod⟩)
      clear H
      go_wp2_with fail
      go_ret
      exact ⟨.slice va j vc, rfl, HX.out⟩
end
end Go.Proofs.Ytobplcehaeejoaa.Ln
