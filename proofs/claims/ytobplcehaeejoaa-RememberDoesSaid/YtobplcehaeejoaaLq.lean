/- Lists of addresses, as a law holds them; the law's helper awake. No condition. -/
import Derived.Test.YtobplcehaeejoaaLm
set_option linter.unusedVariables false
set_option linter.unusedSimpArgs false
namespace Go.Proofs.Ytobplcehaeejoaa.Lq
open Go.RowKit Se Mq Sm Ls Nx Lw Ln Lm
def putF (g : Nat) (M : Nat → List Int) (gen k : Int) : Nat → List Int := if wc g gen k = 0 then upd M gen.toNat (ins k (M gen.toNat)) else M
def dropF (g : Nat) (M : Nat → List Int) (gen k : Int) : Nat → List Int := if wc g gen k = 0 then upd M gen.toNat (rem k (M gen.toNat)) else M
def allF (g : Nat) (M : Nat → List Int) (gen : Int) : List Int := if 0 ≤ gen ∧ gen < g then M gen.toNat else []
def takeF (g : Nat) (M : Nat → List Int) (gen : Int) : Nat → List Int := if 0 ≤ gen ∧ gen < g then upd M gen.toNat [] else M
structure St (W w : World) (s r g : Nat) (b : Nat → Nat) (n : Nat) (M : Nat → List Int) : Prop where
  lv : Lv w s r g b n M
  rng : ∀ i, i < g → ∀ x ∈ M i, 1 ≤ x ∧ x ≤ 524288
  low : ∀ k, Own s r g b k → W.heap.size ≤ k
  bel : Below W.heap.size W w
section
variable {W w w' : World} {s r g n : Nat} {b : Nat → Nat} {M : Nat → List Int} {K : Nat → Prop}
theorem St.below (h : St W w s r g b n M) (m : Below w.heap.size w w') : St W w' s r g b n M := ⟨h.lv.keepB m, h.rng, h.low, Kit.stepB h.bel m⟩
theorem St.keepP (h : St W w s r g b n M) (m : ModP K w w') (hd : ∀ k, Own s r g b k → ¬ K k) (hk : ∀ k, K k → W.heap.size ≤ k) : St W w' s r g b n M := ⟨h.lv.keepP m hd, h.rng, h.low, Mq.step h.bel m hk⟩
theorem St.mono (h : St W w s r g b n M) {n' : Nat} (hn : n ≤ n') : St W w s r g b n' M := ⟨h.lv.mono hn, h.rng, h.low, h.bel⟩
theorem St.new (h1 : 1 ≤ g) (h2 : g ≤ 4) (hb : Below W.heap.size W w) : Calls Try.prog 8 #[.int .i64 g] w fun e w' => ∃ s r b, e = .returned (.tuple #[.pointer (some ⟨s, 0, none⟩), .int .i64 0]) ∧ St W w' s r g b 0 (fun _ => []) ∧ Below w.heap.size w w' ∧ ∀ k, Own s r g b k → w.heap.size ≤ k := by
  refine (new_it w g h1 h2).mono ?_
  rintro e w' ⟨b, rfl, b1, L, lo⟩
  have lw : ∀ k, Own (w.heap.size + 1) w.heap.size g b k → w.heap.size ≤ k := fun k hk => by
    rcases hk with rfl | rfl | ⟨i, hi, rfl⟩
    · omega
    · omega
    · exact lo i hi
  exact ⟨_, _, b, rfl, ⟨L, fun i _ x hx => (by cases hx), fun k hk => Nat.le_trans hb.size (lw k hk), Kit.stepB hb b1⟩, b1, lw⟩
theorem St.put (h : St W w s r g b n M) (hn : n ≤ 1000000) (gen k : Int) : Calls Try.prog 10 #[.pointer (some ⟨s, 0, none⟩), .int .i64 gen, .int .i64 k] w fun e w' =>
    e = .returned (.int .i64 (wc g gen k : Nat)) ∧ St W w' s r g b (n + 1) (putF g M gen k) ∧ ModP (Own s r g b) w w' := by
  refine (put_it h.lv hn gen k).mono ?_
  intro e w' hp
  unfold putF
  cases hp with
  | bad hc L =>
    rw [if_neg hc]
    exact ⟨rfl, h.mono (by omega), ModP.refl _ _⟩
  | ok i hi e ha L m =>
    have hc : wc g gen k = 0 := by unfold wc; rw [if_neg (by omega), if_neg (by omega)]
    subst e
    rw [if_pos hc, hc, Int.toNat_natCast]
    refine ⟨rfl, ⟨L, fun j hj x hx => ?_, h.low, Mq.step h.bel m (fun q hq => h.low q (by subst hq; exact .inr (.inr ⟨i, hi, rfl⟩)))⟩, m.weaken (fun q _ hq => by subst hq; exact .inr (.inr ⟨i, hi, rfl⟩))⟩
    unfold upd at hx
    split at hx
    · rename_i e
      subst e
      rcases (mem_ins k x _).1 hx with rfl | hx
      · exact ha
      · exact h.rng j hj x hx
    · exact h.rng j hj x hx
theorem St.drop (h : St W w s r g b n M) (gen k : Int) : Calls Try.prog 19 #[.pointer (some ⟨s, 0, none⟩), .int .i64 gen, .int .i64 k] w fun e w' =>
    e = .returned (.int .i64 (wc g gen k : Nat)) ∧ St W w' s r g b n (dropF g M gen k) ∧ ModP (Own s r g b) w w' := by
  refine (drop_it h.lv gen k).mono ?_
  intro e w' hp
  unfold dropF
  cases hp with
  | bad hc L =>
    rw [if_neg hc]
    exact ⟨rfl, h, ModP.refl _ _⟩
  | ok i hi e ha L m =>
    have hc : wc g gen k = 0 := by unfold wc; rw [if_neg (by omega), if_neg (by omega)]
    subst e
    rw [if_pos hc, hc, Int.toNat_natCast]
    refine ⟨rfl, ⟨L, fun j hj x hx => ?_, h.low, Mq.step h.bel m (fun q hq => h.low q (by subst hq; exact .inr (.inr ⟨i, hi, rfl⟩)))⟩, m.weaken (fun q _ hq => by subst hq; exact .inr (.inr ⟨i, hi, rfl⟩))⟩
    unfold upd at hx
    split at hx
    · rename_i e
      subst e
      exact h.rng j hj x ((mem_rem k x _).1 hx).1
    · exact h.rng j hj x hx
theorem St.all (h : St W w s r g b n M) (hn : n ≤ 1000) (gen : Int) : Calls Try.prog 11 #[.pointer (some ⟨s, 0, none⟩), .int .i64 gen] w fun e w' =>
    ∃ v, e = .returned v ∧ w'.ownsRow w.heap.size 3 1 v (allF g M gen).length (ints (allF g M gen)) ∧ Below w.heap.size w w' := by
  unfold allF
  by_cases hg : 0 ≤ gen ∧ gen < g
  · obtain ⟨i, rfl⟩ : ∃ i : Nat, gen = i := ⟨gen.toNat, by omega⟩
    rw [if_pos hg, Int.toNat_natCast]
    exact all_it h.lv i (by omega) hn
  · rw [if_neg hg]
    refine (all_none w _ gen (list_out h.lv gen (by omega))).mono ?_
    rintro e w' ⟨rfl, b1⟩
    exact ⟨_, rfl, World.ownsRow_nil _ _ _ _, b1⟩
theorem St.take (h : St W w s r g b n M) (hn : n ≤ 1000) (gen : Int) : Calls Try.prog 14 #[.pointer (some ⟨s, 0, none⟩), .int .i64 gen] w fun e w' =>
    ∃ v, e = .returned v ∧ w'.ownsRow w.heap.size 3 1 v (allF g M gen).length (ints (allF g M gen)) ∧ St W w' s r g b n (takeF g M gen) ∧ ModP (Own s r g b) w w' := by
  unfold allF takeF
  by_cases hg : 0 ≤ gen ∧ gen < g
  · obtain ⟨i, rfl⟩ : ∃ i : Nat, gen = i := ⟨gen.toNat, by omega⟩
    rw [if_pos hg, if_pos hg, Int.toNat_natCast]
    refine (take_it h.lv i (by omega) hn (fun x hx => by have := h.rng i (by omega) x hx; exact wf_i64 _ (by omega) (by omega))).mono ?_
    rintro e w' ⟨v, rfl, o, L, m⟩
    refine ⟨v, rfl, o, ⟨L, fun j hj x hx => ?_, h.low, Mq.step h.bel m (fun q hq => h.low q (by subst hq; exact .inr (.inr ⟨i, by omega, rfl⟩)))⟩, m.weaken (fun q _ hq => by subst hq; exact .inr (.inr ⟨i, by omega, rfl⟩))⟩
    unfold upd at hx
    split at hx
    · cases hx
    · exact h.rng j hj x hx
  · rw [if_neg hg, if_neg hg]
    refine (take_none w _ gen (list_out h.lv gen (by omega))).mono ?_
    rintro e w' ⟨rfl, b1⟩
    exact ⟨_, rfl, World.ownsRow_nil _ _ _ _, h.below b1, ModP.of_below b1⟩
end
set_option maxHeartbeats 2000000 in
set_option maxRecDepth 100000 in
theorem awake_it (W : World) : Calls Try.prog 9 #[] W fun e w => e = .returned (.bool true) ∧ Below W.heap.size W w := by
  have NI := Lib.hid (St.new (W := W) (g := 2) (by omega) (by omega) (Below.refl W.heap.size W))
  go_enter Try.func9, Try.ntmps9
  go_wp2_with fail
  refine NI.out.mono ?_
  rintro e w1 ⟨s, r, b, rfl, S, _, _⟩
  have P1 := Lib.hid (S.put (by omega) 1 9)
  clear S NI
  go_wp2_with fail
  refine P1.out.mono ?_
  rintro e w2 ⟨rfl, S, _⟩
  have e1 : wc 2 1 9 = 0 := by decide
  rw [e1]
  have P2 := Lib.hid (S.put (by omega) 1 4)
  clear S P1 e1
  go_wp2_with fail
  refine P2.out.mono ?_
  rintro e w3 ⟨rfl, S, _⟩
  have e1 : wc 2 1 4 = 0 := by decide
  rw [e1]
  have A1 := Lib.hid (S.all (by omega) 1)
  have HS := Lib.hid S
  clear S P2 e1
  go_wp2_with fail
  refine A1.out.mono ?_
  rintro e w4 ⟨v, rfl, o, b4⟩
  have em : allF 2 (putF 2 (putF 2 (fun _ => []) 1 9) 1 4) 1 = [4, 9] := by decide
  rw [em] at o
  obtain ⟨p, c, rfl, T, _⟩ := Sl.of o rfl
  obtain ⟨bb, off, rfl, _, hc⟩ := T.cells (by simp)
  have c0 := hc 0 (by simp)
  have S4 := HS.out.below b4
  have H1 := Lib.hid (has_it S4.lv 1 9 (by decide))
  have eh : hasV 2 (putF 2 (putF 2 (fun _ => []) 1 9) 1 4) 1 9 = true := by decide
  rw [eh] at H1
  have L1 := Lib.hid (len_it S4.lv (by omega))
  have et : tot (putF 2 (putF 2 (fun _ => []) 1 9) 1 4) 2 = 2 := by decide
  rw [et] at L1
  have HB := Lib.hid S4.bel
  simp only [List.getD_cons_zero, Nat.add_zero, List.length_cons, List.length_nil] at c0
  clear o T hc S4 A1 HS b4 em eh et
  go_wp2_with fail
  refine H1.out.mono ?_
  rintro e _ ⟨rfl, rfl⟩
  go_wp2_with fail
  refine L1.out.mono ?_
  rintro e _ ⟨rfl, rfl⟩
  go_wp2_with fail
  go_ret
  exact ⟨rfl, HB.out⟩
end Go.Proofs.Ytobplcehaeejoaa.Lq
