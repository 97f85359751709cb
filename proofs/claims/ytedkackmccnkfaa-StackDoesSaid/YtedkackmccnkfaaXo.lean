/- The document's Pop; a pointer that is turned. No condition. -/
import Derived.Test.YtedkackmccnkfaaXp
import Derived.RegionTactic
import Derived.BigRegion
set_option linter.unusedVariables false
set_option linter.unusedSimpArgs false
namespace Go.Proofs.Ytedkackmccnkfaa.Xo
open Go.RowKit Go.Shelf
open Fr Fs Ft Ar Sk Pu Pv Fa Po Nw Bk Fz Fy Mq Mj Mk LawMaps Xs Xp
section
variable {w w' : World} {B y wd : Nat} {v : Value} {inn : List In}
/-- What turned tells. -/
def turnE (p n : Int) : Int := if -524288 ≤ n ∧ n ≤ 524288 then p + n else -1
def byE (p n : Int) : Int := clip (turnE p n)
theorem turned_it (w : World) (p n : Int) (hp : 0 ≤ p ∧ p ≤ 524288) : Calls Try.prog 38 #[.int .i64 p, .int .i64 n] w fun e w' => e = .returned (.int .i64 (turnE p n)) ∧ w' = w := by
  unfold turnE
  by_cases h : -524288 ≤ n ∧ n ≤ 524288
  · rw [if_pos h]
    obtain ⟨h1, h2⟩ := h
    obtain ⟨p1, p2⟩ := hp
    go_enter Try.func38, Try.ntmps38
    go_wp2_with fail
    go_ret
    exact ⟨rfl, rfl⟩
  · rw [if_neg h]
    have h' : n < -524288 ∨ (-524288 ≤ n ∧ 524288 < n) := by omega
    clear h
    rcases h' with h1 | ⟨h1, h2⟩
    · go_enter Try.func38, Try.ntmps38
      go_wp2_with fail
      go_ret
      exact ⟨rfl, rfl⟩
    · go_enter Try.func38, Try.ntmps38
      go_wp2_with fail
      go_ret
      exact ⟨rfl, rfl⟩
theorem by_it (w : World) (p n : Int) (hp : 0 ≤ p ∧ p ≤ 524288) : Calls Try.prog 39 #[.int .i64 p, .int .i64 n] w fun e w' => e = .returned (.int .i64 (byE p n)) ∧ w' = w := by
  have hc : (n < -524288 ∧ byE p n = 0) ∨ ((-524288 ≤ n ∧ 524288 < n) ∧ byE p n = 0) ∨ ((-524288 ≤ n ∧ n ≤ 524288 ∧ p + n < 0) ∧ byE p n = 0) ∨ ((-524288 ≤ n ∧ n ≤ 524288 ∧ 0 ≤ p + n ∧ 524288 < p + n) ∧ byE p n = 0) ∨ ((-524288 ≤ n ∧ n ≤ 524288 ∧ 0 ≤ p + n ∧ p + n ≤ 524288) ∧ byE p n = p + n) := by
    unfold byE turnE clip
    by_cases h : -524288 ≤ n ∧ n ≤ 524288
    · rw [if_pos h]
      by_cases h2 : 0 ≤ p + n ∧ p + n ≤ 524288
      · rw [if_pos h2]; omega
      · rw [if_neg h2]; omega
    · rw [if_neg h, if_neg (by omega)]; omega
  obtain ⟨p1, p2⟩ := hp
  rcases hc with ⟨h1, e⟩ | ⟨⟨h1, h2⟩, e⟩ | ⟨⟨h1, h2, h3⟩, e⟩ | ⟨⟨h1, h2, h3, h4⟩, e⟩ | ⟨⟨h1, h2, h3, h4⟩, e⟩
  all_goals
    rw [e]
    clear e
    go_enter Try.func39, Try.ntmps39
    go_wp2_with fail
    go_ret
    exact ⟨rfl, rfl⟩
theorem rpop_empty (X : Xr w B y wd v []) : Calls Try.prog 36 #[.pointer (some ⟨y, 0, none⟩)] w fun e w' => e = .returned (.tuple #[frameV 0 0 0 none 0 0, .int .i64 4]) ∧ Below w.heap.size w w' := by
  obtain ⟨aa, ca, rfl, hca⟩ := X.shape
  have X1 := X.keepB (Kit.allocB (Below.refl w.heap.size w) (.cells #[.int .i64 0, .int .i64 0, .int .i64 0, .slice none 0 0] 24))
  obtain ⟨c0, c1⟩ := X1.cells
  have hy := Kit.lt_of X.obj
  clear X X1
  unfold frameV
  go_enter Try.func36, Try.ntmps36
  go_wp2_with fail
  exact bodyPost_ret (v := .tuple #[.agg #[.int .i64 0, .int .i64 0, .int .i64 0, .slice none 0 0], .int .i64 4]) (by simp [results, Try.results36, go_sem]) rfl ⟨rfl, Kit.allocB (Below.refl _ _) _⟩
theorem own_less {e : TypeId} {k b m cap : Nat} {a : Option Addr} {ys zs : List Value} (h : w.ownsRow b e k (.slice a (m + 1) cap) (m + 1) (ys ++ zs)) (hy : ys.length = m * k) : w.ownsRow b e k (.slice a m cap) m ys := by
  refine ⟨hy, ?_⟩
  rcases h.2 with ⟨_, h0⟩ | ⟨g, cap', cur, e, hb, hg, hc, hm, hs, ht⟩
  · omega
  · simp only [Value.slice.injEq] at e
    obtain ⟨rfl, -, rfl⟩ := e
    refine .inr ⟨g, cap, cur, rfl, hb, hg, by omega, hm, hs, ?_⟩
    have h1 : ys = (ys ++ zs).take (m * k) := by rw [← hy, List.take_left]
    rw [h1, ← ht, List.take_take]
    congr 1
    have : m * k ≤ (m + 1) * k := Nat.mul_le_mul_right _ (by omega)
    omega
theorem flat_app (l : List In) (x : In) : flat (l ++ [x]) = flat l ++ cellsI x := flat_snoc l x
theorem Xr.less {x : In} {aa : Option Addr} {ca : Nat} (X : Xr w B y wd (.slice aa (inn ++ [x]).length ca) (inn ++ [x])) : Xr (w.setCell ⟨y, 1, none⟩ (.slice aa inn.length ca)) B y wd (.slice aa inn.length ca) inn ∧ Mine B (w.setCell ⟨y, 1, none⟩ (.slice aa inn.length ca)) x := by
  have gr : w.grownBy (w.setCell ⟨y, 1, none⟩ (.slice aa inn.length ca)) (some y) := ⟨rfl, rfl, rfl, by simp [World.setCell], fun k hk hne => Below.heap_setCell w _ _ k (fun e => hne (by simp [e]))⟩
  have keep : ∀ z, Mine B w z → Mine B (w.setCell ⟨y, 1, none⟩ (.slice aa inn.length ca)) z := fun z hz => ⟨hz.1.kept gr (own_blk hz.1 X.obj (by decide)), hz.2⟩
  have ho := X.own
  rw [List.length_append, List.length_singleton, flat_app] at ho
  have ho2 := own_less ho (flat_length inn)
  refine ⟨⟨by rw [Kit.set_blk X.obj]; rfl, ho2.kept gr (own_blk ho2 X.obj (by decide)), fun z hz => keep z (X.sls z (by simp [hz])), (List.pairwise_append.1 X.apart).1, by have := X.siz; simpa [World.setCell] using this, X.low⟩, keep x (X.sls x (by simp))⟩
set_option maxHeartbeats 2000000 in
set_option maxRecDepth 100000 in
theorem rpop_it {x : In} (X : Xr w B y wd v (inn ++ [x])) (hin : inn.length ≤ 65536) : Calls Try.prog 36 #[.pointer (some ⟨y, 0, none⟩)] w fun e w' => e = .returned (.tuple #[valI x, .int .i64 0]) ∧ (∃ v', Xr w' B y wd v' inn) ∧ Mine B w' x ∧ ModP (fun q => q = y) w w' := by
  obtain ⟨aa, ca, rfl, hca⟩ := X.shape
  have hll : (inn ++ [x]).length = inn.length + 1 := by simp
  obtain ⟨q, rfl, hcm, d0, d1, d2, d3⟩ := X.at_ inn.length (by omega) x
  have hgx : (inn ++ [x]).getD inn.length x = x := by simp [List.getD_eq_getElem?_getD]
  rw [hgx] at d0 d1 d2 d3
  obtain ⟨⟨k, a, b, ps⟩, p, c⟩ := x
  simp only at d0 d1 d2 d3
  have bA := Kit.allocB (Below.refl w.heap.size w) (.cells #[.int .i64 0, .int .i64 0, .int .i64 0, .slice none 0 0] 24)
  have bB := Kit.allocB bA (.cells #[.int .i64 k, .int .i64 a, .int .i64 b, .slice p ps.length c] 24)
  have X1 := X.keepB bA
  have N1 := Lib.hid (Kit.keep_alloc (Kit.new_blk w (.cells #[.int .i64 0, .int .i64 0, .int .i64 0, .slice none 0 0] 24 (0, 0))) (.cells #[.int .i64 k, .int .i64 a, .int .i64 b, .slice p ps.length c] 24))
  have N2 := Lib.hid (Kit.new_blk2 w (.cells #[.int .i64 0, .int .i64 0, .int .i64 0, .slice none 0 0] 24 (0, 0)) (.cells #[.int .i64 k, .int .i64 a, .int .i64 b, .slice p ps.length c] 24))
  have hq := World.block_lt_of_cell? w _ d0
  have hy := Kit.lt_of X.obj
  have fw := Kit.frozen_of X.obj 1
  have KY : Hid (KT B w y) := ⟨X.low, _, _, X.obj, .inl rfl⟩
  have XL := Lib.hid (Xr.less X)
  obtain ⟨c0, c1⟩ := X1.cells
  replace d0 := (bA.cell (p := ⟨q, inn.length * 4, none⟩) hq).trans d0
  replace d1 := (bA.cell (p := ⟨q, inn.length * 4 + 1, none⟩) hq).trans d1
  replace d2 := (bA.cell (p := ⟨q, inn.length * 4 + 2, none⟩) hq).trans d2
  replace d3 := (bA.cell (p := ⟨q, inn.length * 4 + 3, none⟩) hq).trans d3
  rw [hll] at c1 hca
  have l1 : (inn.length : Int) < ((inn.length + 1 : Nat) : Int) := by omega
  have l2 : (0 : Int) ≤ (inn.length : Int) := by omega
  have l3 : (inn.length : Int) ≤ ca := by omega
  unfold maxLen at hcm
  unfold valI
  simp only
  clear X X1 bA bB hgx hll
  go_enter Try.func36, Try.ntmps36
  go_wp2_with fail
  obtain ⟨XL1, XL2⟩ := XL.out
  have bE := Kit.allocB (Kit.allocB (Below.refl (w.setCell ⟨y, 1, none⟩ (.slice (some ⟨q, 0, none⟩) inn.length ca)).heap.size _) (.cells #[.int .i64 k, .int .i64 a, .int .i64 b, .slice p ps.length c] 24 (0, 0))) (.cells #[.int .i64 k, .int .i64 a, .int .i64 b, .slice p ps.length c] 24 (0, 0))
  refine bodyPost_ret (v := .tuple #[.agg #[.int .i64 k, .int .i64 a, .int .i64 b, .slice p ps.length c], .int .i64 0]) (by simp [results, Try.results36, go_sem]) rfl ⟨rfl, ⟨_, XL1.keepB bE⟩, XL2.stepB bE, ?_⟩
  exact (((ModP.refl (fun q => q = y) w).setCell (p := ⟨y, 1, none⟩) (.inl rfl) _).alloc _).alloc _
end
end Go.Proofs.Ytedkackmccnkfaa.Xo
