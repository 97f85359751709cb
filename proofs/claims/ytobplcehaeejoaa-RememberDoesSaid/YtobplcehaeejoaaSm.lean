/- A map to 1 as a set of numbers. No condition. -/
import Derived.Test.YtobplcehaeejoaaSe
import Derived.Test.YtobplcehaeejoaaMq
import Derived.Test.YtobplcehaeejoaaProg
import Derived.Maps.OwnOps
import Derived.Maps.OwnSet
import Derived.Maps.RangeWalk
import Derived.Maps.Views
import Derived.Maps.Keyed
set_option linter.unusedVariables false
set_option linter.unusedSimpArgs false
namespace Go.Proofs.Ytobplcehaeejoaa.Sm
open Go.RowKit Go.Maps Se Mq
theorem lawI : Keyed Try.prog 3 := int_keyed Try.underlying3
theorem zeroI (w : World) : (zeroValue 3).run Try.prog w = .ok (.int .i64 0) w := by kernel_rfl
theorem keyI (k : Int) (hk : (Lit.int .i64 k).wf = true) : keyOf Try.prog 3 (.int .i64 k) = some (.int .i64 k) := keyOf_int_mk Try.underlying3 hk
theorem wf_i64 (k : Int) (h : -9223372036854775808 ≤ k) (h2 : k ≤ 9223372036854775807) : (Lit.int .i64 k).wf = true := by
  simp [Lit.wf, IntKind.min, IntKind.max, IntKind.signed, IntKind.bits]
  omega
/-- What the datum of such a map says. -/
structure Is (D : DataW Unit) (M : List Int) : Prop where
  has : ∀ k : Int, Maps.has D (.int .i64 k) = decide (k ∈ M)
  one : ∀ k : Int, k ∈ M → ∀ z, D.atKey (.int .i64 k) z = .lit (.int .i64 1)
  size : Maps.size D = M.length
  up : Up M
theorem Is.new : Is (.map []) [] := ⟨fun k => by simp [Maps.has], fun k h => (by cases h), rfl, List.Pairwise.nil⟩
theorem Is.at {D : DataW Unit} {M : List Int} (h : Is D M) (k : Int) : D.atKey (.int .i64 k) (.lit (.int .i64 0)) = .lit (.int .i64 (if k ∈ M then 1 else 0)) := by
  by_cases e : k ∈ M
  · rw [if_pos e]; exact h.one k e _
  · rw [if_neg e]
    exact atKey_of_not_has (by rw [h.has]; exact decide_eq_false e) _
theorem Is.put {D : DataW Unit} {M : List Int} (h : Is D M) (t : Tidy D) (k : Int) : Is (D.put (.int .i64 k) (.lit (.int .i64 1))) (ins k M) := by
  refine ⟨fun j => ?_, fun j hj z => ?_, ?_, up_ins k M h.up⟩
  · by_cases e : j = k
    · subst e
      rw [has_put_same t.isMap (by trivial)]
      exact (decide_eq_true ((mem_ins j j M).2 (.inl rfl))).symm
    · rw [has_put_other (by simpa using e), h.has]
      congr 1
      rw [mem_ins]
      simp [e]
  · by_cases e : j = k
    · subst e
      exact atKey_put_same t.isMap (by trivial) _ _
    · rw [atKey_put_other (by simpa using e)]
      exact h.one j (((mem_ins k j M).1 hj).resolve_left e) z
  · rw [size_put t, h.has, length_ins k M h.up, h.size]
    simp
theorem Is.del {D : DataW Unit} {M : List Int} (h : Is D M) (t : Tidy D) (k : Int) : Is (D.del (.int .i64 k)) (rem k M) := by
  refine ⟨fun j => ?_, fun j hj z => ?_, ?_, up_rem k M h.up⟩
  · by_cases e : j = k
    · subst e
      rw [has_del_same]
      exact (decide_eq_false (by simp [mem_rem])).symm
    · rw [has_del_other (by simpa using e), h.has]
      congr 1
      rw [mem_rem]
      simp [e]
  · obtain ⟨m, e⟩ := (mem_rem k j M).1 hj
    rw [atKey_del_other (by simpa using e)]
    exact h.one j m z
  · have a := size_del (k := .int .i64 k) t
    have b := length_rem k M h.up
    rw [h.has, h.size] at a
    simp only [decide_eq_true_eq] at a
    omega
/-- Block b is a map that tells 1 of just these numbers. -/
def SetM (w : World) (b n : Nat) (M : List Int) : Prop := ∃ D : DataW Unit, w.ownsMap Try.prog 3 (plainElem Try.prog 3) b n D ∧ Is D M
section
variable {w w' : World} {b n : Nat} {M : List Int}
theorem SetM.made (w : World) : SetM (w.alloc (.map #[] 0)) w.heap.size 0 [] := ⟨_, World.ownsMap_made _ _ _ _, Is.new⟩
theorem SetM.obj (h : SetM w b n M) : ∃ es c, w.heap[b]? = some (.map es c) := by
  obtain ⟨D, ⟨es, c, hb, _⟩, _⟩ := h
  exact ⟨es, c, hb⟩
theorem SetM.lt (h : SetM w b n M) : b < w.heap.size := by
  obtain ⟨es, c, h⟩ := h.obj
  exact Kit.lt_of h
theorem SetM.move (h : SetM w b n M) (e : w'.heap[b]? = w.heap[b]?) : SetM w' b n M := by
  obtain ⟨D, ⟨es, c, hb, r⟩, h2⟩ := h
  exact ⟨D, ⟨es, c, e.trans hb, r⟩, h2⟩
theorem SetM.mono (h : SetM w b n M) {n' : Nat} (hn : n ≤ n') : SetM w b n' M := by
  obtain ⟨D, h1, h2⟩ := h
  exact ⟨D, h1.mono hn, h2⟩
theorem SetM.up (h : SetM w b n M) : Up M := by
  obtain ⟨D, h1, h2⟩ := h
  exact h2.up
theorem SetM.size_le (h : SetM w b n M) : M.length ≤ n := by
  obtain ⟨D, h1, h2⟩ := h
  rw [← h2.size]
  exact h1.size_le
theorem SetM.lookup (h : SetM w b n M) (k : Int) (hk : (Lit.int .i64 k).wf = true) :
    (Instr.lookup 48 (.map (some b)) (.int .i64 k) false).run Try.prog w = .ok (.int .i64 (if k ∈ M then 1 else 0)) w := by
  obtain ⟨D, hown, hI⟩ := h
  obtain ⟨c, hrun, h2, _⟩ := hown.lookup_int lawI Try.underlying48 Try.underlying3 (zeroI w) (keyI k hk)
  rw [hI.at k] at h2
  simp only [DataW.lit.injEq, Lit.int.injEq, true_and] at h2
  rw [h2]
  exact hrun
theorem SetM.put (h : SetM w b n M) (k : Int) (hk : (Lit.int .i64 k).wf = true) (hn : n ≤ 1000000) :
    ∃ w', (Instr.mapUpdate 48 (.map (some b)) (.int .i64 k) (.int .i64 1)).run Try.prog w = .ok () w' ∧ SetM w' b (n + 1) (ins k M) ∧ w.grownBy w' (some b) ∧ w'.heap.size = w.heap.size := by
  obtain ⟨D, hown, hI⟩ := h
  obtain ⟨w', hrun, h2, h3⟩ := hown.store lawI Try.underlying48 (by unfold maxLen; omega) (keyI k hk) (plainElem_int Try.underlying3 (by decide : (Lit.int .i64 1).wf = true))
  exact ⟨w', hrun, ⟨_, h2, hI.put (hown.tidy lawI) k⟩, h3.grown, turned_size h3⟩
theorem SetM.del (h : SetM w b n M) (k : Int) (hk : (Lit.int .i64 k).wf = true) (ty : TypeId) :
    ∃ w', (Builtin.delete_ #[48, 3] ty #[.map (some b), .int .i64 k]).run Try.prog w = .ok (.tuple #[]) w' ∧ SetM w' b n (rem k M) ∧ w.grownBy w' (some b) ∧ w'.heap.size = w.heap.size := by
  obtain ⟨D, hown, hI⟩ := h
  obtain ⟨w', hrun, h2, h3⟩ := hown.drop lawI Try.underlying48 (keyI k hk) ty
  exact ⟨w', hrun, ⟨_, h2, hI.del (hown.tidy lawI) k⟩, h3.grown, turned_size h3⟩
theorem SetM.len (h : SetM w b n M) (ty : TypeId) : (Builtin.len_ #[48] ty #[.map (some b)]).run Try.prog w = .ok (.int .i64 (M.length : Nat)) w := by
  obtain ⟨D, hown, hI⟩ := h
  have := hown.len Try.underlying48 ty
  rw [hI.size] at this
  exact this
end
/-- What has been met of a set: each once, just those that are no longer to come. -/
def Met (M : List Int) (left : Lit → Bool) (ss : List Int) : Prop := ss.Nodup ∧ ∀ x, x ∈ ss ↔ (x ∈ M ∧ left (.int .i64 x) = false)
theorem Met.start {D : DataW Unit} {M : List Int} (h : Is D M) : Met M (Maps.has D) [] := ⟨List.nodup_nil, fun x => by simp [h.has]⟩
theorem Met.step {D : DataW Unit} {M ss : List Int} {left : Lit → Bool} (h : Met M left ss) (hI : Is D M) {x c : Int} (hl : left (.int .i64 x) = true) (hat : ∀ zd, D.atKey (.int .i64 x) zd = .lit (.int .i64 c)) : Met M (fun z => left z && !z.sameKey (.int .i64 x)) (ss ++ [x]) := by
  have hx : x ∈ M := by
    have := has_true_of_atKey hat
    rw [hI.has] at this
    simpa using this
  have hnew : x ∉ ss := fun m => by have := ((h.2 x).1 m).2; rw [hl] at this; cases this
  refine ⟨List.nodup_append.2 ⟨h.1, by simp, fun a ha b hb => by simp at hb; subst hb; exact fun e => hnew (e ▸ ha)⟩, fun y => ?_⟩
  by_cases hy : y = x
  · subst hy; simp [hx, Lit.sameKey]
  · simp [h.2 y, hy, Lit.sameKey]
theorem Met.perm {M ss : List Int} {left : Lit → Bool} (h : Met M left ss) (hu : Up M) (hl : ∀ kl, left kl = false) : ss.Perm M :=
  (List.perm_ext_iff_of_nodup h.1 (up_nodup hu)).2 fun x => by rw [h.2 x]; simp [hl]
theorem Met.le {M ss : List Int} {left : Lit → Bool} (h : Met M left ss) : ss.length ≤ M.length := by
  have := List.Nodup.length_le_of_subset h.1 (fun x hx => ((h.2 x).1 hx).1)
  exact this
end Go.Proofs.Ytobplcehaeejoaa.Sm
