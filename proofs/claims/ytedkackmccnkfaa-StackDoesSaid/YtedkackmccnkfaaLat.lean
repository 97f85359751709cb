/- A region that draws its order and whose last operation writes what others read: what holds of memory may end at that last one. No condition. -/
import Derived.OrdersHeld
import Derived.RegionTactic
import Derived.Deep.DrawnRows
set_option linter.unusedVariables false
namespace Go.Proofs.Ytedkackmccnkfaa.Lat
section
variable {P : Program} {ops : Array Oper} {Q : Exit → Act → World → Prop} {md : Region.Mode} {S : World → Prop} {L : Nat}
/-- Whatever order comes: S holds behind every operation but L. -/
def Late (P : Program) (md : Region.Mode) (ops : Array Oper) (Q : Exit → Act → World → Prop) (S : World → Prop) (L : Nat) : Nat → Array Bool → Act → World → Prop
  | 0, listed, a, w => Region.ready md ops listed = [] ∧ Q .normal a w
  | n + 1, listed, a, w => (Region.ready md ops listed = [] → Q .normal a w) ∧ ∀ i ∈ Region.ready md ops listed, wpOp P ops Q i (fun a' w' => (i ≠ L → S w') ∧ Late P md ops Q S L n (listed.setIfInBounds i true) a' w') a w
theorem late_any : ∀ (n : Nat) (listed : Array Bool) (a : Act) (w : World), Late P md ops Q S L n listed a w → wpAny P md ops Q n listed a w
  | 0, _, _, _, h => h
  | n + 1, _, _, _, h => ⟨h.1, fun i hi => wpOp_mono (fun a' w' h' => late_any n _ a' w' h'.2) (h.2 i hi)⟩
/-- The operations U, and L among them, wait for i. -/
def waits (md : Region.Mode) (ops : Array Oper) (listed : Array Bool) (i L : Nat) (U : List Nat) : Bool :=
  U.contains L && U.all fun u => !(listed.getD u true) && u != i && match ops[u]? with
    | some o => o.after.any fun e => Region.binds md e && (e.on == i || U.contains e.on)
    | none => false
theorem waits_not {listed : Array Bool} {i : Nat} {U : List Nat} (h : waits md ops listed i L U = true) (hi : listed.getD i true = false) : ∀ j, j ∈ Region.ready md ops listed → j ∉ U := fun j hj hu => by
  unfold waits at h
  rw [Bool.and_eq_true, List.all_eq_true] at h
  have h1 := h.2 j hu
  obtain ⟨hun, o, ho, hall⟩ := mem_ready.1 hj
  simp only [ho, Bool.and_eq_true] at h1
  obtain ⟨e, he, hb⟩ := Array.any_eq_true'.1 h1.2
  rw [Bool.and_eq_true] at hb
  have h2 := hall e he hb.1
  have un : ∀ k, listed.getD k true = false → listed.getD k false = true → False := fun k a b => by
    rcases Nat.lt_or_ge k listed.size with h' | h'
    · simp [h'] at a b; rw [a] at b; cases b
    · simp [Array.getElem?_eq_none h'] at a
  rcases Bool.or_eq_true _ _ ▸ hb.2 with h3 | h3
  · rw [beq_iff_eq] at h3
    rw [h3] at h2
    exact un i hi h2
  · have h4 := h.2 e.on (by simpa using h3)
    rw [Bool.and_eq_true, Bool.and_eq_true] at h4
    exact un e.on (by simpa using h4.1.1) h2
theorem waits_set {listed : Array Bool} {i j : Nat} {U : List Nat} (h : waits md ops listed i L U = true) (hj : j ∉ U) : waits md ops (listed.setIfInBounds j true) i L U = true := by
  unfold waits at *
  rw [Bool.and_eq_true, List.all_eq_true] at *
  refine ⟨h.1, fun u hu => ?_⟩
  have h1 := h.2 u hu
  rw [getD_set_ne true (show j ≠ u from fun e => hj (by rw [e]; exact hu))]
  exact h1
theorem waits_last {listed : Array Bool} {i : Nat} {U : List Nat} (h : waits md ops listed i L U = true) : L ∈ U := by
  unfold waits at h
  rw [Bool.and_eq_true] at h
  simpa using h.1
/-- An operation may be taken first, that yields its value in every world that meets S, and for which L waits. -/
theorem late_first {i : Nat} {oi : Oper} {v : Value} {U : List Nat} (hi : ops[i]? = some oi) (hsel : ∀ (j : Nat) (o : Oper) cs b, ops[j]? = some o → o.op ≠ .select cs b)
    (hQ : ∀ c a w, Q (.panic c) (a.put oi.dst v) w → Q (.panic c) a w) :
    ∀ (n : Nat) (listed : Array Bool) (a : Act) (w : World),
      (∀ j oj, ops[j]? = some oj → j ≠ i → listed.getD j true = false → (∀ e ∈ oj.after, Region.binds md e = true → e.on ≠ i) → oi.apart ops oj = true) →
      waits md ops listed i L U = true → i ∈ Region.ready md ops listed → YieldsIf P ops S oi v a → S w →
      Late P md ops Q S L n (listed.setIfInBounds i true) (a.put oi.dst v) w → Late P md ops Q S L (n + 1) listed a w := by
  intro n
  induction n with
  | zero =>
    intro listed a w _ _ hr hy hS H
    refine ⟨fun h => (by rw [h] at hr; cases hr), fun j hj => ?_⟩
    by_cases hji : j = i
    · subst hji; exact hy.wpOp hi hS ⟨fun _ => hS, H⟩
    · have := ready_mono hj hji
      rw [H.1] at this
      cases this
  | succ n ih =>
    intro listed a w hfree hU hr hy hS H
    refine ⟨fun h => (by rw [h] at hr; cases hr), fun j hj => ?_⟩
    by_cases hji : j = i
    · subst hji; exact hy.wpOp hi hS ⟨fun _ => hS, H⟩
    · have hi0 := (mem_ready.1 hr).1
      have hjU := waits_not hU hi0 j hj
      have hjL : j ≠ L := fun e => hjU (e ▸ waits_last hU)
      have h1 := H.2 j (ready_mono hj hji)
      obtain ⟨hjun, oj, hoj, hall⟩ := mem_ready.1 hj
      have hnot : ∀ e ∈ oj.after, Region.binds md e = true → e.on ≠ i := fun e he hb heq => by
        have h1 := hall e he hb
        rw [heq] at h1
        rcases Nat.lt_or_ge i listed.size with h' | h'
        · simp [h'] at hi0 h1; rw [hi0] at h1; cases h1
        · simp [Array.getElem?_eq_none h'] at h1
      have h2 := wpOp_putIf hoj (hfree j oj hoj hji hjun hnot) (fun cs b => hsel i oi cs b hi) (fun cs b => hsel j oj cs b hoj) hQ hy h1
      have hfree' : ∀ k ok, ops[k]? = some ok → k ≠ i → (listed.setIfInBounds j true).getD k true = false →
          (∀ e ∈ ok.after, Region.binds md e = true → e.on ≠ i) → oi.apart ops ok = true := fun k ok hk hki hun hno => by
        refine hfree k ok hk hki ?_ hno
        by_cases hjk : j = k
        · subst hjk; exact hjun
        · rw [getD_set_ne true hjk] at hun; exact hun
      refine wpOp_mono (fun a' w' h3 => ⟨fun _ => h3.2.1 hjL, ih (listed.setIfInBounds j true) a' w' hfree' (waits_set hU hjU) (ready_mono hr (Ne.symm hji)) h3.1 (h3.2.1 hjL) ?_⟩) h2
      rw [Array.setIfInBounds_comm _ _ hji]
      exact h3.2.2
/-- Take number i first. -/
theorem take {i : Nat} (U : List Nat) {oi : Oper} {v : Value} {n : Nat} {listed : Array Bool} {a : Act} {w : World} (hi : ops[i]? = some oi)
    (hs : Region.noSelect ops = true) (hf : Region.free md ops listed i = true) (hr : (Region.ready md ops listed).contains i = true) (hU : waits md ops listed i L U = true)
    (hQ : ∀ c a w, Q (.panic c) (a.put oi.dst v) w → Q (.panic c) a w) (hS : S w) (hy : YieldsIf P ops S oi v a)
    (h : Late P md ops Q S L n (listed.setIfInBounds i true) (a.put oi.dst v) w) : Late P md ops Q S L (n + 1) listed a w :=
  late_first hi (Region.noSelect_spec hs) hQ n listed a w (Region.free_spec hi hf) hU (by simpa using hr) hy hS h
/-- The same, the new frame written out. -/
theorem take' {i : Nat} (d : Nat) (U : List Nat) {oi : Oper} {v : Value} {n : Nat} {listed : Array Bool} {a : Act} {w : World} (hi : ops[i]? = some oi) (hd : oi.dst = some d) (hg : oi.guard = none)
    (hs : Region.noSelect ops = true) (hf : Region.free md ops listed i = true) (hr : (Region.ready md ops listed).contains i = true) (hU : waits md ops listed i L U = true)
    (hQ : ∀ c a w, Q (.panic c) (a.put oi.dst v) w → Q (.panic c) a w) (hS : S w) (hy : ∀ w, S w → (execOp a.eval oi).run P w = .ok (.value v) w)
    (h : Late P md ops Q S L n (listed.setIfInBounds i true) { tmps := a.tmps.setIfInBounds d v, defers := a.defers } w) : Late P md ops Q S L (n + 1) listed a w := by
  refine take U hi hs hf hr hU hQ hS (.inl ⟨by simp [Region.wanted, hg], hy⟩) ?_
  rw [hd]
  exact h
/-- One alone may come up. -/
theorem one {i : Nat} {n : Nat} {listed : Array Bool} {a : Act} {w : World} (hr : Region.ready md ops listed = [i])
    (h : wpOp P ops Q i (fun a' w' => (i ≠ L → S w') ∧ Late P md ops Q S L n (listed.setIfInBounds i true) a' w') a w) : Late P md ops Q S L (n + 1) listed a w :=
  ⟨fun h0 => (by rw [hr] at h0; cases h0), fun j hj => by
    rw [hr, List.mem_singleton] at hj
    subst hj
    exact h⟩
theorem done {listed : Array Bool} {a : Act} {w : World} (hr : Region.ready md ops listed = []) (h : Q .normal a w) : ∀ n, Late P md ops Q S L n listed a w
  | 0 => ⟨hr, h⟩
  | _ + 1 => ⟨fun _ => h, by rw [hr]; simp⟩
/-- An operation that runs to a value. -/
theorem op_value {i : Nat} {o : Oper} {K : Act → World → Prop} {a : Act} {w w' : World} {v : Value} (ho : ops[i]? = some o) (hg : o.guard = none) (hrun : (execOp a.eval o).run P w = .ok (.value v) w') (hK : K (a.put o.dst v) w') : wpOp P ops Q i K a w := by
  unfold wpOp
  rw [ho]
  have hw : Region.wanted o (yielded ops a.tmps) = true := by simp [Region.wanted, hg]
  simp only [hw, if_true, Oper.wp, hrun, Oper.upon]
  exact .inl hK
theorem op_skip {i : Nat} {o : Oper} {K : Act → World → Prop} {a : Act} {w w' : World} (ho : ops[i]? = some o) (hg : o.guard = none) (hrun : (execOp a.eval o).run P w = .ok .skip w') (hK : K (a.put o.dst undef) w') : wpOp P ops Q i K a w := by
  unfold wpOp
  rw [ho]
  have hw : Region.wanted o (yielded ops a.tmps) = true := by simp [Region.wanted, hg]
  simp only [hw, if_true, Oper.wp, hrun, Oper.upon]
  exact .inl hK
theorem op_append {i : Nat} {o : Oper} {K : Act → World → Prop} {a : Act} {w w' : World} {v v1 v2 : Value} (s x : Operand) (t : TypeId) (hd : ops[i]? = some o) (hg : o.guard = none)
    (ho : o.op = .call { callee := .builtin .append, args := #[s, x], argTypes := #[t, t] }) (hs : a.eval s = v1) (hx : a.eval x = v2) (hrun : (Builtin.append_ #[t, t] o.type #[v1, v2]).run P w = .ok v w') (hK : K (a.put o.dst v) w') : wpOp P ops Q i K a w := by
  refine op_value hd hg ?_ hK
  simp [execOp, ho, resolve, invoke, builtin, hs, hx, hrun, Result.andThen]
/-- The beginning. -/
theorem start (S : World → Prop) (L : Nat) {id : Nat} {a : Act} {w : World} (hm : P.follows .mixedOrders = true)
    (h : Late P .any ops Q S L ops.size (Array.replicate ops.size false) a { w with drawn := w.drawn + 1 }) : (Code.region id ops true).wp P Q a w :=
  wp_region_any hm (late_any _ _ _ _ h)
theorem one_value {i : Nat} (d : Nat) {n : Nat} {listed : Array Bool} {a : Act} {w w' : World} {o : Oper} {v : Value} (hr : Region.ready md ops listed = [i]) (ho : ops[i]? = some o) (hd : o.dst = some d) (hg : o.guard = none)
    (hrun : (execOp a.eval o).run P w = .ok (.value v) w') (hS : S w') (h : Late P md ops Q S L n (listed.setIfInBounds i true) { tmps := a.tmps.setIfInBounds d v, defers := a.defers } w') : Late P md ops Q S L (n + 1) listed a w := by
  refine one hr (op_value ho hg hrun ⟨fun _ => hS, ?_⟩)
  rw [hd]
  exact h
theorem one_append {i : Nat} (d : Nat) {n : Nat} {listed : Array Bool} {a : Act} {w w' : World} {o : Oper} {v v1 v2 : Value} (s x : Operand) (t : TypeId) (hr : Region.ready md ops listed = [i]) (hi : ops[i]? = some o) (hd : o.dst = some d) (hg : o.guard = none)
    (ho : o.op = .call { callee := .builtin .append, args := #[s, x], argTypes := #[t, t] }) (hs : a.eval s = v1) (hx : a.eval x = v2) (hrun : (Builtin.append_ #[t, t] o.type #[v1, v2]).run P w = .ok v w') (hS : S w')
    (h : Late P md ops Q S L n (listed.setIfInBounds i true) { tmps := a.tmps.setIfInBounds d v, defers := a.defers } w') : Late P md ops Q S L (n + 1) listed a w := by
  refine one hr (op_append s x t hi hg ho hs hx hrun ⟨fun _ => hS, ?_⟩)
  rw [hd]
  exact h
/-- The last one, a store. -/
theorem last_store {n : Nat} {listed : Array Bool} {a : Act} {w w' : World} {o : Oper} (hr : Region.ready md ops listed = [L]) (hi : ops[L]? = some o) (hd : o.dst = none) (hg : o.guard = none)
    (hrun : (execOp a.eval o).run P w = .ok .skip w') (hr2 : Region.ready md ops (listed.setIfInBounds L true) = []) (h : Q .normal a w') : Late P md ops Q S L (n + 1) listed a w := by
  refine one hr (op_skip hi hg hrun ⟨fun h => absurd rfl h, ?_⟩)
  rw [hd]
  exact done hr2 h _
end
end Go.Proofs.Ytedkackmccnkfaa.Lat
