/- Two spaces, and the document's: all apart, by colours of blocks. No condition. -/
import Derived.Test.YtladhenjoipfpaaEs
set_option linter.unusedVariables false
set_option linter.unusedSimpArgs false
namespace Go.Proofs.Ytladhenjoipfpaa.Aq
open Go.RowKit
open Pl Rn Ov Lf Wl Gp Ct Sn Gq Tf Mt Rr Kp Sc Nn Tk La Rp Rq Mb S2 Ak Fr Fs On Xr Rf Ry Rz Ra
structure Ix where
  g : Nat
  a : Nat
  b : Nat
  ga : Nat
  ar : Nat
  y : Nat
  ry : Nat
  cy : Nat
  words : Nat
def SV (w : World) (s g ga : Nat) (σ : Sq) (i : Nat) (c : Nat → Nat) : Prop := ∃ m B K vg va vm, Sv w s g ga m B K vg va vm σ ∧ ∀ k, K k → c k = i
def XS (w : World) (x y words : Nat) (σ : Sq) (i : Nat) (c : Nat → Nat) : Prop := ∃ K, Xs w x y words K σ ∧ ∀ k, K k → c k = i
section
variable {w w' : World} {s g ga x y words i : Nat} {σ : Sq} {c c' : Nat → Nat} {Q : Nat → Prop}
theorem SV.keep (h : SV w s g ga σ i c) (M : ModP Q w w') (hq : ∀ k, c k = i → ¬ Q k) : SV w' s g ga σ i c := by
  obtain ⟨m, B, K, vg, va, vm, S, hc⟩ := h
  exact ⟨m, B, K, vg, va, vm, S.keepP M (fun k hk => hq k (hc k hk)), hc⟩
theorem SV.re (h : SV w s g ga σ i c) {j : Nat} (hc : ∀ k, k < w.heap.size → c k = i → c' k = j) : SV w s g ga σ j c' := by
  obtain ⟨m, B, K, vg, va, vm, S, h2⟩ := h
  exact ⟨m, B, K, vg, va, vm, S, fun k hk => hc k (S.low k hk) (h2 k hk)⟩
theorem XS.keep (h : XS w x y words σ i c) (M : ModP Q w w') (hq : ∀ k, c k = i → ¬ Q k) : XS w' x y words σ i c := by
  obtain ⟨K, X, hc⟩ := h
  exact ⟨K, X.keepP M (fun k hk => hq k (hc k hk)), hc⟩
theorem XS.re (h : XS w x y words σ i c) {j : Nat} (hc : ∀ k, k < w.heap.size → c k = i → c' k = j) : XS w x y words σ j c' := by
  obtain ⟨K, X, h2⟩ := h
  exact ⟨K, X, fun k hk => hc k (X.low k hk) (h2 k hk)⟩
end
structure Cl (W w : World) (F : Nat → Obj → Prop) (I : Ix) (s0 s1 x0 x1 : Nat) (fs xs : List Int) (σ0 σ1 : Sq) (fr : List Int) (τ0 τ1 : Sq) (c : Nat → Nat) : Prop where
  sv0 : SV w s0 I.g I.ga σ0 1 c
  sv1 : SV w s1 I.g I.ga σ1 2 c
  xs0 : XS w x0 I.y I.words τ0 3 c
  xs1 : XS w x1 I.y I.words τ1 4 c
  rp : RP w I.y I.ry I.cy fr ∧ c I.y = 5 ∧ c I.ry = 5
  env : Env w I.g I.a I.b I.ga I.ar fs xs ∧ (c I.g = 6 ∧ c I.a = 6 ∧ c I.b = 6 ∧ c I.ga = 6 ∧ c I.ar = 6) ∧ ∀ k, c k = 6 → k = I.g ∨ k = I.a ∨ k = I.b ∨ k = I.ga ∨ k = I.ar
  obj : ∀ k o, F k o → w.heap[k]? = some o ∧ c k = 7
  low : ∀ k, c k ≠ 0 → W.heap.size ≤ k ∧ k < w.heap.size
  bel : Below W.heap.size W w
structure All (W w : World) (F : Nat → Obj → Prop) (I : Ix) (s0 s1 x0 x1 : Nat) (fs xs : List Int) (σ0 σ1 : Sq) (fr : List Int) (τ0 τ1 : Sq) : Prop where
  ex : ∃ c, Cl W w F I s0 s1 x0 x1 fs xs σ0 σ1 fr τ0 τ1 c
section
variable {W w w' : World} {F : Nat → Obj → Prop} {I : Ix} {s0 s1 x0 x1 : Nat} {fs xs : List Int} {σ0 σ1 : Sq} {fr : List Int} {τ0 τ1 : Sq} {c : Nat → Nat}
def perm (n : Nat) : Nat := if n = 1 then 2 else if n = 2 then 1 else if n = 3 then 4 else if n = 4 then 3 else n
theorem All.swap (h : All W w F I s0 s1 x0 x1 fs xs σ0 σ1 fr τ0 τ1) : All W w F I s1 s0 x1 x0 fs xs σ1 σ0 fr τ1 τ0 := by
  obtain ⟨c, C⟩ := h.ex
  refine ⟨fun k => perm (c k), C.sv1.re (fun k _ e => by simp only [e]; rfl), C.sv0.re (fun k _ e => by simp only [e]; rfl), C.xs1.re (fun k _ e => by simp only [e]; rfl), C.xs0.re (fun k _ e => by simp only [e]; rfl),
    ⟨C.rp.1, by simp only [C.rp.2.1]; rfl, by simp only [C.rp.2.2]; rfl⟩, ⟨C.env.1, ⟨by simp only [C.env.2.1.1]; rfl, by simp only [C.env.2.1.2.1]; rfl, by simp only [C.env.2.1.2.2.1]; rfl, by simp only [C.env.2.1.2.2.2.1]; rfl, by simp only [C.env.2.1.2.2.2.2]; rfl⟩, fun k hk => C.env.2.2 k ?_⟩,
    fun k o f => ⟨(C.obj k o f).1, by simp only [(C.obj k o f).2]; rfl⟩, fun k hk => C.low k (fun e => hk (by simp only [e]; rfl)), C.bel⟩
  unfold perm at hk
  split at hk
  · omega
  · split at hk
    · omega
    · split at hk
      · omega
      · split at hk
        · omega
        · exact hk
theorem All.below (h : All W w F I s0 s1 x0 x1 fs xs σ0 σ1 fr τ0 τ1) (m : Below w.heap.size w w') : All W w' F I s0 s1 x0 x1 fs xs σ0 σ1 fr τ0 τ1 := by
  obtain ⟨c, C⟩ := h.ex
  have M : ModP (fun _ => False) w w' := ModP.of_below m
  exact ⟨c, C.sv0.keep M (fun _ _ e => e), C.sv1.keep M (fun _ _ e => e), C.xs0.keep M (fun _ _ e => e), C.xs1.keep M (fun _ _ e => e), ⟨C.rp.1.keepB m, C.rp.2⟩, ⟨C.env.1.keepB m, C.env.2⟩, fun k o f => ⟨Kit.keepB (C.obj k o f).1 m, (C.obj k o f).2⟩, fun k hk => ⟨(C.low k hk).1, Nat.lt_of_lt_of_le (C.low k hk).2 m.size⟩, Kit.stepB C.bel m⟩
theorem All.wd (h : All W w F I s0 s1 x0 x1 fs xs σ0 σ1 fr τ0 τ1) {k : Nat} {o : Obj} (f : F k o) : w.heap[k]? = some o := by
  obtain ⟨c, C⟩ := h.ex
  exact (C.obj k o f).1
theorem All.less (h : All W w F I s0 s1 x0 x1 fs xs σ0 σ1 fr τ0 τ1) {F' : Nat → Obj → Prop} (hf : ∀ k o, F' k o → F k o) : All W w F' I s0 s1 x0 x1 fs xs σ0 σ1 fr τ0 τ1 := by
  obtain ⟨c, C⟩ := h.ex
  exact ⟨c, C.sv0, C.sv1, C.xs0, C.xs1, C.rp, C.env, fun k o f => C.obj k o (hf k o f), C.low, C.bel⟩
/-- A block more that stays. -/
theorem All.more (h : All W w F I s0 s1 x0 x1 fs xs σ0 σ1 fr τ0 τ1) (o : Obj) : All W (w.alloc o) (fun k o' => F k o' ∨ (k = w.heap.size ∧ o' = o)) I s0 s1 x0 x1 fs xs σ0 σ1 fr τ0 τ1 := by
  obtain ⟨c, C⟩ := h.ex
  have bl := Kit.allocB (Below.refl w.heap.size w) o
  have M : ModP (fun _ => False) w (w.alloc o) := ModP.of_below bl
  have hz := C.bel.size
  have c0 : c w.heap.size = 0 := Classical.byContradiction (fun e => by have := (C.low _ e).2; omega)
  have new : ∀ k i, i ≠ 0 → c k = i → (if k = w.heap.size then 7 else c k) = i := fun k i h0 e => by
    rw [if_neg (fun q => by subst q; omega)]
    exact e
  refine ⟨fun k => if k = w.heap.size then 7 else c k, (C.sv0.keep M (fun _ _ e => e)).re (fun k _ e => new k 1 (by omega) e), (C.sv1.keep M (fun _ _ e => e)).re (fun k _ e => new k 2 (by omega) e), (C.xs0.keep M (fun _ _ e => e)).re (fun k _ e => new k 3 (by omega) e), (C.xs1.keep M (fun _ _ e => e)).re (fun k _ e => new k 4 (by omega) e),
    ⟨C.rp.1.keepB bl, new _ 5 (by omega) C.rp.2.1, new _ 5 (by omega) C.rp.2.2⟩,
    ⟨C.env.1.keepB bl, ⟨new _ 6 (by omega) C.env.2.1.1, new _ 6 (by omega) C.env.2.1.2.1, new _ 6 (by omega) C.env.2.1.2.2.1, new _ 6 (by omega) C.env.2.1.2.2.2.1, new _ 6 (by omega) C.env.2.1.2.2.2.2⟩, fun k e => ?_⟩,
    fun k o' f => ?_, fun k e => ?_, Kit.stepB C.bel bl⟩
  · split at e
    · omega
    · exact C.env.2.2 k e
  · rcases f with f | ⟨rfl, rfl⟩
    · exact ⟨Kit.keepB (C.obj k o' f).1 bl, new _ 7 (by omega) (C.obj k o' f).2⟩
    · exact ⟨Kit.new_blk w o', if_pos rfl⟩
  · split at e
    · rename_i q
      subst q
      exact ⟨hz, by simp⟩
    · exact ⟨(C.low k e).1, Nat.lt_of_lt_of_le (C.low k e).2 bl.size⟩
theorem All.bel (h : All W w F I s0 s1 x0 x1 fs xs σ0 σ1 fr τ0 τ1) : Below W.heap.size W w := by
  obtain ⟨c, C⟩ := h.ex
  exact C.bel
theorem All.wf (h : All W w F I s0 s1 x0 x1 fs xs σ0 σ1 fr τ0 τ1) : (∃ ms, Wf fs ms ∧ ms.length = fs.length) ∧ fs.length ≤ 4096 ∧ xs.length ≤ 1000000 := by
  obtain ⟨c, C⟩ := h.ex
  obtain ⟨ms, P, WF⟩ := C.env.1.pool
  have := C.env.1.arena.small
  exact ⟨⟨ms, WF, P.len⟩, P.small.2, by omega⟩
/-- The first space, alone. -/
theorem Cl.one (C : Cl W w F I s0 s1 x0 x1 fs xs σ0 σ1 fr τ0 τ1 c) : One w (fun k => c k = 1 ∨ c k = 6) I.g I.a I.b I.ga I.ar s0 fs xs σ0 := by
  obtain ⟨m, B, K, vg, va, vm, S, hc⟩ := C.sv0
  have e := C.env.2.1
  refine ⟨C.env.1, ⟨m, B, K, vg, va, vm, S, ⟨fun q => ?_, fun q => ?_, fun q => ?_, fun q => ?_, fun q => ?_⟩, fun k hk => .inl (hc k hk)⟩, ⟨.inr e.1, .inr e.2.1, .inr e.2.2.1, .inr e.2.2.2.1, .inr e.2.2.2.2⟩, fun k hk => (C.low k (by omega)).2⟩
  · have := hc _ q; omega
  · have := hc _ q; omega
  · have := hc _ q; omega
  · have := hc _ q; omega
  · have := hc _ q; omega
/-- A call to the first space. -/
theorem Cl.step {fs' xs' : List Int} {σ' : Sq} {own' : Nat → Prop} (C : Cl W w F I s0 s1 x0 x1 fs xs σ0 σ1 fr τ0 τ1 c) (N : One w' own' I.g I.a I.b I.ga I.ar s0 fs' xs' σ') (hk : ∀ k, own' k → (c k = 1 ∨ c k = 6) ∨ w.heap.size ≤ k) (M : ModP (fun k => c k = 1 ∨ c k = 6) w w') :
    All W w' F I s0 s1 x0 x1 fs' xs' σ' σ1 fr τ0 τ1 := by
  classical
  obtain ⟨m, B, K, vg, va, vm, S, D, hK⟩ := N.sp
  have hz := C.bel.size
  have lo : ∀ k, w.heap.size ≤ k → c k = 0 := fun k hk => Classical.byContradiction (fun e => by have := (C.low k e).2; omega)
  have new : ∀ k i, i ≠ 0 → c k = i → (if w.heap.size ≤ k ∧ own' k then 1 else c k) = i := fun k i h0 e => by
    rw [if_neg (fun q => by have := lo k q.1; omega)]
    exact e
  refine ⟨fun k => if w.heap.size ≤ k ∧ own' k then 1 else c k, ⟨m, B, K, vg, va, vm, S, fun k q => ?_⟩, (C.sv1.keep M (fun k e => by omega)).re (fun k _ e => new k 2 (by omega) e), (C.xs0.keep M (fun k e => by omega)).re (fun k _ e => new k 3 (by omega) e), (C.xs1.keep M (fun k e => by omega)).re (fun k _ e => new k 4 (by omega) e),
    ⟨rp_keepP C.rp.1 M (by have := C.rp.2.1; omega) (by have := C.rp.2.2; omega), new _ 5 (by omega) C.rp.2.1, new _ 5 (by omega) C.rp.2.2⟩,
    ⟨N.env, ⟨new _ 6 (by omega) C.env.2.1.1, new _ 6 (by omega) C.env.2.1.2.1, new _ 6 (by omega) C.env.2.1.2.2.1, new _ 6 (by omega) C.env.2.1.2.2.2.1, new _ 6 (by omega) C.env.2.1.2.2.2.2⟩, fun k e => ?_⟩,
    fun k o f => ⟨(M.block _ (Kit.lt_of (C.obj k o f).1) (by have := (C.obj k o f).2; omega)).trans (C.obj k o f).1, new _ 7 (by omega) (C.obj k o f).2⟩, fun k e => ?_, Mt.step C.bel M (fun k e => (C.low k (by omega)).1)⟩
  · simp only
    rcases hk k (hK k q) with e | e
    · rcases e with e | e
      · exact new k 1 (by omega) e
      · exfalso
        rcases C.env.2.2 k e with rfl | rfl | rfl | rfl | rfl
        · exact D.1 q
        · exact D.2.1 q
        · exact D.2.2.1 q
        · exact D.2.2.2.1 q
        · exact D.2.2.2.2 q
    · rw [if_pos ⟨e, hK k q⟩]
  · split at e
    · omega
    · exact C.env.2.2 k e
  · split at e
    · rename_i q
      exact ⟨by omega, N.lt k q.2⟩
    · exact ⟨(C.low k e).1, Nat.lt_of_lt_of_le (C.low k e).2 M.size⟩
theorem All.lay (h : All W w F I s0 s1 x0 x1 fs xs σ0 σ1 fr τ0 τ1) (OK : Ok σ0) (n : Int) :
    Calls Try.prog 10 #[.pointer (some ⟨s0, 0, none⟩), .int .i64 n] w fun e w' => e = .returned (.tuple #[.int .i64 ((layA fs xs.length σ0 n).1 : Nat), .int .i64 ((layA fs xs.length σ0 n).2.1 : Nat)]) ∧
      All W w' F I s0 s1 x0 x1 (layA fs xs.length σ0 n).2.2.1 (layX xs (layA fs xs.length σ0 n) n) (layA fs xs.length σ0 n).2.2.2 σ1 fr τ0 τ1 := by
  obtain ⟨c, C⟩ := h.ex
  refine (C.one.lay OK n).mono ?_
  rintro e w' ⟨rfl, ⟨own', N, hk⟩, M⟩
  exact ⟨rfl, C.step N hk M⟩
theorem All.free (h : All W w F I s0 s1 x0 x1 fs xs σ0 σ1 fr τ0 τ1) (hl : σ0.groups.length ≤ 1000000) :
    Calls Try.prog 21 #[.pointer (some ⟨s0, 0, none⟩)] w fun e w' => e = .returned (.int .i64 0) ∧ All W w' F I s0 s1 x0 x1 (freeAll fs σ0.groups) xs Sq.new σ1 fr τ0 τ1 := by
  obtain ⟨c, C⟩ := h.ex
  refine (C.one.free hl).mono ?_
  rintro e w' ⟨rfl, ⟨own', N, hk⟩, M⟩
  exact ⟨rfl, C.step N hk M⟩
/-- A call to the document's first space. -/
theorem Cl.rstep {fs' : List Int} {σ' : Sq} {K : Nat → Prop} (C : Cl W w F I s0 s1 x0 x1 fs xs σ0 σ1 fr τ0 τ1 c) (hc : ∀ k, K k → c k = 3) (R : Rx w w' x0 I.y I.ry I.cy I.words K fs' σ') :
    All W w' F I s0 s1 x0 x1 fs xs σ0 σ1 fs' σ' τ1 := by
  classical
  obtain ⟨K', X, k1, k2⟩ := R.ex
  have M : ModP (fun k => c k = 3 ∨ c k = 5) w w' := R.mod.weaken (fun k _ e => by
    rcases e with e | rfl
    · exact .inl (hc k e)
    · exact .inr C.rp.2.2)
  have hz := C.bel.size
  have lo : ∀ k, w.heap.size ≤ k → c k = 0 := fun k hk => Classical.byContradiction (fun e => by have := (C.low k e).2; omega)
  have new : ∀ k i, i ≠ 0 → c k = i → (if w.heap.size ≤ k ∧ K' k then 3 else c k) = i := fun k i h0 e => by
    rw [if_neg (fun q => by have := lo k q.1; omega)]
    exact e
  refine ⟨fun k => if w.heap.size ≤ k ∧ K' k then 3 else c k, (C.sv0.keep M (fun k e => by omega)).re (fun k _ e => new k 1 (by omega) e), (C.sv1.keep M (fun k e => by omega)).re (fun k _ e => new k 2 (by omega) e), ⟨K', X, fun k q => ?_⟩, (C.xs1.keep M (fun k e => by omega)).re (fun k _ e => new k 4 (by omega) e),
    ⟨R.rp, new _ 5 (by omega) C.rp.2.1, new _ 5 (by omega) C.rp.2.2⟩,
    ⟨C.env.1.keepP M (by have := C.env.2.1; omega), ⟨new _ 6 (by omega) C.env.2.1.1, new _ 6 (by omega) C.env.2.1.2.1, new _ 6 (by omega) C.env.2.1.2.2.1, new _ 6 (by omega) C.env.2.1.2.2.2.1, new _ 6 (by omega) C.env.2.1.2.2.2.2⟩, fun k e => ?_⟩,
    fun k o f => ⟨(M.block _ (Kit.lt_of (C.obj k o f).1) (by have := (C.obj k o f).2; omega)).trans (C.obj k o f).1, new _ 7 (by omega) (C.obj k o f).2⟩, fun k e => ?_, Mt.step C.bel M (fun k e => (C.low k (by omega)).1)⟩
  · simp only
    rcases k2 k q with e | e
    · exact new k 3 (by omega) (hc k e)
    · rw [if_pos ⟨e, q⟩]
  · split at e
    · omega
    · exact C.env.2.2 k e
  · split at e
    · rename_i q
      exact ⟨by omega, X.low k q.2⟩
    · exact ⟨(C.low k e).1, Nat.lt_of_lt_of_le (C.low k e).2 M.size⟩
theorem All.rlay (h : All W w F I s0 s1 x0 x1 fs xs σ0 σ1 fr τ0 τ1) {ms : List Int} (WF : Wf fr ms) (hml : ms.length = fr.length) (hw : I.words ≤ 1000000) (OK : Ok τ0) (n : Int) :
    Calls Try.prog 35 #[.pointer (some ⟨x0, 0, none⟩), .int .i64 n] w fun e w' => e = .returned (.tuple #[.int .i64 ((layA fr I.words τ0 n).1 : Nat), .int .i64 ((layA fr I.words τ0 n).2.1 : Nat)]) ∧
      All W w' F I s0 s1 x0 x1 fs xs σ0 σ1 (layA fr I.words τ0 n).2.2.1 (layA fr I.words τ0 n).2.2.2 τ1 := by
  obtain ⟨c, C⟩ := h.ex
  obtain ⟨K, X, hc⟩ := C.xs0
  have kd : ¬ K I.y ∧ ¬ K I.ry := ⟨fun e => by have := hc _ e; have := C.rp.2.1; omega, fun e => by have := hc _ e; have := C.rp.2.2; omega⟩
  refine (rlay_it X C.rp.1 WF hml kd hw OK n (fun _ e => e) (fun _ _ => trivial)).mono ?_
  rintro e w' ⟨rfl, R⟩
  exact ⟨rfl, C.rstep hc R⟩
theorem All.rfree (h : All W w F I s0 s1 x0 x1 fs xs σ0 σ1 fr τ0 τ1) {ms : List Int} (WF : Wf fr ms) (hml : ms.length = fr.length) (OK : Ok τ0) :
    Calls Try.prog 36 #[.pointer (some ⟨x0, 0, none⟩)] w fun e w' => e = .returned (.tuple #[]) ∧ All W w' F I s0 s1 x0 x1 fs xs σ0 σ1 (freeAll fr τ0.groups) Sq.new τ1 := by
  obtain ⟨c, C⟩ := h.ex
  obtain ⟨K, X, hc⟩ := C.xs0
  have kd : ¬ K I.y ∧ ¬ K I.ry := ⟨fun e => by have := hc _ e; have := C.rp.2.1; omega, fun e => by have := hc _ e; have := C.rp.2.2; omega⟩
  refine (rsfree_it X C.rp.1 WF hml kd OK).mono ?_
  rintro e w' ⟨rfl, R⟩
  exact ⟨rfl, C.rstep hc R⟩
theorem All.has (h : All W w F I s0 s1 x0 x1 fs xs σ0 σ1 fr τ0 τ1) (k : Int) (hk : (Lit.int .i64 k).wf = true) : Calls Try.prog 20 #[.pointer (some ⟨s0, 0, none⟩), .int .i64 k] w fun e w' => e = .returned (.bool (decide (k ∈ fI σ0.lays))) ∧ w' = w := by
  obtain ⟨c, C⟩ := h.ex
  obtain ⟨m, B, K, vg, va, vm, S, hc⟩ := C.sv0
  exact has_it S k hk
theorem All.rhas (h : All W w F I s0 s1 x0 x1 fs xs σ0 σ1 fr τ0 τ1) (k : Int) (hl : τ0.lays.length ≤ 1000) : Calls Try.prog 37 #[.pointer (some ⟨x0, 0, none⟩), .int .i64 k] w fun e w' => e = .returned (.bool (decide (k ∈ fI τ0.lays))) ∧ w' = w := by
  obtain ⟨c, C⟩ := h.ex
  obtain ⟨K, X, hc⟩ := C.xs0
  obtain ⟨B, v, l, R, e0, e1, e2⟩ := X.ex
  rw [← e1]
  exact rhas_it R k (by rw [e1]; simp [fI]; exact hl)
end
end Go.Proofs.Ytladhenjoipfpaa.Aq
