/- Both of them at every call: the law's helper do. No condition. -/
import Derived.Test.YtladhenjoipfpaaAq
set_option linter.unusedVariables false
set_option linter.unusedSimpArgs false
namespace Go.Proofs.Ytladhenjoipfpaa.Lb
open Go.RowKit
open Pl Rn Ov Lf Wl Gp Ct Sn Gq Tf Mt Rr Kp Sc Nn Tk La Rp Rq Mb S2 Ak Fr Fs On Xr Rf Ry Rz Ra Aq
/-- What is laid is counted. -/
def Iu (σ : Sq) : Prop := σ.used = sumN σ.lays ∧ ∀ r ∈ σ.lays, r.2 ≤ 4096
theorem sumN_snoc (l : List (Nat × Nat)) (p n : Nat) : sumN (l ++ [(p, n)]) = sumN l + n := by simp [sumN]
theorem Iu.fin {σ : Sq} (h : Iu σ) {τ : Sq} (e1 : τ.lays = σ.lays) (e2 : τ.used = σ.used) (p n : Nat) (hn : n ≤ 4096) : Iu (fin τ p n) := by
  unfold Iu at *
  unfold La.fin
  simp only [e1, e2, sumN_snoc]
  refine ⟨by omega, fun r hr => ?_⟩
  rcases List.mem_append.1 hr with c | c
  · exact h.2 r c
  · have := List.mem_singleton.1 c; subst this; exact hn
theorem Iu.layA {fs : List Int} {words : Nat} {σ : Sq} (h : Iu σ) (n : Int) : Iu (S2.layA fs words σ n).2.2.2 := by
  unfold S2.layA
  split
  · exact h
  · split
    · exact h
    · rename_i hb x hx
      unfold layF at hx
      split at hx
      · rw [Option.map_eq_some_iff] at hx
        obtain ⟨⟨q, f, s⟩, he, e⟩ := hx
        obtain ⟨hf, _, h3, h4⟩ := takeF_some he
        subst h4 h3 e
        exact h.fin rfl rfl _ _ (by omega)
      · split at hx
        · rw [Option.map_eq_some_iff] at hx
          obtain ⟨⟨q, f, s⟩, he, e⟩ := hx
          obtain ⟨hf, _, h3, h4⟩ := takeF_some he
          subst h4 h3 e
          exact h.fin rfl rfl _ _ (by omega)
        · simp only [Option.some.injEq] at hx
          subst hx
          exact h.fin rfl rfl _ _ (by omega)
theorem Iu.new : Iu Sq.new := ⟨rfl, fun r hr => (by cases hr)⟩
/-- Both, alike. -/
structure Bo (W w : World) (F : Nat → Obj → Prop) (I : Ix) (s0 s1 x0 x1 j : Nat) : Prop where
  ex : ∃ fs xs σ0 σ1, All W w F I s0 s1 x0 x1 fs xs σ0 σ1 fs σ0 σ1 ∧ xs.length = I.words ∧ (Okn σ0 j ∧ Okn σ1 j) ∧ Iu σ0 ∧ Iu σ1
/-- The program has laid, the document not yet. -/
structure Bm (W w : World) (F : Nat → Obj → Prop) (I : Ix) (s0 s1 x0 x1 j : Nat) (n : Int) (p c : Nat) : Prop where
  ex : ∃ fs xs σ0 σ1, All W w F I s0 s1 x0 x1 (layA fs I.words σ0 n).2.2.1 xs (layA fs I.words σ0 n).2.2.2 σ1 fs σ0 σ1 ∧ xs.length = I.words ∧ (Okn σ0 j ∧ Okn σ1 j) ∧ (Iu σ0 ∧ Iu σ1) ∧ ((∃ ms, Wf fs ms ∧ ms.length = fs.length) ∧ fs.length ≤ 4096) ∧ p = (layA fs I.words σ0 n).1 ∧ c = (layA fs I.words σ0 n).2.1
/-- The document has given back, the program not yet. -/
structure Bf (W w : World) (F : Nat → Obj → Prop) (I : Ix) (s0 s1 x0 x1 j : Nat) : Prop where
  ex : ∃ fs xs σ0 σ1, All W w F I s0 s1 x0 x1 fs xs σ0 σ1 (freeAll fs σ0.groups) Sq.new σ1 ∧ xs.length = I.words ∧ (Okn σ0 j ∧ Okn σ1 j) ∧ Iu σ1
section
variable {W w w' : World} {F : Nat → Obj → Prop} {I : Ix} {s0 s1 x0 x1 j : Nat}
theorem Bo.swap (h : Bo W w F I s0 s1 x0 x1 j) : Bo W w F I s1 s0 x1 x0 j := by
  obtain ⟨fs, xs, σ0, σ1, A, hx, ⟨k0, k1⟩, i0, i1⟩ := h.ex
  exact ⟨fs, xs, σ1, σ0, A.swap, hx, ⟨k1, k0⟩, i1, i0⟩
theorem Bo.below (h : Bo W w F I s0 s1 x0 x1 j) (m : Below w.heap.size w w') : Bo W w' F I s0 s1 x0 x1 j := by
  obtain ⟨fs, xs, σ0, σ1, A, r⟩ := h.ex
  exact ⟨fs, xs, σ0, σ1, A.below m, r⟩
theorem Bo.mono (h : Bo W w F I s0 s1 x0 x1 j) : Bo W w F I s0 s1 x0 x1 (j + 1) := by
  obtain ⟨fs, xs, σ0, σ1, A, hx, ⟨k0, k1⟩, i0, i1⟩ := h.ex
  exact ⟨fs, xs, σ0, σ1, A, hx, ⟨k0.mono (by omega), k1.mono (by omega)⟩, i0, i1⟩
theorem Bo.wd (h : Bo W w F I s0 s1 x0 x1 j) {k : Nat} {o : Obj} (f : F k o) : w.heap[k]? = some o := by
  obtain ⟨fs, xs, σ0, σ1, A, r⟩ := h.ex
  exact A.wd f
theorem Bm.wd {n : Int} {p c : Nat} (h : Bm W w F I s0 s1 x0 x1 j n p c) {k : Nat} {o : Obj} (f : F k o) : w.heap[k]? = some o := by
  obtain ⟨fs, xs, σ0, σ1, A, r⟩ := h.ex
  exact A.wd f
theorem Bo.less (h : Bo W w F I s0 s1 x0 x1 j) {F' : Nat → Obj → Prop} (hf : ∀ k o, F' k o → F k o) : Bo W w F' I s0 s1 x0 x1 j := by
  obtain ⟨fs, xs, σ0, σ1, A, r⟩ := h.ex
  exact ⟨fs, xs, σ0, σ1, A.less hf, r⟩
theorem Bo.more (h : Bo W w F I s0 s1 x0 x1 j) (o : Obj) : Bo W (w.alloc o) (fun k o' => F k o' ∨ (k = w.heap.size ∧ o' = o)) I s0 s1 x0 x1 j := by
  obtain ⟨fs, xs, σ0, σ1, A, r⟩ := h.ex
  exact ⟨fs, xs, σ0, σ1, A.more o, r⟩
theorem Bo.bel (h : Bo W w F I s0 s1 x0 x1 j) : Below W.heap.size W w := by
  obtain ⟨fs, xs, σ0, σ1, A, r⟩ := h.ex
  exact A.bel
theorem Bm.bel {n : Int} {p c : Nat} (h : Bm W w F I s0 s1 x0 x1 j n p c) : Below W.heap.size W w := by
  obtain ⟨fs, xs, σ0, σ1, A, r⟩ := h.ex
  exact A.bel
theorem Bo.lay (h : Bo W w F I s0 s1 x0 x1 j) (hj : j ≤ 800) (n : Int) :
    Calls Try.prog 10 #[.pointer (some ⟨s0, 0, none⟩), .int .i64 n] w fun e w' => ∃ p c : Nat, e = .returned (.tuple #[.int .i64 p, .int .i64 c]) ∧ Bm W w' F I s0 s1 x0 x1 j n p c := by
  obtain ⟨fs, xs, σ0, σ1, A, hx, ⟨k0, k1⟩, i0, i1⟩ := h.ex
  obtain ⟨wf, l1, l2⟩ := A.wf
  refine (A.lay (k0.ok (by omega)) n).mono ?_
  rintro e w' ⟨rfl, A'⟩
  rw [hx] at A' ⊢
  exact ⟨_, _, rfl, fs, _, σ0, σ1, A', by rw [layX_length]; exact hx, ⟨k0, k1⟩, ⟨i0, i1⟩, ⟨wf, l1⟩, rfl, rfl⟩
theorem Bm.rlay {n : Int} {p c : Nat} (h : Bm W w F I s0 s1 x0 x1 j n p c) (hj : j ≤ 800) :
    Calls Try.prog 35 #[.pointer (some ⟨x0, 0, none⟩), .int .i64 n] w fun e w' => e = .returned (.tuple #[.int .i64 p, .int .i64 c]) ∧ Bo W w' F I s0 s1 x0 x1 (j + 1) := by
  obtain ⟨fs, xs, σ0, σ1, A, hx, ⟨k0, k1⟩, ⟨i0, i1⟩, ⟨⟨ms, WF, hm⟩, l1⟩, rfl, rfl⟩ := h.ex
  have := A.wf.2.2
  refine (A.rlay WF hm (by omega) (k0.ok (by omega)) n).mono ?_
  rintro e w' ⟨rfl, A'⟩
  exact ⟨rfl, _, _, _, _, A', hx, ⟨k0.layA n l1, k1.mono (by omega)⟩, i0.layA n, i1⟩
theorem Bo.rfree (h : Bo W w F I s0 s1 x0 x1 j) (hj : j ≤ 800) :
    Calls Try.prog 36 #[.pointer (some ⟨x0, 0, none⟩)] w fun e w' => e = .returned (.tuple #[]) ∧ Bf W w' F I s0 s1 x0 x1 j := by
  obtain ⟨fs, xs, σ0, σ1, A, hx, ⟨k0, k1⟩, i0, i1⟩ := h.ex
  obtain ⟨⟨ms, WF, hm⟩, l1, l2⟩ := A.wf
  refine (A.rfree WF hm (k0.ok (by omega))).mono ?_
  rintro e w' ⟨rfl, A'⟩
  exact ⟨rfl, _, _, _, _, A', hx, ⟨k0, k1⟩, i1⟩
theorem Bf.free (h : Bf W w F I s0 s1 x0 x1 j) (hj : j ≤ 800) :
    Calls Try.prog 21 #[.pointer (some ⟨s0, 0, none⟩)] w fun e w' => e = .returned (.int .i64 0) ∧ Bo W w' F I s0 s1 x0 x1 (j + 1) := by
  obtain ⟨fs, xs, σ0, σ1, A, hx, ⟨k0, k1⟩, i1⟩ := h.ex
  refine (A.free (by have := k0.groups; omega)).mono ?_
  rintro e w' ⟨rfl, A'⟩
  exact ⟨rfl, _, _, _, _, A', hx, ⟨Okn.new.mono (by omega), k1.mono (by omega)⟩, Iu.new, i1⟩
theorem Bo.has (h : Bo W w F I s0 s1 x0 x1 j) (hj : j ≤ 800) (k : Int) (hk : (Lit.int .i64 k).wf = true) : ∃ b : Bool, (∀ n, Calls Try.prog 20 #[.pointer (some ⟨s0, 0, none⟩), .int .i64 k] (w.drewN n) fun e w' => e = .returned (.bool b) ∧ w' = w.drewN n) ∧
    ∀ n, Calls Try.prog 37 #[.pointer (some ⟨x0, 0, none⟩), .int .i64 k] (w.drewN n) fun e w' => e = .returned (.bool b) ∧ w' = w.drewN n := by
  obtain ⟨fs, xs, σ0, σ1, A, hx, ⟨k0, k1⟩, i0, i1⟩ := h.ex
  exact ⟨_, fun n => (A.below (Kit.drawB (Below.refl _ _) n)).has k hk, fun n => (A.below (Kit.drawB (Below.refl _ _) n)).rhas k (by have := k0.lays; omega)⟩
end
abbrev wcells (g ga S0 S1 X0 X1 : Nat) : Obj := .cells #[.pointer (some ⟨g, 0, none⟩), .pointer (some ⟨ga, 0, none⟩), .pointer (some ⟨S0, 0, none⟩), .pointer (some ⟨S1, 0, none⟩), .pointer (some ⟨X0, 0, none⟩), .pointer (some ⟨X1, 0, none⟩)] 33 (0, 0)
section
variable {W w : World} {I : Ix} {wd g ga S0 S1 X0 X1 s0 s1 x0 x1 j : Nat}
/-- What stays: the law's world. -/
def Fw (wd g ga S0 S1 X0 X1 : Nat) : Nat → Obj → Prop := fun k o => k = wd ∧ o = wcells g ga S0 S1 X0 X1
abbrev act (k n : Int) (two : Bool) : Obj := .cells #[.int .i64 k, .int .i64 n, .bool two] 38 (0, 0)
set_option maxHeartbeats 8000000 in
set_option maxRecDepth 100000 in
theorem do_lay (h : Bo W w (Fw wd g ga S0 S1 X0 X1) I s0 s1 x0 x1 j) (hj : j ≤ 800) (k n : Int) (two : Bool) (ht : (two = false ∧ s0 = S0 ∧ x0 = X0) ∨ (two = true ∧ s0 = S1 ∧ x0 = X1)) (hk : k = 0 ∨ k = 1 ∨ k = 2) :
    Calls Try.prog 23 #[.pointer (some ⟨wd, 0, none⟩), .agg #[.int .i64 k, .int .i64 n, .bool two]] w fun e w' => e = .returned (.bool true) ∧ Bo W w' (Fw wd g ga S0 S1 X0 X1) I s0 s1 x0 x1 (j + 1) := by
  have wl := Kit.lt_of (h.wd ⟨rfl, rfl⟩)
  have wne : wd ≠ w.heap.size := by omega
  have HB := Lib.hid (h.more (act k n two))
  have C2 := HB.out.wd (.inl ⟨rfl, rfl⟩)
  have d2 := (Kit.cell_of C2 2).trans rfl
  have d3 := (Kit.cell_of C2 3).trans rfl
  have d4 := (Kit.cell_of C2 4).trans rfl
  have d5 := (Kit.cell_of C2 5).trans rfl
  clear h C2
  rcases ht with ⟨rfl, rfl, rfl⟩ | ⟨rfl, rfl, rfl⟩
  all_goals
    rcases hk with rfl | rfl | rfl
    all_goals
      go_enter Try.func23, Try.ntmps23
      go_wp2_with fail
      go_quiet (fail)
      have H1 := Lib.hid (HB.out.below (Kit.drawB (Below.refl _ _) nq))
      clear HB d2 d3 d4 d5
      generalize hgw : World.drewN _ nq = w0 at *
      have L1 := Lib.hid (H1.out.lay hj n)
      have C1 := H1.out.wd (.inr ⟨rfl, rfl⟩)
      have e1 := (Kit.cell_of C1 1).trans rfl
      have e0 := (Kit.cell_of C1 0).trans rfl
      clear hgw C1
      go_wp2_with fail
      refine L1.out.mono ?_
      rintro e w1 ⟨p, c, rfl, B1⟩
      have L2 := Lib.hid (B1.rlay hj)
      have C1 := B1.wd (.inr ⟨rfl, rfl⟩)
      have g1 := (Kit.cell_of C1 1).trans rfl
      have pp : ((p : Int) == (p : Int)) = true := by simp
      have cc : ((c : Int) == (c : Int)) = true := by simp
      clear B1 C1 L1 H1 e1 e0
      go_wp2_with fail
      refine L2.out.mono ?_
      rintro e w2 ⟨rfl, B2⟩
      have HB2 := Lib.hid (B2.less (fun k o f => Or.inl f))
      clear B2 L2 g1
      go_wp2_with fail
      go_ret
      exact ⟨rfl, HB2.out⟩
set_option maxHeartbeats 8000000 in
set_option maxRecDepth 100000 in
theorem do_free (h : Bo W w (Fw wd g ga S0 S1 X0 X1) I s0 s1 x0 x1 j) (hj : j ≤ 800) (n : Int) (two : Bool) (ht : (two = false ∧ s0 = S0 ∧ x0 = X0) ∨ (two = true ∧ s0 = S1 ∧ x0 = X1)) :
    Calls Try.prog 23 #[.pointer (some ⟨wd, 0, none⟩), .agg #[.int .i64 3, .int .i64 n, .bool two]] w fun e w' => e = .returned (.bool true) ∧ Bo W w' (Fw wd g ga S0 S1 X0 X1) I s0 s1 x0 x1 (j + 1) := by
  have wl := Kit.lt_of (h.wd ⟨rfl, rfl⟩)
  have wne : wd ≠ w.heap.size := by omega
  have HB := Lib.hid (h.more (act 3 n two))
  have C2 := HB.out.wd (.inl ⟨rfl, rfl⟩)
  have d2 := (Kit.cell_of C2 2).trans rfl
  have d3 := (Kit.cell_of C2 3).trans rfl
  have d4 := (Kit.cell_of C2 4).trans rfl
  have d5 := (Kit.cell_of C2 5).trans rfl
  clear h C2
  rcases ht with ⟨rfl, rfl, rfl⟩ | ⟨rfl, rfl, rfl⟩
  all_goals
    go_enter Try.func23, Try.ntmps23
    go_wp2_with fail
    go_quiet (fail)
    have H1 := Lib.hid (HB.out.below (Kit.drawB (Below.refl _ _) nq))
    clear HB d2 d3 d4 d5
    generalize hgw : World.drewN _ nq = w0 at *
    have L1 := Lib.hid (H1.out.rfree hj)
    have C1 := H1.out.wd (.inr ⟨rfl, rfl⟩)
    have e1 := (Kit.cell_of C1 1).trans rfl
    have e0 := (Kit.cell_of C1 0).trans rfl
    clear hgw C1
    go_wp2_with fail
    refine L1.out.mono ?_
    rintro e w1 ⟨rfl, B1⟩
    have L2 := Lib.hid (B1.free hj)
    clear B1 L1 H1 e1 e0
    go_wp2_with fail
    refine L2.out.mono ?_
    rintro e w2 ⟨rfl, B2⟩
    have HB2 := Lib.hid (B2.less (fun k o f => Or.inl f))
    clear B2 L2
    go_wp2_with fail
    go_ret
    exact ⟨rfl, HB2.out⟩
set_option maxHeartbeats 8000000 in
set_option maxRecDepth 100000 in
theorem do_has (h : Bo W w (Fw wd g ga S0 S1 X0 X1) I s0 s1 x0 x1 j) (hj : j ≤ 800) (k n : Int) (hn : (Lit.int .i64 n).wf = true) (two : Bool) (ht : (two = false ∧ s0 = S0 ∧ x0 = X0) ∨ (two = true ∧ s0 = S1 ∧ x0 = X1)) (hk : k ≠ 0 ∧ k ≠ 1 ∧ k ≠ 2 ∧ k ≠ 3) :
    Calls Try.prog 23 #[.pointer (some ⟨wd, 0, none⟩), .agg #[.int .i64 k, .int .i64 n, .bool two]] w fun e w' => e = .returned (.bool true) ∧ Bo W w' (Fw wd g ga S0 S1 X0 X1) I s0 s1 x0 x1 (j + 1) := by
  have wl := Kit.lt_of (h.wd ⟨rfl, rfl⟩)
  have wne : wd ≠ w.heap.size := by omega
  have HB := Lib.hid (h.more (act k n two))
  have C2 := HB.out.wd (.inl ⟨rfl, rfl⟩)
  have d2 := (Kit.cell_of C2 2).trans rfl
  have d3 := (Kit.cell_of C2 3).trans rfl
  have d4 := (Kit.cell_of C2 4).trans rfl
  have d5 := (Kit.cell_of C2 5).trans rfl
  have k0 : (k == 0) = false := by simpa using hk.1
  have k1 : (k == 1) = false := by simpa using hk.2.1
  have k2 : (k == 2) = false := by simpa using hk.2.2.1
  have k3 : (k == 3) = false := by simpa using hk.2.2.2
  clear h C2 hk
  rcases ht with ⟨rfl, rfl, rfl⟩ | ⟨rfl, rfl, rfl⟩
  all_goals
    go_enter Try.func23, Try.ntmps23
    go_wp2_with fail
    go_quiet (fail)
    have H1 := Lib.hid (HB.out.below (Kit.drawB (Below.refl _ _) nq))
    clear HB d2 d3 d4 d5
    generalize hgw : World.drewN _ nq = w0 at *
    obtain ⟨b, q1, q2⟩ := H1.out.has hj n hn
    have Q1 := Lib.hid q1
    have Q2 := Lib.hid q2
    have C1 := H1.out.wd (.inr ⟨rfl, rfl⟩)
    have e1 := (Kit.cell_of C1 1).trans rfl
    have e0 := (Kit.cell_of C1 0).trans rfl
    have bb : (b == b) = true := by simp
    clear hgw C1 q1 q2 nq
    go_wp2_with fail
    go_quiet (first | (go_at_call 20; exact Calls.quiet_of_same (Q1.out _)) | (go_at_call 37; exact Calls.quiet_of_same (Q2.out _)))
    have HB2 := Lib.hid ((H1.out.below (Kit.drawB (Below.refl _ _) nq)).less (fun k o f => Or.inl f)).mono
    clear H1 Q1 Q2 e0 e1
    go_wp2_with fail
    go_ret
    exact ⟨rfl, HB2.out⟩
end
end Go.Proofs.Ytladhenjoipfpaa.Lb
