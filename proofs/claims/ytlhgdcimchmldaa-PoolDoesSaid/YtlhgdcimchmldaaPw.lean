/- What must come at any rate of a pool. No condition. -/
import Derived.Test.YtlhgdcimchmldaaNn
set_option linter.unusedVariables false
set_option linter.unusedSimpArgs false
namespace Go.Proofs.Ytlhgdcimchmldaa.Pw
open Go.RowKit
open Pl Rn Rs Ov Lf Wl Nn
theorem one_split {x : Nat × Nat} {ini post : List (Nat × Nat)} {p k : Nat} (h : [x] = ini ++ (p, k) :: post) : ini = [] ∧ (p, k) = x := by
  rcases ini with _ | ⟨a, t⟩
  · simp at h; exact ⟨rfl, h.1.symm⟩
  · simp at h
/-- Alloc where there is one run, and it is long enough. -/
theorem alloc_first (w : World) (g a b : Nat) (fs ms : List Int) (N p k : Nat) (WF : Wf fs ms) (P : Pool w g a b fs ms) (h1 : 1 ≤ N) (hr : runsFrom fs 0 = [(p, k)]) (hk : N ≤ k) (h2 : N ≤ 4096) :
    Calls Try.prog 12 #[.pointer (some ⟨g, 0, none⟩), .int .i64 N] w fun e w' => e = .returned (.tuple #[.int .i64 p, .int .i64 0]) ∧ Pool w' g a b (fill fs p N p) (ms.set p (N : Int)) ∧ Kit.Mod [a, b] w w' := by
  refine (Al.alloc_all w g a b fs ms N WF P h1 (by omega)).mono ?_
  rintro e w' (⟨rfl, h, _⟩ | ⟨ini, p', k', post, e1, _, _, rfl, h, m⟩)
  · have := h (p, k) (by rw [hr]; simp)
    simp at this
    omega
  · rw [hr] at e1
    obtain ⟨_, e2⟩ := one_split e1
    simp only [Prod.mk.injEq] at e2
    obtain ⟨rfl, rfl⟩ := e2
    exact ⟨rfl, h, m⟩
set_option maxRecDepth 100000 in
set_option maxHeartbeats 2000000 in
theorem awake_it (w : World) : Calls Try.prog 9 #[] w fun e w' => e = .returned (.bool true) ∧ Below w.heap.size w w' := by
  have NI := Lib.hid (new_it w 8 (by omega) (by omega))
  go_enter Try.func9, Try.ntmps9
  go_wp2_with fail
  refine NI.out.mono ?_
  rintro e w1 ⟨g, a, b, rfl, P, ⟨lg, la, lb⟩, hB⟩
  have WF1 : Wf L8 (List.replicate 8 0) := wf_new 8
  have A1 := Lib.hid (alloc_first w1 g a b L8 _ 3 0 8 WF1 P (by omega) runs8 (by omega) (by omega))
  go_wp2_with fail
  refine A1.out.mono ?_
  rintro e w2 ⟨rfl, P2, M2⟩
  have WF2 : Wf L83 ((List.replicate 8 (0 : Int)).set 0 ((3 : Nat) : Int)) := wf_alloc WF1 rfl 0 3 (by omega) (by decide) (fun i x y => by
    have h : i = 0 ∨ i = 1 ∨ i = 2 := by omega
    rcases h with rfl | rfl | rfl <;> decide)
  have A2 := Lib.hid (alloc_first w2 g a b L83 _ 2 3 5 WF2 P2 (by omega) runs83 (by omega) (by omega))
  go_wp2_with fail
  refine A2.out.mono ?_
  rintro e w3 ⟨rfl, P3, M3⟩
  have WF3 : Wf L832 (((List.replicate 8 (0 : Int)).set 0 ((3 : Nat) : Int)).set 3 ((2 : Nat) : Int)) := wf_alloc WF2 rfl 3 2 (by omega) (by decide) (fun i x y => by
    have h : i = 3 ∨ i = 4 := by omega
    rcases h with rfl | rfl <;> decide)
  have LF := Lib.hid (left_it w3 g a b L832 _ WF3 P3)
  rw [runs832] at LF
  have B3 := Lib.hid (Kit.step (Kit.step hB M2 (by simp; omega)) M3 (by simp; omega))
  clear NI A1 A2 P P2 P3 WF1 WF2 WF3 M2 M3 hB
  go_wp2_with fail
  refine LF.out.mono ?_
  rintro e w4 ⟨rfl, B4⟩
  go_wp2_with fail
  go_ret
  exact ⟨rfl, Kit.stepB B3.out B4⟩
end Go.Proofs.Ytlhgdcimchmldaa.Pw
