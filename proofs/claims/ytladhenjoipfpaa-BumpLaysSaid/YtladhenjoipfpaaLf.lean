/- The runs as a range that may be kept; how many blocks are free; the longest run. No condition. -/
import Derived.Test.YtladhenjoipfpaaK1
set_option linter.unusedVariables false
set_option linter.unusedSimpArgs false
namespace Go.Proofs.Ytladhenjoipfpaa.Lf
open Go.RowKit Go.Shelf
open Pl Rn Rs Ov Tw Kp Rc K1
attribute [local go_sem] Oper.semAt_some
theorem own_mono {w : World} {B B' : Nat} {T : TypeId} {n : Nat} {v : Value} {xs : List Value} (h : w.ownsRow B T 1 v n xs) (hb : B' ≤ B) : w.ownsRow B' T 1 v n xs := by
  refine ⟨h.1, ?_⟩
  rcases h.2 with h | ⟨g, cap, cur, rfl, hg, rest⟩
  · exact .inl h
  · exact .inr ⟨g, cap, cur, rfl, by omega, rest⟩
theorem runs_ru {fs : List Int} : ∀ p, ∀ r ∈ runsFrom fs p, r.1 + r.2 ≤ fs.length := by
  intro p
  induction hd : fs.length - p using Nat.strongRecOn generalizing p with
  | _ d ih =>
    intro r hr
    by_cases hp : fs.length ≤ p
    · rw [runs_end p hp] at hr; cases hr
    · by_cases hn : fs.getD p 0 < 0
      · rw [runs_free p (by omega) hn] at hr
        rcases List.mem_cons.1 hr with rfl | hr
        · exact fl_le p (by omega)
        · have := fl_pos p (by omega) hn
          exact ih (fs.length - (p + fl fs p)) (by omega) _ rfl r hr
      · rw [runs_taken p (by omega) (by omega)] at hr
        exact ih (fs.length - (p + 1)) (by omega) _ rfl r hr
set_option maxRecDepth 100000 in
set_option maxHeartbeats 4000000 in
theorem runs_it (w : World) (g a b : Nat) (fs ms : List Int) (WF : Wf fs ms) (P : Pool w g a b fs ms) :
    Calls Try.prog 34 #[.pointer (some ⟨g, 0, none⟩)] w fun e w' => ∃ p q va vb, e = .returned (.func (.func 50) #[] #[.pointer (some ⟨p, 0, none⟩), .pointer (some ⟨q, 0, none⟩)]) ∧ Below w.heap.size w w' ∧ Two w' w.heap.size p q va vb (runsFrom fs 0) := by
  refine (callsIn_wide (n := 6)).1 ?_
  refine callsIn_of_wp Try.func34 rfl trivial ?_ rfl
  simp only [Try.ntmps34, List.size_toArray, List.length_cons, List.length_nil, Nat.reduceAdd, Nat.reduceSub, Array.replicate_succ, Array.replicate_zero, List.push_toArray, List.append_toArray, List.nil_append, List.cons_append]
  gi_wp2
  refine ⟨trivial, ?_⟩
  refine (callsIn_wide.2 (runs_call _ g)).mono ?_
  rintro e w1 ⟨rfl, rfl⟩
  gi_wp2
  have lg := Kit.lt_of P.obj
  have la := Kit.lt_of P.one
  have lb := Kit.lt_of P.two
  have bl : Below w.heap.size w (w.alloc (.cells #[.pointer (some ⟨g, 0, none⟩)] 27)) := Kit.allocB (Below.refl _ _) _
  have sz : (w.alloc (.cells #[.pointer (some ⟨g, 0, none⟩)] 27)).heap.size = w.heap.size + 1 := by simp
  refine ⟨trivial, ?_⟩
  refine (callsIn_wide.2 (kept_in _ 48 (by omega) #[.pointer (some ⟨w.heap.size, 0, none⟩)] fs.length P.small.2 (runsFrom fs 0) (w.heap.size + 1) (by omega) (enters_of Try.func48 (by kernel_rfl) rfl)
    (fun w' hw' => runs_stops 5 (by decide) w.heap.size (w.heap.size + 1) g a b fs ms WF (by omega) w' (by have := hw'.size; omega) ((P.keepB bl).keepB hw') (Kit.cells1 (Kit.keepB (Kit.new_blk w _) hw'))))).mono ?_
  rintro e w2 ⟨va, vb, rfl, hB, h1, h2, o1, o2⟩
  rw [sz] at h1 h2 o1 o2
  gi_wp2
  refine bodyPost_ret (v := .func (.func 50) #[] #[.pointer (some ⟨w.heap.size + 1, 0, none⟩), .pointer (some ⟨w.heap.size + 1 + 1, 0, none⟩)]) (by simp [results, Try.f34, go_sem]) rfl ?_
  exact ⟨_, _, va, vb, rfl, Kit.stepB bl hB, h1, h2, own_mono o1 (by omega), own_mono o2 (by omega), by omega⟩
def sumR (l : List (Nat × Nat)) : Nat := (l.map (·.2)).sum
def maxR (l : List (Nat × Nat)) : Nat := l.foldl (fun m r => max m r.2) 0
theorem sumR_le {N : Nat} (l : List (Ru N)) : sumR (l.map (·.1)) ≤ l.length * N := by
  induction l with
  | nil => simp [sumR]
  | cons x t ih =>
    have := x.2
    simp only [sumR, List.map_cons, List.sum_cons, List.length_cons] at ih ⊢
    have e : (t.length + 1) * N = t.length * N + N := by rw [Nat.add_mul, Nat.one_mul]
    omega
set_option maxRecDepth 100000 in
set_option maxHeartbeats 4000000 in
theorem left_it (w : World) (g a b : Nat) (fs ms : List Int) (WF : Wf fs ms) (P : Pool w g a b fs ms) :
    Calls Try.prog 22 #[.pointer (some ⟨g, 0, none⟩)] w fun e w' => e = .returned (.int .i64 (sumR (runsFrom fs 0) : Nat)) ∧ Below w.heap.size w w' := by
  refine (callsIn_wide (n := 6)).1 ?_
  refine callsIn_of_wp_marks Try.func22 rfl trivial ?_ rfl
  simp only [Try.ntmps22, List.size_toArray, List.length_cons, List.length_nil, Nat.reduceAdd, Nat.reduceSub, Array.replicate_succ, Array.replicate_zero, List.push_toArray, List.append_toArray, List.nil_append, List.cons_append]
  gi_wp2
  refine ⟨trivial, ?_⟩
  have bl0 : Below w.heap.size w (w.alloc (.cells #[.int .i64 0] 3)) := Kit.allocB (Below.refl _ _) _
  have sz0 : (w.alloc (.cells #[.int .i64 0] 3)).heap.size = w.heap.size + 1 := by simp
  have k0 := Kit.new_blk w (.cells #[.int .i64 0] 3)
  refine (callsIn_wide.2 (runs_it _ g a b fs ms WF (P.keepB bl0))).mono ?_
  generalize w.alloc (.cells #[.int .i64 0] 3) = V0 at *
  rintro e V ⟨p, q, va, vb, rfl, hB, T⟩
  rw [sz0] at T
  have sV := hB.size
  have k1 := Kit.keepB k0 hB
  have blV := Kit.stepB bl0 hB
  gi_wp2
  refine wpIn_rangeFunc_ownG rfl (by decide) (gf := 50) (lb := #[.pointer (some ⟨p, 0, none⟩), .pointer (some ⟨q, 0, none⟩)]) rfl trivial (enters_of Try.func50 (by kernel_rfl) rfl)
    (kept1_stops 5 (by decide) (w.heap.size + 1) p q va vb fs.length P.small.2 (runsFrom fs 0) (by have := runs_length (fs := fs) 0; omega) (runs_ru 0) V T) gk_t (fun W l o o' _ hl ho _ => gk_b o' hl ho) (Below.refl _ _) (fun _ => rfl)
    (fun pre W => Below w.heap.size w W ∧ W.heap[w.heap.size]? = some (.cells #[.int .i64 (sumR (pre.map (·.1)) : Nat)] 3 (0, 0)))
    (fun c pre W => False)
    ?hI ?hIx ⟨blV, k1⟩
    (fun x => { tmps := #[.pointer (some ⟨g, 0, none⟩), undef, .int .i64 0, .pointer (some ⟨w.heap.size, 0, none⟩), undef, .int .i64 (x.1.2 : Int), .pointer (some ⟨g, 0, none⟩), .func (.func 50) #[] #[.pointer (some ⟨p, 0, none⟩), .pointer (some ⟨q, 0, none⟩)], .int .i64 (x.1.1 : Int), .int .i64 (x.1.2 : Int), undef, undef, undef, undef], defers := [] }) ?assign ?body ?done ?stop
  case hI =>
    rintro s W W' row ⟨h1, h2⟩ hg hr
    exact ⟨h1.trans ⟨hg.os, hg.tape, hg.output, hg.size, fun k hk => hg.block k (Nat.lt_of_lt_of_le hk h1.size) (fun e => by have := (hr k e.symm).1; omega)⟩, blk_other h2 hg (fun k e => (hr k e).2)⟩
  case hIx => exact fun c s W W' row hs _ _ => hs
  case assign =>
    intro l x W K hK
    dsimp only [encN]
    gi_wp2
    exact hK
  case body =>
    rintro l pre x W ⟨h1, h2⟩ hlen
    have c1 := Kit.cells1 h2
    have f1 := Kit.frozen_of h2 0
    have hs := sumR_le (pre ++ [x])
    have e1 : sumR ((pre ++ [x]).map (·.1)) = sumR (pre.map (·.1)) + x.1.2 := by simp [sumR]
    have hl2 : (pre ++ [x]).length ≤ 4096 := by have := P.small; simp; omega
    have hs2 : (pre ++ [x]).length * fs.length ≤ 4096 * 4096 := Nat.mul_le_mul hl2 P.small.2
    have s1 : IntKind.i64.wrap ((sumR (pre.map (·.1)) : Int) + (x.1.2 : Int)) = (sumR (pre.map (·.1)) : Int) + (x.1.2 : Int) := IntWalk.i64_in _ (by omega)
    have hset := Kit.set_blk h2 0 (.int .i64 ((sumR (pre.map (·.1)) : Int) + (x.1.2 : Int)))
    have H1 := Lib.hid h1
    have H2 := Lib.hid hset
    have E1 := Lib.hid e1
    clear h1 h2 hset hs hs2 e1 hl2
    gi_wp2
    refine ⟨(KeepsOthers.setCell W ⟨w.heap.size, 0, none⟩ _).from _, ?_, H1.out.setCell (p := ⟨w.heap.size, 0, none⟩) (Nat.le_refl _) _, ?_⟩
    · exact fun t => t.keep (fun k hk _ => Below.heap_setCell W _ _ k (by simp; omega))
    · rw [E1.out]; exact H2.out
  case done =>
    rintro D ys W hD hys ⟨h1, h2⟩ hK
    have c1 := Kit.cells1 h2
    rw [hys] at c1
    gi_wp2
    refine ⟨by simp, .inl ⟨_, _, rfl, run_takeDeferred hK, ?_⟩⟩
    refine ⟨_, ?_, rfl, h1.trans (belowK_b (w := w) (Nat.le_refl _) W D _ _ (by omega) hK rfl rfl)⟩
    simp [results, Try.f22, go_sem]
  case stop => exact fun D c pre W hD _ h _ => h.elim
end Go.Proofs.Ytladhenjoipfpaa.Lf
