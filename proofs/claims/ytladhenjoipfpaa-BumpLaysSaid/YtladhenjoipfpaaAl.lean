/- Alloc: the first run that is long enough. No condition. -/
import Derived.Test.YtladhenjoipfpaaRs
import Derived.Sort.LoopGhostIn
import Derived.RegionIn
set_option linter.unusedVariables false
set_option linter.unusedSimpArgs false
namespace Go.Proofs.Ytladhenjoipfpaa.Al
open Go.RowKit Go.Shelf
open Pl Rn Rs Ov
attribute [local go_sem] Oper.semAt_some
set_option maxRecDepth 100000 in
set_option maxHeartbeats 4000000 in
theorem alloc_all (w : World) (g a b : Nat) (fs ms : List Int) (N : Nat) (WF : Wf fs ms) (P : Pool w g a b fs ms) (h1 : 1 ≤ N) (h2 : N ≤ 9223372036854775807) :
    Calls Try.prog 25 #[.pointer (some ⟨g, 0, none⟩), .int .i64 N] w fun e w' =>
      (e = .returned (.tuple #[.int .i64 0, .int .i64 5]) ∧ (∀ r : Nat × Nat, r ∈ runsFrom fs 0 → (r.2 : Int) < N) ∧ Below w.heap.size w w') ∨
      (∃ (ini : List (Nat × Nat)) (p k : Nat) (post : List (Nat × Nat)), runsFrom fs 0 = ini ++ (p, k) :: post ∧ (∀ r : Nat × Nat, r ∈ ini → (r.2 : Int) < N) ∧ (N : Int) ≤ k ∧ e = .returned (.tuple #[.int .i64 p, .int .i64 0]) ∧ Pool w' g a b (fill fs p N p) (ms.set p (N : Int)) ∧ Kit.Mod [a, b] w w') := by
  refine (callsIn_wide (n := 6)).1 ?_
  refine callsIn_of_wp_marks Try.func25 rfl trivial ?_ rfl
  simp only [Try.ntmps25, List.size_toArray, List.length_cons, List.length_nil, Nat.reduceAdd, Nat.reduceSub, Array.replicate_succ, Array.replicate_zero, List.push_toArray, List.append_toArray, List.nil_append, List.cons_append]
  have d1 : decide ((N : Int) < 1) = false := decide_eq_false (by omega)
  gi_wp2
  refine ⟨trivial, ?_⟩
  refine (callsIn_wide.2 (runs_call _ g)).mono ?_
  rintro e w1 ⟨rfl, rfl⟩
  gi_wp2
  have sz : w.heap.size + 1 + 1 + 1 + 1 + 1 = (((((w.alloc (Obj.cells #[Value.pointer (some { block := g, off := 0 })] 27)).alloc (Obj.cells #[Value.int IntKind.i64 ↑N] 3)).alloc (Obj.cells #[Value.int IntKind.i64 0] 3)).alloc (Obj.cells #[Value.int IntKind.i64 0] 34)).alloc (Obj.cells #[Value.pointer (some { block := g, off := 0 })] 27)).heap.size := by simp
  have k0 : Hid (∀ (A B C D E : Obj), (((((w.alloc A).alloc B).alloc C).alloc D).alloc E).heap[w.heap.size]? = some A ∧ (((((w.alloc A).alloc B).alloc C).alloc D).alloc E).heap[w.heap.size + 1]? = some B ∧ (((((w.alloc A).alloc B).alloc C).alloc D).alloc E).heap[w.heap.size + 1 + 1]? = some C ∧ (((((w.alloc A).alloc B).alloc C).alloc D).alloc E).heap[w.heap.size + 1 + 1 + 1]? = some D ∧ (((((w.alloc A).alloc B).alloc C).alloc D).alloc E).heap[w.heap.size + 1 + 1 + 1 + 1]? = some E) := fun A B C D E => by
    refine ⟨Kit.keep_alloc (Kit.keep_alloc (Kit.keep_alloc (Kit.keep_alloc (Kit.new_blk w A) _) _) _) _, Kit.keep_alloc (Kit.keep_alloc (Kit.keep_alloc (Kit.new_blk2 w A B) _) _) _, ?_, ?_, ?_⟩
    · have := Kit.keep_alloc (Kit.keep_alloc (Kit.new_blk2 (w.alloc A) B C) D) E
      simpa using this
    · have := Kit.keep_alloc (Kit.new_blk2 ((w.alloc A).alloc B) C D) E
      simpa using this
    · have := Kit.new_blk2 (((w.alloc A).alloc B).alloc C) D E
      simpa using this
  have BL : Hid (∀ (A B C D E : Obj), Below w.heap.size w (((((w.alloc A).alloc B).alloc C).alloc D).alloc E)) := fun A B C D E => Kit.allocB (Kit.allocB (Kit.allocB (Kit.allocB (Kit.allocB (Below.refl _ _) _) _) _) _) _
  obtain ⟨V, hV⟩ : ∃ V, V = ((((w.alloc (Obj.cells #[Value.pointer (some { block := g, off := 0 })] 27)).alloc (Obj.cells #[Value.int IntKind.i64 ↑N] 3)).alloc (Obj.cells #[Value.int IntKind.i64 0] 3)).alloc (Obj.cells #[Value.int IntKind.i64 0] 34)).alloc (Obj.cells #[Value.pointer (some { block := g, off := 0 })] 27) := ⟨_, rfl⟩
  have k1 := k0.out (Obj.cells #[Value.pointer (some { block := g, off := 0 })] 27) (Obj.cells #[Value.int IntKind.i64 ↑N] 3) (Obj.cells #[Value.int IntKind.i64 0] 3) (Obj.cells #[Value.int IntKind.i64 0] 34) (Obj.cells #[Value.pointer (some { block := g, off := 0 })] 27)
  have bl := BL.out (Obj.cells #[Value.pointer (some { block := g, off := 0 })] 27) (Obj.cells #[Value.int IntKind.i64 ↑N] 3) (Obj.cells #[Value.int IntKind.i64 0] 3) (Obj.cells #[Value.int IntKind.i64 0] 34) (Obj.cells #[Value.pointer (some { block := g, off := 0 })] 27)
  rw [← hV] at k1 bl sz ⊢
  obtain ⟨k10, k11, k12, k13, k14⟩ := k1
  have lg := Kit.lt_of P.obj
  have la := Kit.lt_of P.one
  have lb := Kit.lt_of P.two
  refine wpIn_rangeFunc_ownG rfl (by decide) (gf := 48) (lb := #[.pointer (some ⟨w.heap.size + 1 + 1 + 1 + 1, 0, none⟩)]) rfl trivial (enters_of Try.func48 (by kernel_rfl) rfl)
    (runs_stops (6 - 1) (by decide) (w.heap.size + 1 + 1 + 1 + 1) V.heap.size g a b fs ms WF (by omega) V (Nat.le_refl _) (P.keepB bl) (Kit.cells1 k14)) belowK_t (belowK_b (by omega)) (Below.refl _ _) (fun _ => rfl)
    (fun pre W => (∀ r : Ru fs.length, r ∈ pre → (r.1.2 : Int) < N) ∧ Below V.heap.size V W)
    (fun c pre W => (c = .ret ∧ ∃ (ini : List (Ru fs.length)) (x : Ru fs.length), pre = ini ++ [x] ∧ (∀ r : Ru fs.length, r ∈ ini → (r.1.2 : Int) < N) ∧ (N : Int) ≤ x.1.2 ∧ Pool W g a b (fill fs x.1.1 N x.1.1) (ms.set x.1.1 (N : Int)) ∧ W.heap[w.heap.size + 1 + 1]? = some (.cells #[.int .i64 (x.1.1 : Int)] 3 (0, 0)) ∧ W.heap[w.heap.size + 1 + 1 + 1]? = some (.cells #[.int .i64 0] 34 (0, 0))) ∧ Kit.Mod [a, b] w W)
    ?hI ?hIx ⟨by simp, Below.refl _ _⟩
    (fun x => { tmps := #[.pointer (some ⟨g, 0, none⟩), .int .i64 N, .pointer (some ⟨w.heap.size, 0, none⟩), .pointer (some ⟨w.heap.size + 1, 0, none⟩), .pointer (some ⟨w.heap.size + 1 + 1, 0, none⟩), .pointer (some ⟨w.heap.size + 1 + 1 + 1, 0, none⟩), .int .i64 (x.1.1 : Int), .int .i64 (x.1.2 : Int), undef, .pointer (some ⟨g, 0, none⟩), .bool false, .int .i64 N, .bool false, .pointer (some ⟨g, 0, none⟩), .func (.func 48) #[] #[.pointer (some ⟨w.heap.size + 1 + 1 + 1 + 1, 0, none⟩)], .int .i64 (x.1.1 : Int), .int .i64 (x.1.2 : Int), undef, undef, undef, undef, undef, undef, undef, undef, undef, undef, undef, undef, undef, undef, undef, undef, undef, undef, undef, undef, undef, undef, undef, undef, undef, undef], defers := [] }) ?assign ?body ?done ?stop
  case hI => exact OwnFrom.and (Rs.ownFrom_pure (fun pre => ∀ r : Ru fs.length, r ∈ pre → (r.1.2 : Int) < N)) (ownFrom_below (Nat.le_refl _) (Nat.le_refl _))
  case hIx =>
    intro c s W W' row hs hg hr
    obtain ⟨⟨hc, ini, x, e1, e2, e3, hP, hA, hB⟩, hm⟩ := hs
    exact ⟨⟨hc, ini, x, e1, e2, e3, ownFrom_pool (β := Unit) (by omega) () W W' row hP hg hr, ownFrom_blk (β := Unit) (by omega) () W W' row hA hg hr, ownFrom_blk (β := Unit) (by omega) () W W' row hB hg hr⟩, ownFrom_mod (β := Unit) (by omega) () W W' row hm hg hr⟩
  case assign =>
    intro l x W K hK
    dsimp only [encN]
    gi_wp2
    exact hK
  case body =>
    rintro l pre x W ⟨hp, hB⟩ hlen
    obtain ⟨⟨p, k⟩, hx⟩ := x
    simp only at hx ⊢
    have HP := Lib.hid hp
    have HB := Lib.hid hB
    have PW := Lib.hid ((P.keepB bl).keepB hB)
    have cn := Kit.cells1 (Kit.keepB k11 hB)
    have cg := Kit.cells1 (Kit.keepB k10 hB)
    have K10 := Lib.hid k10
    have K11 := Lib.hid k11
    have K12 := Lib.hid k12
    have K13 := Lib.hid k13
    have hVs := bl.size
    clear hp hB hlen k0 BL k10 k11 k12 k13 k14 hV
    by_cases hk : (k : Int) < N
    · have d2 : decide ((k : Int) < N) = true := decide_eq_true hk
      gi_wp2
      exact ⟨KeepsFrom.refl _ _, Below.refl _ _, ⟨fun r hr => by
        rcases List.mem_append.1 hr with hr | hr
        · exact HP.out r hr
        · simp at hr; subst hr; exact hk, HB.out⟩⟩
    · have d2 : decide ((k : Int) < N) = false := decide_eq_false hk
      gi_wp2
      have hpn : p + N ≤ fs.length := by omega
      have hsm := P.small
      have hlm := P.len
      gi_loopg [8] N (fun q i wr => ∃ j : Nat, (j ≤ N ∧ q = N - j) ∧ i = .int .i64 ((p + j : Nat) : Int) ∧ Hid (Pool wr g a b (fill fs p j p) ms ∧ Kit.Mod [a] W wr ∧ KeepsOthers W wr))
      case atStart => exact ⟨0, ⟨Nat.zero_le _, rfl⟩, by simp, by rw [fill_zero]; exact PW.out, Kit.Mod.refl _ _, KeepsOthers.refl _⟩
      case round =>
        obtain ⟨j, ⟨hj, rfl⟩, rfl, H⟩ := hrel
        have hfl := fill_length fs p j (p : Int) (by omega)
        have c2 := Kit.cells2 H.out.1.obj
        rw [hfl] at c2
        have HFL := Lib.hid hfl
        have hWs := HB.out.size
        have cn := Kit.cells1 (Kit.keep (Kit.keepB K11.out HB.out) H.out.2.1 (by simp; omega))
        have cg := Kit.cells1 (Kit.keep (Kit.keepB K10.out HB.out) H.out.2.1 (by simp; omega))
        clear hfl
        by_cases hlt : j < N
        · have c1 := Rw.cell H.out.1.one (p + j) (by rw [HFL.out]; omega)
          have f1 := Rw.frozen H.out.1.one (p + j)
          have P1 := H.out.1.put1 (p + j) p
          rw [fill_succ fs p j p (by omega)] at P1
          have HP1 := Lib.hid P1
          have M1 := Lib.hid (H.out.2.1.setCell (p := ⟨a, p + j, none⟩) (.inl (by simp)) (.int .i64 p))
          have O1 := Lib.hid (H.out.2.2.trans (KeepsOthers.setCell wr ⟨a, p + j, none⟩ (.int .i64 p)))
          clear P1
          generalize (fill fs p j p).getD (p + j) 0 = y at c1
          have d3 : decide ((p : Int) + j < p + N) = true := decide_eq_true (by omega)
          gi_wp2
          gi_roundg (N - (j + 1))
          case measure => omega
          case rel => exact ⟨j + 1, ⟨by omega, rfl⟩, by simp; omega, HP1.out, M1.out, O1.out⟩
        · obtain rfl : N = j := by omega
          have d3 : decide ((p : Int) + N < p + N) = false := decide_eq_false (by omega)
          have hmx : Try.prog.follows .mixedOrders = true := by kernel_rfl
          have cm := Rw.cell H.out.1.two p (by rw [hlm]; omega)
          have fm := Rw.frozen H.out.1.two p
          have bp : (p : Int) < fs.length := by omega
          generalize ms.getD p 0 = y at cm
          have HP2 := Lib.hid (H.out.1.put2 p N)
          have c12 := Kit.cells1 (Kit.keep (Kit.keepB K12.out HB.out) H.out.2.1 (by simp; omega))
          have c13 := Kit.cells1 (Kit.keep (Kit.keepB K13.out HB.out) H.out.2.1 (by simp; omega))
          have f12 := Kit.frozen_of (Kit.keep (Kit.keepB K12.out HB.out) H.out.2.1 (by simp; omega)) 0
          have f13 := Kit.frozen_of (Kit.keep (Kit.keepB K13.out HB.out) H.out.2.1 (by simp; omega)) 0
          have m3 := ((Kit.Mod.refl [w.heap.size + 1 + 1, w.heap.size + 1 + 1 + 1] (wr.setCell ⟨b, p, none⟩ (.int .i64 N))).setCell (p := ⟨w.heap.size + 1 + 1, 0, none⟩) (.inl (by simp)) (.int .i64 p)).setCell (p := ⟨w.heap.size + 1 + 1 + 1, 0, none⟩) (.inl (by simp)) (.int .i64 0)
          have hPf := Lib.hid (HP2.out.keep m3 (by simp; omega) (by simp; omega) (by simp; omega))
          have hA := Lib.hid (Kit.set_far (p := ⟨w.heap.size + 1 + 1 + 1, 0, none⟩) (Kit.set_blk (Kit.set_far (p := ⟨b, p, none⟩) (Kit.keep (Kit.keepB K12.out HB.out) H.out.2.1 (by simp; omega)) (by simp; omega) (.int .i64 N)) 0 (.int .i64 p)) (by simp) (.int .i64 0))
          have hBt := Lib.hid (Kit.set_blk (Kit.set_far (p := ⟨w.heap.size + 1 + 1, 0, none⟩) (Kit.set_far (p := ⟨b, p, none⟩) (Kit.keep (Kit.keepB K13.out HB.out) H.out.2.1 (by simp; omega)) (by simp; omega) (.int .i64 N)) (by simp) (.int .i64 p)) 0 (.int .i64 0))
          have M1 : Kit.Mod [a, b] w W := (Kit.Mod.of_below bl).trans (Kit.Mod.of_below (S := []) HB.out) (by simp)
          have MF := Lib.hid ((((M1.trans H.out.2.1 (fun x hx => .inl (by simp at hx ⊢; exact .inl hx))).setCell (p := ⟨b, p, none⟩) (.inl (by simp)) (.int .i64 N)).setCell (p := ⟨w.heap.size + 1 + 1, 0, none⟩) (.inr (by simp; omega)) (.int .i64 p)).setCell (p := ⟨w.heap.size + 1 + 1 + 1, 0, none⟩) (.inr (by simp; omega)) (.int .i64 0))
          have OF := Lib.hid (((H.out.2.2.trans (KeepsOthers.setCell wr ⟨b, p, none⟩ (.int .i64 N))).trans (KeepsOthers.setCell _ ⟨w.heap.size + 1 + 1, 0, none⟩ (.int .i64 p))).trans (KeepsOthers.setCell _ ⟨w.heap.size + 1 + 1 + 1, 0, none⟩ (.int .i64 0)))
          clear m3 M1
          gi_wp2
          gi_region_with_o (fail)
          all_goals
            gi_wp2
            exact ⟨(OF.out.trans (KeepsOthers.drew _)).from _, ⟨⟨rfl, pre, ⟨(p, k), hx⟩, rfl, HP.out, by simpa using hk, hPf.out.heap rfl, hA.out, hBt.out⟩, MF.out.drew⟩⟩
  case done =>
    rintro D ys W hD hys ⟨hp, hB⟩ hK
    have b2 := Kit.keepB k12 hB
    have b3 := Kit.keepB k13 hB
    have c12 := Kit.cells1 b2
    have c13 := Kit.cells1 b3
    have f12 := Kit.frozen_of b2 0
    have f13 := Kit.frozen_of b3 0
    have HB := Lib.hid hB
    have HP := Lib.hid hp
    have HY := Lib.hid hys
    have A2 := Lib.hid (Kit.set_far (p := ⟨w.heap.size + 1 + 1 + 1, 0, none⟩) (Kit.set_blk b2 0 (.int .i64 0)) (by simp) (.int .i64 5))
    have A3 := Lib.hid (Kit.set_blk (Kit.set_far (p := ⟨w.heap.size + 1 + 1, 0, none⟩) b3 (by simp) (.int .i64 0)) 0 (.int .i64 5))
    have hbl := bl.size
    have BF := Lib.hid (((Kit.stepB bl hB).setCell (p := ⟨w.heap.size + 1 + 1, 0, none⟩) (by simp; omega) (.int .i64 0)).setCell (p := ⟨w.heap.size + 1 + 1 + 1, 0, none⟩) (by simp; omega) (.int .i64 5))
    have HK := Lib.hid hK
    clear hB hp hys b2 b3 k0 BL k10 k11 k12 k13 k14 hV
    gi_wp2
    have hK' := ((KeepsOthers.setCell W ⟨w.heap.size + 1 + 1, 0, none⟩ (.int .i64 0)).trans (KeepsOthers.setCell _ ⟨w.heap.size + 1 + 1 + 1, 0, none⟩ (.int .i64 5))).same D _ HK.out rfl
    refine ⟨by simp, .inl ⟨_, _, rfl, run_takeDeferred hK', ?_⟩⟩
    have a2 : ((W.setCell ⟨w.heap.size + 1 + 1, 0, none⟩ (.int .i64 0)).setCell ⟨w.heap.size + 1 + 1 + 1, 0, none⟩ (.int .i64 5)).heap[w.heap.size + 1 + 1]? = some (.cells #[.int .i64 0] 3 (0, 0)) := A2.out.trans rfl
    have a3 : ((W.setCell ⟨w.heap.size + 1 + 1, 0, none⟩ (.int .i64 0)).setCell ⟨w.heap.size + 1 + 1 + 1, 0, none⟩ (.int .i64 5)).heap[w.heap.size + 1 + 1 + 1]? = some (.cells #[.int .i64 5] 34 (0, 0)) := A3.out.trans rfl
    have bf := BF.out
    clear A2 A3 BF
    generalize (W.setCell ⟨w.heap.size + 1 + 1, 0, none⟩ (.int .i64 0)).setCell ⟨w.heap.size + 1 + 1 + 1, 0, none⟩ (.int .i64 5) = W2 at *
    have c5 := cell_kept (Kit.cells1 a2) (grownBy_putObj' W2 D (.deferred none)) (fun r e => by cases e; exact ⟨_, hK', rfl⟩)
    have c6 := cell_kept (Kit.cells1 a3) (grownBy_putObj' W2 D (.deferred none)) (fun r e => by cases e; exact ⟨_, hK', rfl⟩)
    refine ⟨.tuple #[.int .i64 0, .int .i64 5], ?_, .inl ⟨rfl, fun r hr => ?_, bf.trans (belowK_b (w := w) (Nat.le_refl _) W2 D _ _ (by omega) hK' rfl rfl)⟩⟩
    · simp [results, Try.f25, go_sem, c5, c6]
    · have hy := HY.out
      rw [← hy] at hr
      rw [List.mem_map] at hr
      obtain ⟨x, hx, rfl⟩ := hr
      exact HP.out x hx
  case stop =>
    rintro D c pre W hD ⟨post, hpost⟩ ⟨⟨rfl, ini, x, e1, e2, e3, hP, hA, hB⟩, hm⟩ hK
    have HK := Lib.hid hK
    have HA := Lib.hid hA
    have HB := Lib.hid hB
    have HPP := Lib.hid hP
    have HM := Lib.hid hm
    have HE := Lib.hid (And.intro e1 (And.intro e2 (And.intro e3 hpost)))
    have hbl := bl.size
    clear hA hB hP hm e1 e2 e3 hpost k0 BL k10 k11 k12 k13 k14 hV
    gi_wp2
    refine ⟨by simp, .inl ⟨_, _, rfl, run_takeDeferred HK.out, ?_⟩⟩
    have c5 := cell_kept (Kit.cells1 HA.out) (grownBy_putObj' W D (.deferred none)) (fun r e => by cases e; exact ⟨_, HK.out, rfl⟩)
    have c6 := cell_kept (Kit.cells1 HB.out) (grownBy_putObj' W D (.deferred none)) (fun r e => by cases e; exact ⟨_, HK.out, rfl⟩)
    obtain ⟨e1, e2, e3, hpost⟩ := HE.out
    refine ⟨.tuple #[.int .i64 (x.1.1 : Int), .int .i64 0], ?_, .inr ⟨ini.map (·.1), x.1.1, x.1.2, post, by rw [hpost, e1]; simp, fun r hr => ?_, e3, rfl, ?_, ?_⟩⟩
    · simp [results, Try.f25, go_sem, c5, c6]
    · rw [List.mem_map] at hr
      obtain ⟨y, hy, rfl⟩ := hr
      exact e2 y hy
    · exact ownFrom_pool (β := Unit) (B := V.heap.size) (by omega) () W _ (some D) HPP.out (grownBy_putObj' W D (.deferred none)) (fun r e => by cases e; exact ⟨hD, _, HK.out, rfl⟩)
    · exact ownFrom_mod (β := Unit) (B := V.heap.size) (by omega) () W _ (some D) HM.out (grownBy_putObj' W D (.deferred none)) (fun r e => by cases e; exact ⟨hD, _, HK.out, rfl⟩)
end Go.Proofs.Ytladhenjoipfpaa.Al
