/- What is given back is there again: the law BumpFrees. No condition. -/
import Derived.Test.YtladhenjoipfpaaOn
import Derived.Deep.RegionHeld3
set_option linter.unusedVariables false
set_option linter.unusedSimpArgs false
namespace Go.Proofs.Ytladhenjoipfpaa.LawFrees
open Go.RowKit
open Pl Rn Ov Lf Wl Gp Ct Sn Gq Tf Mt Rr Kp Sc Nn Tk La Rp Rq Mb S2 Ak Fr Fs On
/-- On the way of the first loop. -/
structure Sa (W w : World) (I J : Ids) (n N j : Nat) : Prop where
  ex : ∃ fs xs σ ys, Pair W w I J fs xs σ (fs0 n) ys Sq.new ∧ (xs.length = N ∧ ys.length = N) ∧ Okn σ j ∧ Gr n fs σ.groups
theorem Sa.below {W w w' : World} {I J : Ids} {n N j : Nat} (h : Sa W w I J n N j) (b : Below w.heap.size w w') : Sa W w' I J n N j := by
  obtain ⟨fs, xs, σ, ys, P, r⟩ := h.ex
  exact ⟨fs, xs, σ, ys, P.below b, r⟩
theorem Sa.bel {W w : World} {I J : Ids} {n N j : Nat} (h : Sa W w I J n N j) : Below W.heap.size W w := by
  obtain ⟨fs, xs, σ, ys, P, r⟩ := h.ex
  exact P.bel
theorem Sa.obj {W w : World} {I J : Ids} {n N j : Nat} (h : Sa W w I J n N j) : w.heap[I.wd]? = some (.cells #[.pointer (some ⟨I.g, 0, none⟩), .pointer (some ⟨I.ga, 0, none⟩), .pointer (some ⟨I.s, 0, none⟩), .pointer (some ⟨I.s1, 0, none⟩), .pointer (some ⟨I.x0, 0, none⟩), .pointer (some ⟨I.x1, 0, none⟩)] 33 (0, 0)) := by
  obtain ⟨fs, xs, σ, ys, P, r⟩ := h.ex
  exact P.objs
theorem Sa.lay {W w : World} {I J : Ids} {n N j : Nat} (h : Sa W w I J n N j) (hn : 1 ≤ n) (hj : j ≤ 800) (m : Int) :
    Calls Try.prog 10 #[.pointer (some ⟨I.s, 0, none⟩), .int .i64 m] w fun e w' => (∃ p c : Nat, e = .returned (.tuple #[.int .i64 p, .int .i64 c])) ∧ Sa W w' I J n N (j + 1) := by
  obtain ⟨fs, xs, σ, ys, P, hx, O, G⟩ := h.ex
  have sm : fs.length ≤ 4096 := by obtain ⟨_, _, A, _⟩ := P.ex; exact A.one.env.small.2
  refine (P.lay (O.ok (by omega)) m).mono ?_
  rintro e w' ⟨rfl, P'⟩
  exact ⟨⟨_, _, rfl⟩, _, _, _, _, P', ⟨(layX_length _ _ _).trans hx.1, hx.2⟩, O.layA m sm, G.lay hn m⟩
/-- Behind the giving back, and on the way of the second loop. -/
structure Sb (W w : World) (I J : Ids) (N j : Nat) : Prop where
  ex : ∃ fs xs σ ys, Pair W w I J fs xs σ fs ys σ ∧ (xs.length = N ∧ ys.length = N) ∧ Okn σ j
structure Sb0 (W w : World) (I J : Ids) (n N : Nat) : Prop where
  ex : ∃ xs ys, Pair W w I J (fs0 n) xs Sq.new (fs0 n) ys Sq.new ∧ (xs.length = N ∧ ys.length = N)
/-- Between two lays. -/
structure Sm (W w : World) (I J : Ids) (N j : Nat) (m : Int) (p c : Nat) : Prop where
  ex : ∃ fs xs σ ys, Pair W w I J (layA fs N σ m).2.2.1 xs (layA fs N σ m).2.2.2 fs ys σ ∧ (xs.length = N ∧ ys.length = N) ∧ Okn σ j ∧ p = (layA fs N σ m).1 ∧ c = (layA fs N σ m).2.1
section
variable {W w w' : World} {I J : Ids} {n N j p c : Nat} {m : Int}
theorem Sb0.below (h : Sb0 W w I J n N) (b : Below w.heap.size w w') : Sb0 W w' I J n N := by
  obtain ⟨xs, ys, P, r⟩ := h.ex
  exact ⟨xs, ys, P.below b, r⟩
theorem Sb.below (h : Sb W w I J N j) (b : Below w.heap.size w w') : Sb W w' I J N j := by
  obtain ⟨fs, xs, σ, ys, P, r⟩ := h.ex
  exact ⟨fs, xs, σ, ys, P.below b, r⟩
theorem Sm.below (h : Sm W w I J N j m p c) (b : Below w.heap.size w w') : Sm W w' I J N j m p c := by
  obtain ⟨fs, xs, σ, ys, P, r⟩ := h.ex
  exact ⟨fs, xs, σ, ys, P.below b, r⟩
theorem Sb.bel (h : Sb W w I J N j) : Below W.heap.size W w := by
  obtain ⟨fs, xs, σ, ys, P, r⟩ := h.ex
  exact P.bel
theorem Sm.bel (h : Sm W w I J N j m p c) : Below W.heap.size W w := by
  obtain ⟨fs, xs, σ, ys, P, r⟩ := h.ex
  exact P.bel
theorem Sb0.bel (h : Sb0 W w I J n N) : Below W.heap.size W w := by
  obtain ⟨xs, ys, P, r⟩ := h.ex
  exact P.bel
theorem Sb0.two (h : Sb0 W w I J n N) : Sb W w I J N 0 := by
  obtain ⟨xs, ys, P, r⟩ := h.ex
  exact ⟨_, xs, _, ys, P, r, Okn.new⟩
theorem Sa.free (h : Sa W w I J n N j) (hn : 1 ≤ n) (hj : j ≤ 800) :
    Calls Try.prog 21 #[.pointer (some ⟨I.s, 0, none⟩)] w fun e w' => e = .returned (.int .i64 0) ∧ Sb0 W w' I J n N := by
  obtain ⟨fs, xs, σ, ys, P, hx, O, G⟩ := h.ex
  refine (P.free (by have := O.groups; omega)).mono ?_
  rintro e w' ⟨rfl, P'⟩
  rw [G.free hn] at P'
  exact ⟨rfl, _, _, P', hx⟩
theorem Sb0.obj (h : Sb0 W w I J n N) : w.heap[I.wd]? = some (.cells #[.pointer (some ⟨I.g, 0, none⟩), .pointer (some ⟨I.ga, 0, none⟩), .pointer (some ⟨I.s, 0, none⟩), .pointer (some ⟨I.s1, 0, none⟩), .pointer (some ⟨I.x0, 0, none⟩), .pointer (some ⟨I.x1, 0, none⟩)] 33 (0, 0)) ∧
    w.heap[J.wd]? = some (.cells #[.pointer (some ⟨J.g, 0, none⟩), .pointer (some ⟨J.ga, 0, none⟩), .pointer (some ⟨J.s, 0, none⟩), .pointer (some ⟨J.s1, 0, none⟩), .pointer (some ⟨J.x0, 0, none⟩), .pointer (some ⟨J.x1, 0, none⟩)] 33 (0, 0)) := by
  obtain ⟨xs, ys, P, r⟩ := h.ex
  exact ⟨P.objs, P.swap.objs⟩
theorem Sa.obj2 (h : Sa W w I J n N j) : w.heap[J.wd]? = some (.cells #[.pointer (some ⟨J.g, 0, none⟩), .pointer (some ⟨J.ga, 0, none⟩), .pointer (some ⟨J.s, 0, none⟩), .pointer (some ⟨J.s1, 0, none⟩), .pointer (some ⟨J.x0, 0, none⟩), .pointer (some ⟨J.x1, 0, none⟩)] 33 (0, 0)) := by
  obtain ⟨fs, xs, σ, ys, P, r⟩ := h.ex
  exact P.swap.objs
theorem Sb.obj (h : Sb W w I J N j) : w.heap[I.wd]? = some (.cells #[.pointer (some ⟨I.g, 0, none⟩), .pointer (some ⟨I.ga, 0, none⟩), .pointer (some ⟨I.s, 0, none⟩), .pointer (some ⟨I.s1, 0, none⟩), .pointer (some ⟨I.x0, 0, none⟩), .pointer (some ⟨I.x1, 0, none⟩)] 33 (0, 0)) := by
  obtain ⟨fs, xs, σ, ys, P, r⟩ := h.ex
  exact P.objs
theorem Sm.obj (h : Sm W w I J N j m p c) : w.heap[J.wd]? = some (.cells #[.pointer (some ⟨J.g, 0, none⟩), .pointer (some ⟨J.ga, 0, none⟩), .pointer (some ⟨J.s, 0, none⟩), .pointer (some ⟨J.s1, 0, none⟩), .pointer (some ⟨J.x0, 0, none⟩), .pointer (some ⟨J.x1, 0, none⟩)] 33 (0, 0)) := by
  obtain ⟨fs, xs, σ, ys, P, r⟩ := h.ex
  exact P.swap.objs
theorem Sb.objJ (h : Sb W w I J N j) : w.heap[J.wd]? = some (.cells #[.pointer (some ⟨J.g, 0, none⟩), .pointer (some ⟨J.ga, 0, none⟩), .pointer (some ⟨J.s, 0, none⟩), .pointer (some ⟨J.s1, 0, none⟩), .pointer (some ⟨J.x0, 0, none⟩), .pointer (some ⟨J.x1, 0, none⟩)] 33 (0, 0)) := by
  obtain ⟨fs, xs, σ, ys, P, r⟩ := h.ex
  exact P.swap.objs
theorem Sm.objI (h : Sm W w I J N j m p c) : w.heap[I.wd]? = some (.cells #[.pointer (some ⟨I.g, 0, none⟩), .pointer (some ⟨I.ga, 0, none⟩), .pointer (some ⟨I.s, 0, none⟩), .pointer (some ⟨I.s1, 0, none⟩), .pointer (some ⟨I.x0, 0, none⟩), .pointer (some ⟨I.x1, 0, none⟩)] 33 (0, 0)) := by
  obtain ⟨fs, xs, σ, ys, P, r⟩ := h.ex
  exact P.objs
theorem Sb0.left1 (h : Sb0 W w I J n N) : Calls Try.prog 22 #[.pointer (some ⟨I.g, 0, none⟩)] w fun e w' => e = .returned (.int .i64 (sumR (runsFrom (fs0 n) 0) : Nat)) ∧ Sb0 W w' I J n N := by
  obtain ⟨xs, ys, P, r⟩ := h.ex
  refine P.left.mono ?_
  rintro e w' ⟨rfl, P'⟩
  exact ⟨rfl, _, _, P', r⟩
theorem Sb0.left2 (h : Sb0 W w I J n N) : Calls Try.prog 22 #[.pointer (some ⟨J.g, 0, none⟩)] w fun e w' => e = .returned (.int .i64 (sumR (runsFrom (fs0 n) 0) : Nat)) ∧ Sb0 W w' I J n N := by
  obtain ⟨xs, ys, P, r⟩ := h.ex
  refine P.swap.left.mono ?_
  rintro e w' ⟨rfl, P'⟩
  exact ⟨rfl, _, _, P'.swap, r⟩
theorem Sb0.used (h : Sb0 W w I J n N) : Calls Try.prog 12 #[.pointer (some ⟨I.s, 0, none⟩)] w fun e w' => e = .returned (.int .i64 0) ∧ w' = w := by
  obtain ⟨xs, ys, P, r⟩ := h.ex
  exact P.used
theorem Sb0.blocks (h : Sb0 W w I J n N) : Calls Try.prog 11 #[.pointer (some ⟨I.s, 0, none⟩)] w fun e w' => e = .returned (.int .i64 0) ∧ w' = w := by
  obtain ⟨xs, ys, P, r⟩ := h.ex
  exact P.blocks
theorem Sb.lay1 (h : Sb W w I J N j) (hj : j ≤ 800) (m : Int) :
    Calls Try.prog 10 #[.pointer (some ⟨I.s, 0, none⟩), .int .i64 m] w fun e w' => ∃ p c : Nat, e = .returned (.tuple #[.int .i64 p, .int .i64 c]) ∧ Sm W w' I J N j m p c := by
  obtain ⟨fs, xs, σ, ys, P, hx, O⟩ := h.ex
  refine (P.lay (O.ok (by omega)) m).mono ?_
  rintro e w' ⟨rfl, P'⟩
  rw [hx.1] at P' ⊢
  exact ⟨_, _, rfl, fs, _, σ, ys, P', ⟨(layX_length _ _ _).trans hx.1, hx.2⟩, O, rfl, rfl⟩
theorem Sm.lay2 (h : Sm W w I J N j m p c) (hj : j ≤ 800) :
    Calls Try.prog 10 #[.pointer (some ⟨J.s, 0, none⟩), .int .i64 m] w fun e w' => e = .returned (.tuple #[.int .i64 p, .int .i64 c]) ∧ Sb W w' I J N (j + 1) := by
  obtain ⟨fs, xs, σ, ys, P, hx, O, rfl, rfl⟩ := h.ex
  have sm : fs.length ≤ 4096 := by obtain ⟨_, _, _, A, _⟩ := P.ex; exact A.one.env.small.2
  refine (P.swap.lay (O.ok (by omega)) m).mono ?_
  rintro e w' ⟨rfl, P'⟩
  rw [hx.2] at P' ⊢
  exact ⟨rfl, _, _, _, _, P'.swap, ⟨hx.1, (layX_length _ _ _).trans hx.2⟩, O.layA m sm⟩
end
theorem cell_at {W : World} {A : Option Addr} {len : Nat} {L : Nat → Int × Int × Bool} (R : Ac.Acts W A len L) (i : Nat) (h : i < len) : ∃ bb off, A = some ⟨bb, off, none⟩ ∧ ∀ w : World, Below W.heap.size W w → w.cell? ⟨bb, off + i * 3 + 1, none⟩ = some (.int .i64 (L i).2.1) := by
  obtain ⟨bb, off, rfl, hb, hc⟩ := R.cells (by omega)
  obtain ⟨_, cm, _⟩ := hc i h
  exact ⟨bb, off, rfl, fun w q => (q.cell (p := ⟨bb, off + i * 3 + 1, none⟩) hb).trans cm⟩
set_option maxHeartbeats 8000000 in
set_option maxRecDepth 100000 in
theorem law (W : World) (u : Nat) (hu : u ≤ 255) (A : Option Addr) (len cap : Nat) (L : Nat → Int × Int × Bool) (R : Ac.Acts W A len L) (A' : Option Addr) (len' cap' : Nat) (L' : Nat → Int × Int × Bool) (R' : Ac.Acts W A' len' L') :
    Calls Try.prog 6 #[.int .u8 u, .slice A len cap, .slice A' len' cap'] W fun e w => e = .returned (.bool true) ∧ Below W.heap.size W w := by
  obtain ⟨n, hn⟩ : ∃ n, n = u % 40 + 1 := ⟨_, rfl⟩
  obtain ⟨N, hN⟩ : ∃ N, N = 64 * n := ⟨_, rfl⟩
  have MI := Lib.hid (fun w : World => made_it w n N (by omega) (by omega) (by omega) (by omega))
  have AW := Lib.hid awake_it
  have HR := Lib.hid R
  have HR' := Lib.hid R'
  have hmax := R.max
  have hmax' := R'.max
  have s0' : IntKind.i64.wrap (u : Int) = (u : Int) := IntWalk.i64_in _ (by omega)
  have s1' : IntKind.i64.wrap ((u : Int) % 40 + 1) = (n : Int) := by rw [IntWalk.i64_in _ (by omega)]; omega
  have s2' : IntKind.i64.wrap ((n : Int) * 64) = (N : Int) := by rw [IntWalk.i64_in _ (by omega)]; omega
  have n1 : 1 ≤ n := by omega
  clear R R' hn hN
  go_enter Try.func6, Try.ntmps6
  go_wp2_with fail
  refine (MI.out _).mono ?_
  rintro e w1 ⟨wd, g, a, b, ga, ar, s, m0, sp1, m1, x0, x1, y, ry, cy, K0, K1, rfl, M⟩
  have HS := Lib.hid (Side.made M)
  have HB1 := Lib.hid M.bel
  clear M
  go_wp2_with fail
  refine (MI.out _).mono ?_
  rintro e w2 ⟨wd', g', a', b', ga', ar', s', m0', sp1', m1', x0', x1', y', ry', cy', K0', K1', rfl, M⟩
  have HP := Lib.hid (Pair.made HS.out HB1.out M)
  clear M MI HS HB1
  go_wp2_with fail
  refine (AW.out _).mono ?_
  rintro e w3 ⟨rfl, b3⟩
  have HA := Lib.hid (show Sa W w3 ⟨wd, g, a, b, ga, ar, s, sp1, x0, x1⟩ ⟨wd', g', a', b', ga', ar', s', sp1', x0', x1'⟩ n N 0 from ⟨_, _, _, _, HP.out.below b3, ⟨by simp, by simp⟩, Okn.new, Gr.new n n1⟩)
  clear b3 AW HP
  go_wp2_with fail
  go_loopg [10] 100 (fun k c wr => ∃ i : Nat, (i ≤ len ∧ i ≤ 100 ∧ k = 100 - i) ∧ c = .int .i64 i ∧ Hid (Sa W wr ⟨wd, g, a, b, ga, ar, s, sp1, x0, x1⟩ ⟨wd', g', a', b', ga', ar', s', sp1', x0', x1'⟩ n N i))
  case atStart => exact ⟨0, by omega, rfl, HA⟩
  case round =>
    obtain ⟨i, ⟨hi, hi2, rfl⟩, rfl, H⟩ := hrel
    by_cases hlt : i < len ∧ i < 100
    · obtain ⟨l1, l2⟩ := hlt
      obtain ⟨bb, off, rfl, hc⟩ := cell_at HR.out i l1
      generalize (L i).2.1 = m at *
      have HC := Lib.hid hc
      have HD := Lib.hid (H.out.below (Below.refl wr.heap.size wr).drew)
      have cd0 := (Kit.cell_of HD.out.obj 2).trans rfl
      have cm1 := hc wr.drew HD.out.bel
      have LI := Lib.hid (HD.out.lay n1 (by omega) m)
      clear H hc
      go_wp2_with fail
      go_region_held3 (fun w' => w'.cell? ⟨wd, 2, none⟩ = some (.pointer (some ⟨s, 0, none⟩)) ∧ w'.cell? ⟨bb, off + i * 3 + 1, none⟩ = some (.int .i64 m))
        (first | exact ⟨by assumption, by assumption⟩ | go_keep)
        (first | (go_at_call 10; refine LI.out.mono ?_; rintro e w3 ⟨⟨p, c, rfl⟩, R⟩; have c3 := (Kit.cell_of R.obj 2).trans rfl; have cm3 := HC.out w3 R.bel; have HR3 := Lib.hid R; clear R LI))
      go_wp2_with fail
      go_roundg (100 - (i + 1))
      case measure => omega
      case rel => exact ⟨i + 1, ⟨by omega, by omega, rfl⟩, by simp, HR3⟩
    · have HD := Lib.hid (H.out.below (Below.refl wr.heap.size wr).drew)
      have cd0 := (Kit.cell_of HD.out.obj 2).trans rfl
      have cd1 := (Kit.cell_of HD.out.obj 0).trans rfl
      have cd2 := (Kit.cell_of HD.out.obj2 0).trans rfl
      have FI := Lib.hid (HD.out.free n1 (by omega))
      clear H
      rcases (show (i < len ∧ i = 100) ∨ i = len by omega) with ⟨l1, rfl⟩ | rfl
      all_goals
        clear hlt
        go_wp2_with fail
        go_region_held3 (fun w' => w'.cell? ⟨wd, 2, none⟩ = some (.pointer (some ⟨s, 0, none⟩)) ∧ w'.cell? ⟨wd, 0, none⟩ = some (.pointer (some ⟨g, 0, none⟩)) ∧ w'.cell? ⟨wd', 0, none⟩ = some (.pointer (some ⟨g', 0, none⟩)))
          (first | exact ⟨by assumption, by assumption, by assumption⟩ | go_keep)
          (first
            | (go_at_call 21; refine FI.out.mono ?_; rintro e w3 ⟨rfl, R⟩; have c30 := (Kit.cell_of R.obj.1 2).trans rfl; have c31 := (Kit.cell_of R.obj.1 0).trans rfl; have c32 := (Kit.cell_of R.obj.2 0).trans rfl; have HR3 := Lib.hid R; clear R FI)
            | (go_at_call 22; refine HR3.out.left1.mono ?_; rintro e w4 ⟨rfl, R⟩; have c40 := (Kit.cell_of R.obj.1 2).trans rfl; have c41 := (Kit.cell_of R.obj.1 0).trans rfl; have c42 := (Kit.cell_of R.obj.2 0).trans rfl; have HR4 := Lib.hid R; clear R HR3)
            | (go_at_call 22; refine HR4.out.left2.mono ?_; rintro e w5 ⟨rfl, R⟩; have c50 := (Kit.cell_of R.obj.1 2).trans rfl; have c51 := (Kit.cell_of R.obj.1 0).trans rfl; have c52 := (Kit.cell_of R.obj.2 0).trans rfl; have HR5 := Lib.hid R; clear R HR4)
            | (go_at_call 12; refine HR5.out.used.mono ?_; rintro e _ ⟨rfl, rfl⟩)
            | (go_at_call 11; refine HR5.out.blocks.mono ?_; rintro e _ ⟨rfl, rfl⟩))
        have HT := Lib.hid HR5.out.two
        clear HR5 HD c50 c51 c52
        go_wp2_with fail
        go_loopg [11] 100 (fun k c wr => ∃ q : Nat, (q ≤ len' ∧ q ≤ 100 ∧ k = 100 - q) ∧ c = .int .i64 q ∧ Hid (Sb W wr ⟨wd, g, a, b, ga, ar, s, sp1, x0, x1⟩ ⟨wd', g', a', b', ga', ar', s', sp1', x0', x1'⟩ N q))
        case atStart => exact ⟨0, by omega, rfl, HT⟩
        case round =>
          obtain ⟨q, ⟨hq, hq2, rfl⟩, rfl, H⟩ := hrel
          by_cases hlq : q < len' ∧ q < 100
          · obtain ⟨l3, l4⟩ := hlq
            obtain ⟨bb, off, rfl, hc⟩ := cell_at HR'.out q l3
            generalize (L' q).2.1 = m at *
            have HC := Lib.hid hc
            have HD := Lib.hid (H.out.below (Below.refl wr.heap.size wr).drew)
            have cd0 := (Kit.cell_of HD.out.obj 2).trans rfl
            have cm1 := hc wr.drew HD.out.bel
            have LI := Lib.hid (HD.out.lay1 (by omega) m)
            clear H hc
            go_wp2_with fail
            go_region_held3 (fun w' => w'.cell? ⟨wd, 2, none⟩ = some (.pointer (some ⟨s, 0, none⟩)) ∧ w'.cell? ⟨bb, off + q * 3 + 1, none⟩ = some (.int .i64 m))
              (first | exact ⟨by assumption, by assumption⟩ | go_keep)
              (first | (go_at_call 10; refine LI.out.mono ?_; rintro e w6 ⟨p, c, rfl, R⟩; have cm3 := HC.out w6 R.bel; have HR3 := Lib.hid R; obtain ⟨c3, c3'⟩ : w6.cell? ⟨wd, 2, none⟩ = some (.pointer (some ⟨s, 0, none⟩)) ∧ True := ⟨(Kit.cell_of R.objI 2).trans rfl, trivial⟩; clear R LI))
            have HD6 := Lib.hid (HR3.out.below (Below.refl w6.heap.size w6).drew)
            have cd6 := (Kit.cell_of HD6.out.obj 2).trans rfl
            have cm6 := HC.out w6.drew HD6.out.bel
            have LI6 := Lib.hid (HD6.out.lay2 (by omega))
            have pp : ((p : Int) != (p : Int)) = false := by simp
            have cc : ((c : Int) != (c : Int)) = false := by simp
            clear HR3 c3 cm3 HD cd0 cm1
            go_wp2_with fail
            go_region_held3 (fun w' => w'.cell? ⟨wd', 2, none⟩ = some (.pointer (some ⟨s', 0, none⟩)) ∧ w'.cell? ⟨bb, off + q * 3 + 1, none⟩ = some (.int .i64 m))
              (first | exact ⟨by assumption, by assumption⟩ | go_keep)
              (first | (go_at_call 10; refine LI6.out.mono ?_; rintro e w7 ⟨rfl, R⟩; have cm7 := HC.out w7 R.bel; have HR7 := Lib.hid R; have c7 := (Kit.cell_of R.objJ 2).trans rfl; clear R LI6))
            clear cd6 cm6 cm7 c7 HD6
            go_wp2_with fail
            go_roundg (100 - (q + 1))
            case measure => omega
            case rel => exact ⟨q + 1, ⟨by omega, by omega, rfl⟩, by simp, HR7⟩
          · have HB := Lib.hid H.out.bel
            clear H
            rcases (show (q < len' ∧ q = 100) ∨ q = len' by omega) with ⟨l5, rfl⟩ | rfl
            all_goals
              clear hlq
              go_wp2_with fail
              go_ret
              exact ⟨rfl, HB.out⟩
end Go.Proofs.Ytladhenjoipfpaa.LawFrees
