/- The law ShapePointers answers true for every header and every number. No condition. -/
import Derived.Test.YtnpjnpdfhlpanaaPl
import Derived.Deep.RegionHeld3
set_option linter.unusedVariables false
set_option linter.unusedSimpArgs false
namespace Go.Proofs.Ytnpjnpdfhlpanaa.BShapePointers
open Go.RowKit Go.WideShapes
open NPShapeOver (right size In)
open Pt (vals cnt)
theorem vals_get (c j : Nat) (h : j < c) : (vals c)[j]? = some (.int .i64 ((j : Int) + 1)) := by simp [vals, h]
/-- A slice of the first numbers. -/
structure Has (w : World) (a : Option Addr) (c : Nat) : Prop where
  cell : ∀ j, j < c → ∃ g, a = some ⟨g, 0, none⟩ ∧ w.cell? ⟨g, j, none⟩ = some (.int .i64 ((j : Int) + 1))
  lt : ∀ g, a = some ⟨g, 0, none⟩ → g < w.heap.size
theorem has (w : World) (b : Nat) (v : Value) (c : Nat) (h : w.ownsRow b 3 1 v c (vals c)) : ∃ a cp, v = .slice a c cp ∧ Has w a c := by
  have hl := h.lt
  have hc := fun g hg => h.cells (g := g) hg
  rcases h.2 with ⟨rfl, rfl⟩ | ⟨g, cap, cur, rfl, hb, _⟩
  · exact ⟨_, _, rfl, fun j hj => by omega, fun g h => by cases h⟩
  · refine ⟨_, _, rfl, fun j hj => ⟨g, rfl, ?_⟩, fun g' h => ?_⟩
    · have := hc g rfl j _ (vals_get c j hj)
      rw [Addr.add_lit, Nat.zero_add] at this
      exact this
    · cases h; exact (hl g rfl).2
theorem Has.keep {w w' : World} {a : Option Addr} {c : Nat} (h : Has w a c) (b : Below w.heap.size w w') : Has w' a c := by
  refine ⟨fun j hj => ?_, fun g hg => Nat.lt_of_lt_of_le (h.lt g hg) b.size⟩
  obtain ⟨g, hg, hc⟩ := h.cell j hj
  exact ⟨g, hg, (b.cell (p := ⟨g, j, none⟩) (h.lt g hg)).trans hc⟩
theorem law (W : World) (k i p n m : Int) (hp : In p) :
    Calls Try.prog 7 #[.agg #[.int .i64 k, .int .i64 i, .int .i64 p, .int .i64 n], .int .i64 m] W fun e W' => e = .returned (.bool true) ∧ Below W.heap.size W W' := by
  have R10 : ∀ w1 : World, Calls Try.prog 10 #[.agg #[.int .i64 k, .int .i64 i, .int .i64 p, .int .i64 n]] w1 fun e w' => e = .returned (.int .i64 (right k i p n)) ∧ Below w1.heap.size w1 w' :=
    fun w1 => PShapeOver.middenref04_Right.calls 12 k i p n _ w1 (NPShapeOver.refRight_it k i p n)
  have R11 : ∀ w1 : World, Calls Try.prog 11 #[.agg #[.int .i64 k, .int .i64 i, .int .i64 p, .int .i64 n]] w1 fun e w' => e = .returned (.int .i64 (size k i p n)) ∧ Below w1.heap.size w1 w' :=
    fun w1 => PShapeOver.shape_Size.calls 12 k i p n _ w1 (NPShapeOver.size_it k i p n hp)
  have R8 := fun w1 => PShapeOver.middenlaw04_awake.calls 20 true w1 NPShapeOver.awake_true
  have R20 := fun w1 => Pl.range_it w1 k i p n
  have R19 := fun w1 Bh q => Pl.places_it w1 Bh q k i p n hp
  have hz : right k i p n = 0 → 0 ≤ p ∧ p ≤ 4095 ∧ p + 1 ≤ size k i p n := fun h => by
    have := NPShapeOver.parts_bound k p n (NPShapeOver.right_zero k i p n h).1
    unfold size; rw [if_pos h]; omega
  generalize right k i p n = r at R10 R19 hz
  generalize size k i p n = sz at R11 hz
  have HZ := Lib.hid hz
  have H8 := Lib.hid R8
  have H10 := Lib.hid R10
  have H11 := Lib.hid R11
  have H19 := Lib.hid R19
  have H20 := Lib.hid R20
  clear hz R8 R10 R11 R19 R20
  obtain ⟨N, hN⟩ : ∃ N : Nat, N = if r = 0 then p.toNat else 0 := ⟨_, rfl⟩
  have hall : cnt r p (-1) = N := by unfold cnt; rw [hN, if_neg (show ¬ (1 ≤ (-1 : Int) ∧ (-1 : Int) ≤ p) by omega)]
  have hN2 : N ≤ 4095 := by
    rw [hN]; split
    · have := HZ.out (by assumption); omega
    · omega
  have hNs : N ≠ 0 → (N : Int) + 1 ≤ sz := fun h => by
    by_cases e : r = 0
    · have := HZ.out e; rw [if_pos e] at hN; omega
    · rw [if_neg e] at hN; exact absurd hN h
  have hNp : r = 0 → p = (N : Int) := fun e => by have := HZ.out e; rw [if_pos e] at hN; omega
  have hNr : r ≠ 0 → N = 0 := fun e => by rw [if_neg e] at hN; exact hN
  have hsome : (cnt r p m : Int) = if 1 ≤ m ∧ m ≤ (N : Int) then m else (N : Int) := by
    unfold cnt
    by_cases e : r = 0
    · have := hNp e
      rw [if_pos e]
      by_cases f : 1 ≤ m ∧ m ≤ p
      · rw [if_pos f, if_pos (by omega)]; omega
      · rw [if_neg f, if_neg (by omega)]; omega
    · have := hNr e
      rw [if_neg e, if_neg (by omega), this]
  have HN := Lib.hid hNs
  have HS := Lib.hid hsome
  have HA := Lib.hid hall
  clear hN hNs hsome hall
  have B0 := Lib.hid (Kit.new_blk W (.cells #[.int .i64 k, .int .i64 i, .int .i64 p, .int .i64 n] 23 (0, 0)))
  have K0 := Lib.hid (Kit.allocB (Below.refl W.heap.size W) (.cells #[.int .i64 k, .int .i64 i, .int .i64 p, .int .i64 n] 23 (0, 0)))
  go_enter Try.func7, Try.ntmps7
  go_wp2_with fail
  refine (H10.out _).mono ?_; rintro e w1 ⟨rfl, hb⟩
  have B1 := Lib.hid (Kit.keepB B0.out hb)
  have K1 := Lib.hid (Kit.stepB K0.out hb)
  clear hb B0 K0
  have c1 := Kit.cells4 B1.out
  obtain ⟨c1, c2, c3, c4⟩ := c1
  by_cases r0 : r = 0
  · have hpn := hNp r0
    subst r0
    clear hNp hNr
    subst hpn
    go_wp2_with fail
    refine (H20.out _).mono ?_; rintro e w2 ⟨rfl, rfl⟩
    go_wp2_with fail
    refine (H19.out _ w1.heap.size (-1) (Kit.new_blk w1 _)).mono ?_; rintro e w3 ⟨v, rfl, ho, hb⟩
    rw [HA.out] at ho
    obtain ⟨a, cp, rfl, ha⟩ := has _ _ _ _ ho
    have B3 := Lib.hid (Kit.keepB (Kit.keep_alloc B1.out _) hb)
    have K3 := Lib.hid (Kit.stepB (Kit.allocB K1.out _) hb)
    have A3 := Lib.hid ha
    clear ho hb ha B1 K1 c1 c2 c3 c4
    obtain ⟨c1, c2, c3, c4⟩ := Kit.cells4 B3.out
    go_wp2_with fail
    refine (H20.out _).mono ?_; rintro e w4 ⟨rfl, rfl⟩
    go_wp2_with fail
    refine (H19.out _ w3.heap.size m (Kit.new_blk w3 _)).mono ?_; rintro e w5 ⟨v2, rfl, ho2, hb2⟩
    have hcs := HS.out
    generalize cnt _ _ m = cs at ho2 hcs
    obtain ⟨a2, cp2, rfl, -⟩ := has _ _ _ _ ho2
    have B5 := Lib.hid (Kit.keepB (Kit.keep_alloc B3.out _) hb2)
    have K5 := Lib.hid (Kit.stepB (Kit.allocB K3.out _) hb2)
    have A5 := Lib.hid ((A3.out.keep (Kit.allocB (Below.refl _ w3) _)).keep hb2)
    have HC := Lib.hid hcs
    clear ho2 hb2 hcs HS B3 K3 A3 c1 c2 c3 c4
    go_wp2_with fail
    refine (H8.out _).mono ?_; rintro e w6 ⟨rfl, hb⟩
    have B6 := Lib.hid (Kit.keepB B5.out hb)
    have K6 := Lib.hid (Kit.stepB K5.out hb)
    have A6 := Lib.hid (A5.out.keep hb)
    clear hb B5 K5 A5
    have ee : ((N : Int) != (N : Int)) = false := by simp []
    go_wp2_with fail
    go_loopw [8] (fun c wr => ∃ j : Nat, j ≤ N ∧ c = .int .i64 j ∧ Hid (Below w6.heap.size w6 wr)) (fun c _ => N - (intOf c).toNat)
    case atStart => exact ⟨0, Nat.zero_le _, rfl, Below.refl _ _⟩
    case round =>
      obtain ⟨j, hj, rfl, H⟩ := hrel
      by_cases hlt : j < N
      · obtain ⟨g, rfl, hg⟩ := A6.out.cell j hlt
        have hgl := A6.out.lt g rfl
        have hg2 : wr.cell? ⟨g, j, none⟩ = some (.int .i64 ((j : Int) + 1)) := (H.out.cell (p := ⟨g, j, none⟩) hgl).trans hg
        have BR := Lib.hid (Kit.keepB B6.out H.out)
        obtain ⟨c1, c2, c3, c4⟩ := Kit.cells4 BR.out
        have hge := Lib.hid (show g < wr.heap.size from Nat.lt_of_lt_of_le hgl H.out.size)
        have e2 : (((j : Int) + 1) != ((j : Int) + 1)) = false := by simp
        have e3 : decide (sz ≤ (j : Int) + 1) = false := by have := HN.out (by omega); exact decide_eq_false (by omega)
        have e5 : IntKind.i64.wrap ((j : Int) + 1) = (j : Int) + 1 := IntWalk.i64_in _ (by omega)
        have e6 : wrap64 ((j : Int) + 1) = (j : Int) + 1 := by unfold wrap64; omega
        clear hg hgl
        go_wp2_with fail
        go_region_held3 (fun w' => w'.cell? ⟨g, j, none⟩ = some (.int .i64 ((j : Int) + 1)) ∧ w'.cell? ⟨W.heap.size, 0, none⟩ = some (.int .i64 k) ∧ w'.cell? ⟨W.heap.size, 1, none⟩ = some (.int .i64 i) ∧ w'.cell? ⟨W.heap.size, 2, none⟩ = some (.int .i64 (N : Int)) ∧ w'.cell? ⟨W.heap.size, 3, none⟩ = some (.int .i64 n))
          (first | go_keep | (refine ⟨?_, ?_, ?_, ?_, ?_⟩ <;> assumption))
          (first
            | (go_at_call 11; refine (H11.out _).mono ?_; rintro e w7 ⟨rfl, hb⟩; have hbb : Below wr.heap.size wr w7 := (Below.refl wr.heap.size wr).drew.trans hb; have H7 := Lib.hid (H.out.trans (hbb.mono H.out.size)); have g7 := (hbb.cell (p := ⟨g, j, none⟩) hge.out).trans hg2; obtain ⟨k1, k2, k3, k4⟩ := Kit.cells4 (Kit.keepB BR.out hbb); clear hb hbb))
        go_wp2_with fail
        go_roundw
        case rel => exact ⟨j + 1, by omega, by simp, H7⟩
        case measure => simp [intOf]; omega
      · obtain rfl : j = N := by omega
        have KE := Lib.hid (Kit.stepB K6.out H.out)
        have hcs := HC.out
        by_cases m1 : m < 1
        · rw [if_neg (show ¬ (1 ≤ m ∧ m ≤ (j : Int)) by omega)] at hcs
          obtain rfl : cs = j := by omega
          have ej : ((cs : Int) == (cs : Int)) = true := by simp []
          go_wp2_with fail
          go_ret
          exact ⟨rfl, KE.out⟩
        · by_cases m2 : (j : Int) < m
          · rw [if_neg (show ¬ (1 ≤ m ∧ m ≤ (j : Int)) by omega)] at hcs
            obtain rfl : cs = j := by omega
            have ej : ((cs : Int) == (cs : Int)) = true := by simp []
            go_wp2_with fail
            go_ret
            exact ⟨rfl, KE.out⟩
          · rw [if_pos (show (1 ≤ m ∧ m ≤ (j : Int)) by omega)] at hcs
            have ej : ((cs : Int) == m) = true := by simp [hcs]
            go_wp2_with fail
            go_ret
            exact ⟨rfl, KE.out⟩
  · have e1 : (r == 0) = false := by simp [r0]
    have N0 := hNr r0
    clear hNp hNr
    go_wp2_with fail
    refine (H20.out _).mono ?_; rintro e w2 ⟨rfl, rfl⟩
    go_wp2_with fail
    refine (H19.out _ w1.heap.size (-1) (Kit.new_blk w1 _)).mono ?_; rintro e w3 ⟨v, rfl, ho, hb⟩
    rw [HA.out] at ho
    obtain ⟨a, cp, rfl, ha⟩ := has _ _ _ _ ho
    have B3 := Lib.hid (Kit.keepB (Kit.keep_alloc B1.out _) hb)
    have K3 := Lib.hid (Kit.stepB (Kit.allocB K1.out _) hb)
    have A3 := Lib.hid ha
    clear ho hb ha B1 K1 c1 c2 c3 c4
    obtain ⟨c1, c2, c3, c4⟩ := Kit.cells4 B3.out
    go_wp2_with fail
    refine (H20.out _).mono ?_; rintro e w4 ⟨rfl, rfl⟩
    go_wp2_with fail
    refine (H19.out _ w3.heap.size m (Kit.new_blk w3 _)).mono ?_; rintro e w5 ⟨v2, rfl, ho2, hb2⟩
    have hcs := HS.out
    generalize cnt _ _ m = cs at ho2 hcs
    obtain ⟨a2, cp2, rfl, -⟩ := has _ _ _ _ ho2
    have B5 := Lib.hid (Kit.keepB (Kit.keep_alloc B3.out _) hb2)
    have K5 := Lib.hid (Kit.stepB (Kit.allocB K3.out _) hb2)
    have A5 := Lib.hid ((A3.out.keep (Kit.allocB (Below.refl _ w3) _)).keep hb2)
    have HC := Lib.hid hcs
    clear ho2 hb2 hcs HS B3 K3 A3 c1 c2 c3 c4
    go_wp2_with fail
    refine (H8.out _).mono ?_; rintro e w6 ⟨rfl, hb⟩
    have B6 := Lib.hid (Kit.keepB B5.out hb)
    have K6 := Lib.hid (Kit.stepB K5.out hb)
    have A6 := Lib.hid (A5.out.keep hb)
    clear hb B5 K5 A5
    have ee : ((N : Int) != (0 : Int)) = false := by simp [N0]
    go_wp2_with fail
    go_loopw [8] (fun c wr => ∃ j : Nat, j ≤ N ∧ c = .int .i64 j ∧ Hid (Below w6.heap.size w6 wr)) (fun c _ => N - (intOf c).toNat)
    case atStart => exact ⟨0, Nat.zero_le _, rfl, Below.refl _ _⟩
    case round =>
      obtain ⟨j, hj, rfl, H⟩ := hrel
      by_cases hlt : j < N
      · omega
      · obtain rfl : j = N := by omega
        have KE := Lib.hid (Kit.stepB K6.out H.out)
        have hcs := HC.out
        by_cases m1 : m < 1
        · rw [if_neg (show ¬ (1 ≤ m ∧ m ≤ (j : Int)) by omega)] at hcs
          obtain rfl : cs = j := by omega
          have ej : ((cs : Int) == (0 : Int)) = true := by simp [N0]
          go_wp2_with fail
          go_ret
          exact ⟨rfl, KE.out⟩
        · by_cases m2 : (0 : Int) < m
          · rw [if_neg (show ¬ (1 ≤ m ∧ m ≤ (j : Int)) by omega)] at hcs
            obtain rfl : cs = j := by omega
            have ej : ((cs : Int) == (0 : Int)) = true := by simp [N0]
            go_wp2_with fail
            go_ret
            exact ⟨rfl, KE.out⟩
          · rw [if_pos (show (1 ≤ m ∧ m ≤ (j : Int)) by omega)] at hcs
            have ej : ((cs : Int) == m) = true := by simp [hcs]
            go_wp2_with fail
            go_ret
            exact ⟨rfl, KE.out⟩
end Go.Proofs.Ytnpjnpdfhlpanaa.BShapePointers
