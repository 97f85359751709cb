/- The order of putting plays no part: the law RememberOrders. No condition. -/
import Derived.Test.YtobplcehaeejoaaLq
import Derived.Test.YtobplcehaeejoaaAg
set_option linter.unusedVariables false
set_option linter.unusedSimpArgs false
namespace Go.Proofs.Ytobplcehaeejoaa.LawOrders
open Go.RowKit Se Mq Sm Ls Nx Lw Ln Lm Lq
def ok (x : Int) : Prop := 1 ≤ x ∧ x ≤ 524288
/-- Both lists: what is in each, as a property of numbers. -/
structure Two (W w : World) (s r : Nat) (b : Nat → Nat) (s' r' : Nat) (b' : Nat → Nat) (n : Nat) (p q : Int → Prop) : Prop where
  one : ∃ M, St W w s r 1 b n M ∧ ∀ x, x ∈ M 0 ↔ p x
  two : ∃ M, St W w s' r' 1 b' n M ∧ ∀ x, x ∈ M 0 ↔ q x
  dis : ∀ k, Own s r 1 b k → ¬ Own s' r' 1 b' k
section
variable {W w w' : World} {s r : Nat} {b : Nat → Nat} {s' r' : Nat} {b' : Nat → Nat} {n : Nat} {p q : Int → Prop}
theorem Two.bel (h : Two W w s r b s' r' b' n p q) : Below W.heap.size W w := by
  obtain ⟨M, S, _⟩ := h.one
  exact S.bel
theorem Two.below (h : Two W w s r b s' r' b' n p q) (m : Below w.heap.size w w') : Two W w' s r b s' r' b' n p q := by
  obtain ⟨M, S, e⟩ := h.one
  obtain ⟨M', S', e'⟩ := h.two
  exact ⟨⟨M, S.below m, e⟩, ⟨M', S'.below m, e'⟩, h.dis⟩
theorem Two.mono (h : Two W w s r b s' r' b' n p q) {n' : Nat} (hn : n ≤ n') : Two W w s r b s' r' b' n' p q := by
  obtain ⟨M, S, e⟩ := h.one
  obtain ⟨M', S', e'⟩ := h.two
  exact ⟨⟨M, S.mono hn, e⟩, ⟨M', S'.mono hn, e'⟩, h.dis⟩
theorem Two.iff (h : Two W w s r b s' r' b' n p q) {p' q' : Int → Prop} (hp : ∀ x, p x ↔ p' x) (hq : ∀ x, q x ↔ q' x) : Two W w s r b s' r' b' n p' q' := by
  obtain ⟨M, S, e⟩ := h.one
  obtain ⟨M', S', e'⟩ := h.two
  exact ⟨⟨M, S, fun x => (e x).trans (hp x)⟩, ⟨M', S', fun x => (e' x).trans (hq x)⟩, h.dis⟩
theorem Two.swap (h : Two W w s r b s' r' b' n p q) : Two W w s' r' b' s r b n q p := ⟨h.two, h.one, fun k a c => h.dis k c a⟩
theorem Two.put (h : Two W w s r b s' r' b' n p q) (hn : n ≤ 10000) (k : Int) : Calls Try.prog 10 #[.pointer (some ⟨s, 0, none⟩), .int .i64 0, .int .i64 k] w fun e w' => (∃ c : Nat, e = .returned (.int .i64 c)) ∧ Two W w' s r b s' r' b' (n + 1) (fun x => p x ∨ (x = k ∧ ok x)) q := by
  obtain ⟨M, S, e⟩ := h.one
  obtain ⟨M', S', e'⟩ := h.two
  refine (S.put (by omega) 0 k).mono ?_
  rintro e1 w' ⟨rfl, T, m⟩
  refine ⟨⟨_, rfl⟩, ⟨_, T, fun x => ?_⟩, ⟨M', (S'.keepP m (fun j hj c => h.dis j c hj) (fun j hj => S.low j hj)).mono (by omega), e'⟩, h.dis⟩
  unfold putF
  by_cases hk : ok k
  · have hc : wc 1 0 k = 0 := by unfold wc ok at *; rw [if_neg (by omega), if_neg (by omega)]
    rw [if_pos hc]
    simp only [upd, Int.toNat_zero, if_true]
    rw [mem_ins, e x]
    constructor
    · rintro (rfl | h)
      · exact .inr ⟨rfl, hk⟩
      · exact .inl h
    · rintro (h | ⟨rfl, _⟩)
      · exact .inr h
      · exact .inl rfl
  · have hc : wc 1 0 k ≠ 0 := by unfold wc ok at *; rw [if_neg (by omega), if_pos (by omega)]; omega
    rw [if_neg hc, e x]
    constructor
    · exact .inl
    · rintro (h | ⟨rfl, h⟩)
      · exact h
      · exact absurd h hk
end
/-- Among the first so many. -/
def fst (zs : List Int) (i : Nat) (x : Int) : Prop := x ∈ zs.take i ∧ ok x
/-- Among those between. -/
def mid (zs : List Int) (i c : Nat) (x : Int) : Prop := x ∈ (zs.take c).drop i ∧ ok x
theorem fst_step (zs : List Int) (i : Nat) (h : i < zs.length) (x : Int) : (fst zs i x ∨ (x = zs.getD i 0 ∧ ok x)) ↔ fst zs (i + 1) x := by
  unfold fst
  have e : x ∈ zs.take (i + 1) ↔ (x ∈ zs.take i ∨ x = zs.getD i 0) := by
    rw [List.take_add_one, List.mem_append, List.getD_eq_getElem?_getD, List.getElem?_eq_getElem h]
    simp only [Option.toList_some, List.mem_singleton, Option.getD_some]
  rw [e]
  constructor
  · rintro (⟨a, c⟩ | ⟨a, c⟩)
    · exact ⟨.inl a, c⟩
    · exact ⟨.inr a, c⟩
  · rintro ⟨a | a, c⟩
    · exact .inl ⟨a, c⟩
    · exact .inr ⟨a, c⟩
theorem mid_step (zs : List Int) (i c : Nat) (h : i < zs.length) (hc : i < c) (x : Int) : (mid zs (i + 1) c x ∨ (x = zs.getD i 0 ∧ ok x)) ↔ mid zs i c x := by
  unfold mid
  have e : (zs.take c).drop i = zs[i] :: (zs.take c).drop (i + 1) := by
    rw [List.drop_eq_getElem_cons (by simp; omega)]
    simp
  rw [e, List.mem_cons, List.getD_eq_getElem?_getD, List.getElem?_eq_getElem h, Option.getD_some]
  constructor
  · rintro (⟨a, c⟩ | ⟨a, c⟩)
    · exact ⟨.inr a, c⟩
    · exact ⟨.inl a, c⟩
  · rintro ⟨a | a, c⟩
    · exact .inr ⟨a, c⟩
    · exact .inl ⟨a, c⟩
theorem mid_skip (zs : List Int) (i c : Nat) (hc : c ≤ i) (x : Int) : mid zs i c x ↔ False := by
  unfold mid
  rw [List.drop_eq_nil_of_le (by simp; omega)]
  simp
theorem mid_all (zs : List Int) (c : Nat) (x : Int) : mid zs 0 c x ↔ fst zs c x := by simp [mid, fst]
theorem again (zs : List Int) (c i : Nat) (h : i < zs.length) (hc : i < c) (x : Int) : (fst zs c x ∨ (x = zs.getD i 0 ∧ ok x)) ↔ fst zs c x := by
  unfold fst
  constructor
  · rintro (h | ⟨rfl, k⟩)
    · exact h
    · refine ⟨?_, k⟩
      rw [List.getD_eq_getElem?_getD, List.mem_take_iff_getElem]
      exact ⟨i, by omega, by simp [h]⟩
  · exact .inl
theorem fst_cap (zs : List Int) (c : Nat) (h : zs.length ≤ c) (x : Int) : fst zs zs.length x ↔ fst zs c x := by
  unfold fst
  rw [List.take_of_length_le (Nat.le_refl _), List.take_of_length_le h]
theorem mid_end (zs : List Int) (c : Nat) (x : Int) : mid zs zs.length c x ↔ False := by
  unfold mid
  rw [List.drop_eq_nil_of_le (by simp; omega)]
  simp
set_option maxHeartbeats 8000000 in
set_option maxRecDepth 100000 in
theorem law (W : World) (A : Option Addr) (len cap : Nat) (zs : List Int) (R : Ag.Nums W A len .i64 zs) (A' : Option Addr) (len' cap' : Nat) (os : List Int) (R' : Ag.Nums W A' len' .u8 os) :
    Calls Try.prog 3 #[.slice A len cap, .slice A' len' cap'] W fun e w => e = .returned (.bool true) ∧ Below W.heap.size W w := by
  have NI := Lib.hid (fun (w : World) (hb : Below W.heap.size W w) => St.new (W := W) (g := 1) (by omega) (by omega) hb)
  have AW := Lib.hid awake_it
  have HR := Lib.hid R
  have HR' := Lib.hid R'
  have hmax := R.max
  have hmax' := R'.max
  have HZ := Lib.hid R.size
  clear R R'
  go_enter Try.func3, Try.ntmps3
  go_wp2_with fail
  refine (NI.out _ (Below.refl _ _)).mono ?_
  rintro e w1 ⟨s, r, b, rfl, S1, _, _⟩
  have HS1 := Lib.hid S1
  clear S1
  go_wp2_with fail
  refine (NI.out _ HS1.out.bel).mono ?_
  rintro e w2 ⟨s', r', b', rfl, S2, b12, lo2⟩
  have HT := Lib.hid (show Two W w2 s r b s' r' b' 0 (fst zs 0) (fun _ => False) from ⟨⟨_, HS1.out.below b12, fun x => by simp [fst]⟩, ⟨_, S2, fun x => by simp⟩, fun k hk hk' => by
    have := HS1.out.lv.lt k hk
    have := lo2 k hk'
    omega⟩)
  clear S2 b12 lo2 HS1 NI
  go_wp2_with fail
  refine (AW.out _).mono ?_
  rintro e w3 ⟨rfl, b3⟩
  have HA := Lib.hid (HT.out.below b3)
  clear b3 AW HT
  go_wp2_with fail
  go_loopg [9] 200 (fun k c wr => ∃ i : Nat, (i ≤ len ∧ i ≤ 200 ∧ k = 200 - i) ∧ c = .int .i64 i ∧ Hid (Two W wr s r b s' r' b' i (fst zs i) (fun _ => False)))
  case atStart => exact ⟨0, by omega, rfl, HA⟩
  case round =>
    obtain ⟨i, ⟨hi, hi2, rfl⟩, rfl, H⟩ := hrel
    clear HA
    by_cases hlt : i < len ∧ i < 200
    · obtain ⟨l1, l2⟩ := hlt
      obtain ⟨bb, off, rfl, hbb, hc⟩ := HR.out.cells (by omega)
      have c1 : wr.cell? ⟨bb, off + i, none⟩ = some (.int .i64 (zs.getD i 0)) := (H.out.bel.cell (p := ⟨bb, off + i, none⟩) hbb).trans (hc i l1)
      have FS := Lib.hid (fst_step zs i (by rw [HZ.out]; exact l1))
      generalize zs.getD i 0 = x at *
      have PI := Lib.hid (H.out.put (by omega) x)
      clear H hc
      go_wp2_with fail
      refine PI.out.mono ?_
      rintro e w4 ⟨⟨c, rfl⟩, T⟩
      have H4 := Lib.hid (T.iff (fun x => FS.out x) (fun x => Iff.rfl))
      clear T PI c1 FS
      go_wp2_with fail
      go_roundg (200 - (i + 1))
      case measure => omega
      case rel => exact ⟨i + 1, ⟨by omega, by omega, rfl⟩, by simp, H4⟩
    · have HB := Lib.hid (show Two W wr s r b s' r' b' 200 (fst zs 200) (mid zs len 200) from (H.out.mono hi2).iff (fun x => by
        rcases (show i = 200 ∨ i = len by omega) with rfl | rfl
        · exact Iff.rfl
        · have := fst_cap zs 200 (by rw [HZ.out]; exact hi2) x
          rw [HZ.out] at this
          exact this) (fun x => by
        have := mid_end zs 200 x
        rw [HZ.out] at this
        exact this.symm))
      have s1 : IntKind.i64.wrap ((len : Int) - 1) = (len : Int) - 1 := IntWalk.i64_in _ (by omega)
      clear H
      rcases (show (i < len ∧ i = 200) ∨ len = i by omega) with ⟨l1, rfl⟩ | rfl
      all_goals
        clear hlt
        go_wp2_with fail
        clear s1 hi2
        have HC := Lib.hid (HB.out.mono (show 200 ≤ 400 - min len 200 by omega))
        clear HB
        go_loopg [10] len (fun k c wr => ∃ (j : Nat) (z : Int), (j ≤ len ∧ j = k ∧ z = (j : Int) - 1) ∧ c = .int .i64 z ∧ Hid (Two W wr s r b s' r' b' (400 - min j 200) (fst zs 200) (mid zs j 200)))
        case atStart => exact ⟨len, _, ⟨Nat.le_refl _, rfl, rfl⟩, rfl, HC⟩
        case round =>
          obtain ⟨j, z, ⟨hj, rfl, hz⟩, rfl, H⟩ := hrel
          clear HC
          by_cases hj0 : 0 < j
          · obtain ⟨i, rfl⟩ : ∃ i, j = i + 1 := ⟨j - 1, by omega⟩
            obtain rfl : z = (i : Int) := by omega
            have s1 : IntKind.i64.wrap ((i : Int) - 1) = (i : Int) - 1 := IntWalk.i64_in _ (by omega)
            have d0 : decide (0 ≤ (i : Int)) = true := decide_eq_true (by omega)
            clear hz
            by_cases hi2 : i < 200
            · obtain ⟨bb, off, rfl, hbb, hc⟩ := HR.out.cells (by omega)
              have c1 : wr.cell? ⟨bb, off + i, none⟩ = some (.int .i64 (zs.getD i 0)) := (H.out.bel.cell (p := ⟨bb, off + i, none⟩) hbb).trans (hc i (by omega))
              have FS := Lib.hid (mid_step zs i 200 (by rw [HZ.out]; omega) hi2)
              generalize zs.getD i 0 = x at *
              have PI := Lib.hid (H.out.swap.put (by omega) x)
              clear H hc
              go_wp2_with fail
              refine PI.out.mono ?_
              rintro e w4 ⟨⟨c, rfl⟩, T⟩
              have H4 := Lib.hid (show Two W w4 s r b s' r' b' (400 - min i 200) (fst zs 200) (mid zs i 200) from ((T.mono (show 400 - min (i + 1) 200 + 1 ≤ 400 - min i 200 by omega)).iff (fun x => FS.out x) (fun x => Iff.rfl)).swap)
              clear T PI c1 FS
              go_wp2_with fail
              go_roundg i
              case measure => omega
              case rel => exact ⟨i, _, ⟨by omega, rfl, rfl⟩, rfl, H4⟩
            · have H4 := Lib.hid (show Two W wr s r b s' r' b' (400 - min i 200) (fst zs 200) (mid zs i 200) from (H.out.mono (by omega)).iff (fun x => Iff.rfl) (fun x => by rw [mid_skip zs (i + 1) 200 (by omega) x, mid_skip zs i 200 (by omega) x]))
              clear H
              go_wp2_with fail
              go_roundg i
              case measure => omega
              case rel => exact ⟨i, _, ⟨by omega, rfl, rfl⟩, rfl, H4⟩
          · obtain rfl : j = 0 := by omega
            obtain rfl : z = -1 := by omega
            have HD := Lib.hid (show Two W wr s r b s' r' b' 400 (fst zs 200) (fst zs 200) from (H.out.mono (by omega)).iff (fun x => Iff.rfl) (fun x => mid_all zs 200 x))
            clear H hz
            go_wp2_with fail
            go_loopg [11] 200 (fun k c wr => ∃ i : Nat, (i ≤ len' ∧ i ≤ 200 ∧ k = 200 - i) ∧ c = .int .i64 i ∧ Hid (Two W wr s r b s' r' b' (400 + i) (fst zs 200) (fst zs 200)))
            case atStart => exact ⟨0, by omega, rfl, HD⟩
            case round =>
              obtain ⟨i, ⟨hi, hi2, rfl⟩, rfl, H⟩ := hrel
              clear HD
              by_cases hlt : i < len' ∧ i < 200
              · obtain ⟨l1, l2⟩ := hlt
                obtain ⟨bb, off, rfl, hbb, hc⟩ := HR'.out.cells (by omega)
                have c1 : wr.cell? ⟨bb, off + i, none⟩ = some (.int .u8 (os.getD i 0)) := (H.out.bel.cell (p := ⟨bb, off + i, none⟩) hbb).trans (hc i l1)
                have hw := HR'.out.wf (os.getD i 0) (by
                  have := HR'.out.size
                  rw [List.getD_eq_getElem?_getD]
                  simp [show i < os.length by omega])
                obtain ⟨k, hk⟩ : ∃ k : Nat, os.getD i 0 = k := by
                  have := bounds_u8 hw
                  exact ⟨(os.getD i 0).toNat, by omega⟩
                have hk2 : (k : Int) ≤ 255 := by have := bounds_u8 hw; omega
                rw [hk] at c1
                clear hc hw hk
                have s2 : IntKind.i64.wrap (k : Int) = (k : Int) := IntWalk.i64_in _ (by omega)
                by_cases hkl : k < len ∧ k < 200
                · obtain ⟨l3, l4⟩ := hkl
                  obtain ⟨bb2, off2, rfl, hbb2, hc⟩ := HR.out.cells (by omega)
                  have c2 : wr.cell? ⟨bb2, off2 + k, none⟩ = some (.int .i64 (zs.getD k 0)) := (H.out.bel.cell (p := ⟨bb2, off2 + k, none⟩) hbb2).trans (hc k l3)
                  have FS := Lib.hid (again zs 200 k (by rw [HZ.out]; exact l3) l4)
                  generalize zs.getD k 0 = x at *
                  have PI := Lib.hid (H.out.swap.put (by omega) x)
                  clear H hc
                  go_wp2_with fail
                  refine PI.out.mono ?_
                  rintro e w4 ⟨⟨c, rfl⟩, T⟩
                  have H4 := Lib.hid (show Two W w4 s r b s' r' b' (400 + (i + 1)) (fst zs 200) (fst zs 200) from ((T.mono (show 400 + i + 1 ≤ 400 + (i + 1) by omega)).iff (fun x => FS.out x) (fun x => Iff.rfl)).swap)
                  clear T PI c1 c2 FS
                  go_wp2_with fail
                  go_roundg (200 - (i + 1))
                  case measure => omega
                  case rel => exact ⟨i + 1, ⟨by omega, by omega, rfl⟩, by simp, H4⟩
                · have H4 := Lib.hid (H.out.mono (show 400 + i ≤ 400 + (i + 1) by omega))
                  clear H
                  by_cases l3 : k < len
                  · have l4 : 200 ≤ k := by omega
                    clear hkl
                    go_wp2_with fail
                    go_roundg (200 - (i + 1))
                    case measure => omega
                    case rel => exact ⟨i + 1, ⟨by omega, by omega, rfl⟩, by simp, H4⟩
                  · clear hkl
                    go_wp2_with fail
                    go_roundg (200 - (i + 1))
                    case measure => omega
                    case rel => exact ⟨i + 1, ⟨by omega, by omega, rfl⟩, by simp, H4⟩
              · obtain ⟨M1, S1, E1⟩ := H.out.one
                obtain ⟨M2, S2, E2⟩ := H.out.two
                have em : M1 0 = M2 0 := up_ext (S1.lv.set 0 (by omega)).up (S2.lv.set 0 (by omega)).up (fun x => (E1 x).trans (E2 x).symm)
                have e0 : allF 1 M1 0 = M1 0 := by simp [allF]
                have AI := S1.all (by omega) 0
                rw [e0] at AI
                have AI := Lib.hid AI
                have hu := Lib.hid (S1.lv.set 0 (by omega)).up
                have hml := (S1.lv.set 0 (by omega)).size_le
                have A2 := Lib.hid (fun (w' : World) (m : Below wr.heap.size wr w') => (S2.below m).all (by omega) 0)
                have LI := Lib.hid (fun (w' : World) (m : Below wr.heap.size wr w') => (len_it (S1.below m).lv (by omega)))
                have HW := Lib.hid S1.bel
                have et : tot M1 1 = (M1 0).length := by simp [tot]
                rw [et] at LI
                have e2 : allF 1 M2 0 = M1 0 := by rw [em]; simp [allF]
                rw [e2] at A2
                clear S1 S2 E1 E2 H em e0 et e2
                generalize M1 0 = m at *
                rcases (show (i < len' ∧ i = 200) ∨ len' = i by omega) with ⟨l1, rfl⟩ | rfl
                all_goals
                  clear hlt
                  go_wp2_with fail
                  refine AI.out.mono ?_
                  rintro e w4 ⟨v1, rfl, o1, b1⟩
                  have A3 := Lib.hid (A2.out w4 b1)
                  obtain ⟨p1, c1, rfl, T1, _⟩ := Sl.of o1 rfl
                  have X1 := Lib.hid T1
                  have B1 := Lib.hid b1
                  clear o1 T1 b1 AI A2
                  go_wp2_with fail
                  refine A3.out.mono ?_
                  rintro e w5 ⟨v2, rfl, o2, b2⟩
                  obtain ⟨p2, c2, rfl, T2, _⟩ := Sl.of o2 rfl
                  have Y1 := Lib.hid (X1.out.keepB b2)
                  have Y2 := Lib.hid T2
                  have B2 := Lib.hid (Kit.stepB B1.out b2)
                  clear o2 T2 b2 A3 X1 B1
                  go_wp2_with fail
                  go_loopg [15] m.length (fun q c w6 => ∃ i : Nat, (i ≤ m.length ∧ q = m.length - i) ∧ c = .int .i64 ((i : Int) + 1) ∧ Hid (∃ nn, w6 = w5.drewN nn))
                  case atStart => exact ⟨0, ⟨Nat.zero_le _, rfl⟩, rfl, ⟨0, rfl⟩⟩
                  case round =>
                    obtain ⟨i, ⟨hi, rfl⟩, rfl, H6⟩ := hrel
                    obtain ⟨nn, hnn⟩ := H6.out
                    by_cases hlt : i + 1 < m.length
                    · obtain ⟨bb, off, rfl, hbb, hc⟩ := Y1.out.cells (by omega)
                      have k1 : wr.cell? ⟨bb, off + (i + 1), none⟩ = some (.int .i64 (m.getD (i + 1) 0)) := by rw [hnn]; exact hc (i + 1) hlt
                      have k0 : wr.cell? ⟨bb, off + i, none⟩ = some (.int .i64 (m.getD i 0)) := by rw [hnn]; exact hc i (by omega)
                      have lt : m.getD i 0 < m.getD (i + 1) 0 := by
                        have := List.pairwise_iff_getElem.1 hu.out i (i + 1) (by omega) hlt (by omega)
                        simpa [List.getD_eq_getElem?_getD, hlt, show i < m.length by omega] using this
                      have HNN := Lib.hid hnn
                      generalize m.getD i 0 = x at *
                      generalize m.getD (i + 1) 0 = y at *
                      have d1 : decide (y ≤ x) = false := decide_eq_false (by omega)
                      have d2 : decide ((i : Int) + 1 < (m.length : Int)) = true := decide_eq_true (by omega)
                      have s1 : IntKind.i64.wrap ((i : Int) + 1 - 1) = (i : Int) := by rw [IntWalk.i64_in _ (by omega)]; omega
                      have s3 : IntKind.i64.wrap ((i : Int) + 1 + 1) = (i : Int) + 1 + 1 := IntWalk.i64_in _ (by omega)
                      have t1 : ((i : Int) + 1).toNat = i + 1 := by omega
                      have l1 : (i : Int) + 1 < m.length := by omega
                      have l2 : 0 ≤ (i : Int) + 1 := by omega
                      have l3 : (i : Int) < m.length := by omega
                      clear hc hnn H6 lt hi
                      go_wp2_with fail
                      go_quiet (fail)
                      go_wp2_with fail
                      go_roundg (m.length - (i + 1))
                      case measure => omega
                      case rel => exact ⟨i + 1, ⟨by omega, rfl⟩, by simp, ⟨nn + nq, by rw [HNN.out]; simp [World.drewN, Nat.add_assoc]⟩⟩
                    · have d2 : decide ((i : Int) + 1 < (m.length : Int)) = false := decide_eq_false (by omega)
                      have b6 : Below w5.heap.size w5 wr := by rw [hnn]; exact Kit.drawB (Below.refl _ _) nn
                      have Q := Lib.hid (same_it wr p1 p2 c1 c2 m (Y1.out.keepB b6) (Y2.out.keepB b6) (by omega))
                      have B6 := Lib.hid (Kit.stepB B2.out b6)
                      clear hnn H6 b6
                      go_wp2_with fail
                      refine Q.out.mono ?_
                      rintro e w7 ⟨rfl, n7, rfl⟩
                      have L7 := Lib.hid (LI.out _ (Kit.drawB B6.out n7))
                      have ee : ((m.length : Int) == (m.length : Int)) = true := by simp
                      clear Q LI
                      go_wp2_with fail
                      refine L7.out.mono ?_
                      rintro e _ ⟨rfl, rfl⟩
                      go_wp2_with fail
                      go_ret
                      exact ⟨rfl, Kit.stepB HW.out (Kit.drawB B6.out n7)⟩
end Go.Proofs.Ytobplcehaeejoaa.LawOrders
