/- The reference's table by contracts. No condition. -/
import Derived.Test.YtbjlmhkjlipnmaaTa
import Derived.Test.YtbjlmhkjlipnmaaRw
import Derived.RegionTactic
import Derived.ChangeAlike
import Derived.Deep.QuietTactic
import Derived.BigQuiet
import Derived.StillTailTactics
import Derived.Outline
set_option linter.unusedVariables false
set_option linter.unusedSimpArgs false
namespace Go.Proofs.Ytbjlmhkjlipnmaa.Rf
open Go.RowKit
open Tb Tf Tg Ta
def ats (xs : List (Int × Int)) : List Int := xs.map (·.1)
def frs (xs : List (Int × Int)) : List Int := xs.map (fun p => p.2 - 1)
theorem ats_get (xs : List (Int × Int)) (i : Nat) (h : i < xs.length) : (ats xs).getD i 0 = (xs.getD i (0, 0)).1 := by simp [ats, List.getD_eq_getElem?_getD, h]
theorem frs_get (xs : List (Int × Int)) (i : Nat) (h : i < xs.length) : (frs xs).getD i 0 = (xs.getD i (0, 0)).2 - 1 := by simp [frs, List.getD_eq_getElem?_getD, h]
theorem ats_len (xs : List (Int × Int)) : (ats xs).length = xs.length := by simp [ats]
theorem frs_len (xs : List (Int × Int)) : (frs xs).length = xs.length := by simp [frs]
/-- A table of the reference's. -/
structure Ref (w : World) (g a b : Nat) (xs : List (Int × Int)) : Prop where
  tab : w.heap[g]? = some (.cells #[.slice (some ⟨a, 0, none⟩) xs.length xs.length, .slice (some ⟨b, 0, none⟩) xs.length xs.length] 45 (0, 0))
  one : w.heap[a]? = some (Rw.row .i64 3 (ats xs))
  two : w.heap[b]? = some (Rw.row .i64 3 (frs xs))
  ne : g ≠ a ∧ g ≠ b ∧ a ≠ b
  short : xs.length ≤ 256
theorem Ref.mod {w w' : World} {g a b : Nat} {xs : List (Int × Int)} (h : Ref w g a b xs) {S : List Nat} (m : Kit.Mod S w w') (hg : g ∉ S) (ha : a ∉ S) (hb : b ∉ S) : Ref w' g a b xs := ⟨Kit.keep h.tab m hg, Kit.keep h.one m ha, Kit.keep h.two m hb, h.ne, h.short⟩
theorem Ref.keepB {w w' : World} {g a b : Nat} {xs : List (Int × Int)} (h : Ref w g a b xs) (m : Below w.heap.size w w') : Ref w' g a b xs := ⟨Kit.keepB h.tab m, Kit.keepB h.one m, Kit.keepB h.two m, h.ne, h.short⟩
theorem new_no (w : World) (m : Int) (h : m < 1 ∨ 256 < m) : Calls Try.prog 17 #[.int .i64 m] w fun e w' => e = .returned (.tuple #[.pointer none, .int .i64 2]) ∧ w' = w := by
  rcases h with h | h
  · have e1 : decide (m < 1) = true := decide_eq_true h
    go_enter Try.func17, Try.ntmps17
    go_wp2_with fail
    go_ret2
    exact ⟨rfl, rfl⟩
  · have e1 : decide (m < 1) = false := decide_eq_false (by omega)
    have e2 : decide (256 < m) = true := decide_eq_true h
    go_enter Try.func17, Try.ntmps17
    go_wp2_with fail
    go_ret2
    exact ⟨rfl, rfl⟩
theorem tnew_no (w : World) (m : Int) (h : m < 1 ∨ 256 < m) : Calls Try.prog 8 #[.int .i64 m] w fun e w' => e = .returned (.tuple #[.pointer none, .int .i64 2]) ∧ w' = w := by
  rcases h with h | h
  · have e1 : decide (m < 1) = true := decide_eq_true h
    go_enter Try.func8, Try.ntmps8
    go_wp2_with fail
    go_ret2
    exact ⟨rfl, rfl⟩
  · have e1 : decide (m < 1) = false := decide_eq_false (by omega)
    have e2 : decide (256 < m) = true := decide_eq_true h
    go_enter Try.func8, Try.ntmps8
    go_wp2_with fail
    go_ret2
    exact ⟨rfl, rfl⟩
theorem blks (w : World) (o1 o2 o3 : Obj) : (((w.alloc o1).alloc o2).alloc o3).heap[w.heap.size]? = some o1 ∧ (((w.alloc o1).alloc o2).alloc o3).heap[w.heap.size + 1]? = some o2 ∧ (((w.alloc o1).alloc o2).alloc o3).heap[w.heap.size + 1 + 1]? = some o3 := by
  refine ⟨Kit.keep_alloc (Kit.keep_alloc (Kit.new_blk w o1) o2) o3, Kit.keep_alloc (Kit.new_blk2 w o1 o2) o3, ?_⟩
  have := Kit.new_blk2 (w.alloc o1) o2 o3
  simpa using this
theorem ats_new (n : Nat) : ats (List.replicate n (0, 1)) = List.replicate n 0 := by simp [ats]
theorem frs_new (n : Nat) : frs (List.replicate n (0, 1)) = List.replicate n 0 := by simp [frs]
theorem new_it (w : World) (n : Nat) (h1 : 1 ≤ n) (h2 : n ≤ 256) :
    Calls Try.prog 17 #[.int .i64 n] w fun e w' => ∃ g a b, e = .returned (.tuple #[.pointer (some ⟨g, 0, none⟩), .int .i64 0]) ∧ Ref w' g a b (List.replicate n (0, 1)) ∧ w.heap.size ≤ g ∧ w.heap.size ≤ a ∧ w.heap.size ≤ b ∧ Below w.heap.size w w' := by
  have hmk := fun w => Rw.made Try.prog w 28 3 .i64 8 Try.underlying28 info3 n (by omega) (by omega) (by omega)
  simp only [Int.toNat_natCast] at hmk
  have e1 : decide ((n : Int) < 1) = false := decide_eq_false (by omega)
  have e2 : decide (256 < (n : Int)) = false := decide_eq_false (by omega)
  go_enter Try.func17, Try.ntmps17
  go_wp2_with fail
  go_region
  all_goals
    go_wp2_with fail
    go_ret2
    have K := blks w (Rw.row IntKind.i64 3 (List.replicate n 0)) (Rw.row IntKind.i64 3 (List.replicate n 0))
  · refine ⟨_, _, _, rfl, ⟨by rw [List.length_replicate]; exact (K _).2.2, by rw [ats_new]; exact (K _).1, by rw [frs_new]; exact (K _).2.1, by omega, by simp; omega⟩, by omega, by omega, by omega, Kit.drawB (Kit.allocB (Kit.allocB (Kit.allocB (Below.refl _ _) _) _) _) 1⟩
  · refine ⟨_, _, _, rfl, ⟨by rw [List.length_replicate]; exact (K _).2.2, by rw [ats_new]; exact (K _).2.1, by rw [frs_new]; exact (K _).1, by omega, by simp; omega⟩, by omega, by omega, by omega, Kit.drawB (Kit.allocB (Kit.allocB (Kit.allocB (Below.refl _ _) _) _) _) 1⟩
section
variable {w : World} {g a b : Nat} {xs : List (Int × Int)}
theorem handle_it (T : Ref w g a b xs) (i : Nat) (hi : i < xs.length) (h0 : 0 ≤ (xs.getD i (0, 0)).2 ∧ (xs.getD i (0, 0)).2 ≤ 1099511627776) :
    Calls Try.prog 28 #[.pointer (some ⟨g, 0, none⟩), .int .i64 i] w fun e w' => e = .returned (.int .i64 ((xs.getD i (0, 0)).2 * 256 + i)) ∧ w' = w := by
  have ct := Kit.cells2 T.tab
  have c2 := Rw.cell T.two i (by rw [frs_len]; exact hi)
  rw [frs_get xs i hi] at c2
  generalize (xs.getD i (0, 0)).2 = t at *
  obtain ⟨f, rfl⟩ : ∃ f, t = f + 1 := ⟨t - 1, by omega⟩
  rw [show f + 1 - 1 = f by omega] at c2
  have hs := T.short
  clear T
  go_enter Try.func28, Try.ntmps28
  go_wp2_with fail
  go_ret
  exact ⟨Kit.ret_int (by omega), rfl⟩
theorem find_it (T : Ref w g a b xs) (h : Int) (ht : ∀ j, j < xs.length → 0 ≤ (xs.getD j (0, 0)).1 ∧ 0 ≤ (xs.getD j (0, 0)).2 ∧ (xs.getD j (0, 0)).2 ≤ 1099511627776) (k : Nat) (hk : k ≤ xs.length) (hb : ∀ i, i < k → (xs.getD i (0, 0)).1 = 0 ∨ (xs.getD i (0, 0)).2 * 256 + i ≠ h) (hf : k < xs.length → (xs.getD k (0, 0)).1 ≠ 0 ∧ (xs.getD k (0, 0)).2 * 256 + k = h) :
    Calls Try.prog 29 #[.pointer (some ⟨g, 0, none⟩), .int .i64 h] w fun e w' => e = .returned (.int .i64 (if k < xs.length then k else -1)) ∧ w' = w := by
  have ct := Kit.cells2 T.tab
  have HT := Lib.hid T
  have HH := Lib.hid ht
  have HB := Lib.hid hb
  have HF := Lib.hid hf
  have hs := T.short
  clear T ht hb hf
  go_enter Try.func29, Try.ntmps29
  go_wp2_with fail
  go_loop [5] (fun c => ∃ j : Nat, j ≤ k ∧ c = .int .i64 j) (fun c => xs.length - (intOf c).toNat)
  case atStart => exact ⟨0, Nat.zero_le _, rfl⟩
  case round =>
    obtain ⟨j, hj, rfl⟩ := hrel
    by_cases hlt : j < xs.length
    · have c1 := Rw.cell HT.out.one j (by rw [ats_len]; exact hlt)
      rw [ats_get xs j hlt] at c1
      have b := HH.out j hlt
      have HD := handle_it HT.out j hlt b.2
      have HBj := Lib.hid (fun (h : j < k) => HB.out j h)
      have HFj := Lib.hid (fun (h : j = k) => HF.out (h ▸ hlt))
      by_cases hjk : j = k
      · subst hjk
        have hn := (HF.out hlt)
        rw [hn.2] at HD
        have HHD := Lib.hid HD
        have hp : decide (0 < (xs.getD j (0, 0)).1) = true := decide_eq_true (by omega)
        have hn0 := Lib.hid hn
        clear HD hn HF HB HH HBj HFj
        generalize (xs.getD j (0, 0)).1 = at1 at c1 hp b hn0
        go_wp2_with fail
        refine HHD.out.mono ?_; rintro e w' ⟨rfl, rfl⟩
        go_wp2_with fail
        go_ret
        exact ⟨rfl, rfl⟩
      · have hn := HBj.out (by omega)
        have HHD := Lib.hid HD
        clear HD HF HB HH HBj HFj
        by_cases hz : (xs.getD j (0, 0)).1 = 0
        · rw [hz] at c1
          clear hn hz b
          go_wp2_with fail
          go_round
          case rel => exact ⟨j + 1, by omega, by simp⟩
          case measure => simp [intOf]; omega
        · have hp : decide (0 < (xs.getD j (0, 0)).1) = true := decide_eq_true (by omega)
          have hv : (((xs.getD j (0, 0)).2 * 256 + j) == h) = false := by rw [beq_eq_false_iff_ne]; omega
          generalize (xs.getD j (0, 0)).2 * 256 + (j : Int) = hv1 at HHD hv
          generalize (xs.getD j (0, 0)).1 = at1 at c1 hp b hn hz
          clear hn hz b
          go_wp2_with fail
          refine HHD.out.mono ?_; rintro e w' ⟨rfl, rfl⟩
          go_wp2_with fail
          go_round
          case rel => exact ⟨j + 1, by omega, by simp⟩
          case measure => simp [intOf]; omega
    · obtain rfl : j = k := by omega
      clear HF HB HH
      go_wp2_with fail
      go_ret
      exact ⟨rfl, rfl⟩
/-- In the order of the slots: the first that holds this handle. -/
theorem good_at (xs : List (Int × Int)) (h : Int) (hs : xs.length ≤ 256) (ht : ∀ j, j < xs.length → 0 ≤ (xs.getD j (0, 0)).1 ∧ 0 ≤ (xs.getD j (0, 0)).2 ∧ (xs.getD j (0, 0)).2 ≤ 1099511627776) (i : Nat) (hi : i < xs.length) :
    (xs.getD i (0, 0)).1 ≠ 0 ∧ (xs.getD i (0, 0)).2 * 256 + i = h ↔ good xs h ∧ (h % 256).toNat = i := by
  have b := ht i hi
  unfold good
  constructor
  · rintro ⟨h1, h2⟩
    have e : h % 256 = i := by omega
    rw [e, Int.toNat_natCast]
    exact ⟨⟨by omega, by omega, h1, by omega⟩, rfl⟩
  · rintro ⟨⟨h1, h2, h3, h4⟩, h5⟩
    rw [h5] at h3 h4
    exact ⟨h3, by omega⟩
theorem find_any (T : Ref w g a b xs) (h : Int) (ht : ∀ j, j < xs.length → 0 ≤ (xs.getD j (0, 0)).1 ∧ 0 ≤ (xs.getD j (0, 0)).2 ∧ (xs.getD j (0, 0)).2 ≤ 1099511627776) :
    Calls Try.prog 29 #[.pointer (some ⟨g, 0, none⟩), .int .i64 h] w fun e w' => e = .returned (.int .i64 (if good xs h then ((h % 256).toNat : Nat) else -1)) ∧ w' = w := by
  have G := good_at xs h T.short ht
  by_cases hg : good xs h
  · have hl : (h % 256).toNat < xs.length := by have := hg.2.1; have := hg.1; omega
    have F := find_it T h ht (h % 256).toNat (by omega) (fun i hi => by
      by_cases e : (xs.getD i (0, 0)).1 = 0
      · exact .inl e
      · exact .inr (fun h2 => by have := ((G i (by omega)).1 ⟨e, h2⟩).2; omega)) (fun hl => (G _ hl).2 ⟨hg, rfl⟩)
    rw [if_pos hl] at F
    rw [if_pos hg]
    exact F
  · have F := find_it T h ht xs.length (Nat.le_refl _) (fun i hi => by
      by_cases e : (xs.getD i (0, 0)).1 = 0
      · exact .inl e
      · exact .inr (fun h2 => hg ((G i hi).1 ⟨e, h2⟩).1)) (fun hl => by omega)
    rw [if_neg (by omega)] at F
    rw [if_neg hg]
    exact F
theorem get_it (T : Ref w g a b xs) (h : Int) (ht : ∀ j, j < xs.length → 0 ≤ (xs.getD j (0, 0)).1 ∧ 0 ≤ (xs.getD j (0, 0)).2 ∧ (xs.getD j (0, 0)).2 ≤ 1099511627776) :
    Calls Try.prog 20 #[.pointer (some ⟨g, 0, none⟩), .int .i64 h] w fun e w' => e = .returned (.tuple #[.int .i64 (if good xs h then (xs.getD (h % 256).toNat (0, 0)).1 else 0), .int .i64 (if good xs h then 0 else 60)]) ∧ w' = w := by
  have F := find_any T h ht
  by_cases hg : good xs h
  · have hl : (h % 256).toNat < xs.length := by have := hg.2.1; have := hg.1; omega
    rw [if_pos hg] at F ⊢
    rw [if_pos hg]
    generalize (h % 256).toNat = i at *
    have HF := Lib.hid F
    have ct := Kit.cells2 T.tab
    have c1 := Rw.cell T.one i (by rw [ats_len]; exact hl)
    rw [ats_get xs i hl] at c1
    generalize (xs.getD i (0, 0)).1 = at1 at *
    have hs := T.short
    clear F hg ht T
    go_enter Try.func20, Try.ntmps20
    go_wp2_with fail
    refine HF.out.mono ?_; rintro e w' ⟨rfl, rfl⟩
    go_wp2_with fail
    go_ret2
    exact ⟨rfl, rfl⟩
  · rw [if_neg hg] at F ⊢
    rw [if_neg hg]
    have HF := Lib.hid F
    clear F hg ht T
    go_enter Try.func20, Try.ntmps20
    go_wp2_with fail
    refine HF.out.mono ?_; rintro e w' ⟨rfl, rfl⟩
    go_wp2_with fail
    go_ret2
    exact ⟨rfl, rfl⟩
theorem ats_set (xs : List (Int × Int)) (i : Nat) (p : Int × Int) : ats (xs.set i p) = (ats xs).set i p.1 := by simp [ats, List.map_set]
theorem frs_set (xs : List (Int × Int)) (i : Nat) (p : Int × Int) : frs (xs.set i p) = (frs xs).set i (p.2 - 1) := by simp [frs, List.map_set]
theorem set_self (l : List Int) (i : Nat) (v : Int) (h : i < l.length) (e : l.getD i 0 = v) : l.set i v = l := by
  rw [← e, List.getD_eq_getElem?_getD, List.getElem?_eq_getElem h, Option.getD_some, List.set_getElem_self]
/-- An address is written. -/
theorem Ref.put1 (T : Ref w g a b xs) (i : Nat) (hi : i < xs.length) (x : Int) : Ref (w.setCell ⟨a, i, none⟩ (.int .i64 x)) g a b (xs.set i (x, (xs.getD i (0, 0)).2)) :=
  ⟨by rw [List.length_set]; exact Kit.set_far T.tab T.ne.1 _, by rw [ats_set]; exact Rw.set T.one i x, by
    rw [frs_set, set_self _ _ _ (by rw [frs_len]; exact hi) (frs_get xs i hi)]; exact Kit.set_far T.two (fun e => T.ne.2.2 e.symm) _, T.ne, by rw [List.length_set]; exact T.short⟩
theorem Ref.put2 (T : Ref w g a b xs) (i : Nat) (hi : i < xs.length) (x t : Int) (f : Int) (hf : f = t - 1) : Ref ((w.setCell ⟨a, i, none⟩ (.int .i64 x)).setCell ⟨b, i, none⟩ (.int .i64 f)) g a b (xs.set i (x, t)) :=
  ⟨by rw [List.length_set]; exact Kit.set_far (Kit.set_far T.tab T.ne.1 _) T.ne.2.1 _, by rw [ats_set]; exact Kit.set_far (Rw.set T.one i x) T.ne.2.2 _, by
    rw [frs_set, hf]; exact Rw.set (Kit.set_far T.two (fun e => T.ne.2.2 e.symm) _) i _, T.ne, by rw [List.length_set]; exact T.short⟩
theorem free_it (T : Ref w g a b xs) (h : Int) (ht : ∀ j, j < xs.length → 0 ≤ (xs.getD j (0, 0)).1 ∧ 0 ≤ (xs.getD j (0, 0)).2 ∧ (xs.getD j (0, 0)).2 ≤ 1099511627776) :
    Calls Try.prog 19 #[.pointer (some ⟨g, 0, none⟩), .int .i64 h] w fun e w' => e = .returned (.int .i64 (if good xs h then 0 else 60)) ∧ Ref w' g a b (freed xs h) ∧ Kit.Mod [a, b] w w' := by
  have F := find_any T h ht
  unfold freed
  by_cases hg : good xs h
  · have hl : (h % 256).toNat < xs.length := by have := hg.2.1; have := hg.1; omega
    rw [if_pos hg] at F ⊢
    rw [if_pos hg]
    generalize (h % 256).toNat = i at *
    have bd := ht i hl
    have HF := Lib.hid F
    have ct := Kit.cells2 T.tab
    have f1 := Rw.frozen T.one i
    have HT := Lib.hid T
    obtain ⟨tn, htn⟩ : ∃ tn, tn = (xs.getD i (0, 0)).2 := ⟨_, rfl⟩
    rw [← htn] at bd ⊢
    have T1 := T.put1 i hl 0
    rw [← htn] at T1
    have ht1 : Rw.cell T1.two i (by rw [frs_len, List.length_set]; exact hl) = Rw.cell T1.two i (by rw [frs_len, List.length_set]; exact hl) := rfl
    have c2 := Rw.cell T1.two i (by rw [frs_len, List.length_set]; exact hl)
    rw [frs_get _ i (by rw [List.length_set]; exact hl)] at c2
    rw [show ((xs.set i (0, tn)).getD i (0, 0)).2 = tn by simp [List.getD_eq_getElem?_getD, hl]] at c2
    have f2 := Rw.frozen T1.two i
    have ct2 := Kit.cells2 T1.tab
    rw [List.length_set] at ct2
    have c1 := Rw.cell T.one i (by rw [ats_len]; exact hl)
    have T2 := Lib.hid (T.put2 i hl 0 (tn + 1) tn (by omega))
    clear T T1 F hg ht ht1 htn
    generalize (ats xs).getD i 0 = at1 at c1
    obtain ⟨f, rfl⟩ : ∃ f, tn = f + 1 := ⟨tn - 1, by omega⟩
    rw [show f + 1 - 1 = f by omega] at c2
    have s1 : IntKind.i64.wrap (f + 1) = f + 1 := IntWalk.i64_in _ (by omega)
    have hs := HT.out.short
    go_enter Try.func19, Try.ntmps19
    go_wp2_with fail
    refine HF.out.mono ?_; rintro e w' ⟨rfl, rfl⟩
    go_wp2_with fail
    have M2 := Lib.hid ((Kit.Mod.refl [a, b] w').setCell (p := ⟨a, i, none⟩) (.inl (by simp)) (.int .i64 0))
    generalize w'.setCell { block := a, off := i } (Value.int IntKind.i64 0) = w2 at *
    go_still_tail 14, (by kernel_rfl)
    change wpList _ _ _ _ _ w2.drew
    go_wp2_with fail
    go_ret
    exact ⟨rfl, ⟨T2.out.tab, T2.out.one, T2.out.two, T2.out.ne, T2.out.short⟩, (M2.out.drew.setCell (.inl (by simp)) _)⟩
  · rw [if_neg hg] at F ⊢
    rw [if_neg hg]
    have HF := Lib.hid F
    clear F hg ht
    go_enter Try.func19, Try.ntmps19
    go_wp2_with fail
    refine HF.out.mono ?_; rintro e w' ⟨rfl, rfl⟩
    go_wp2_with fail
    go_ret
    exact ⟨rfl, T, Kit.Mod.refl _ _⟩
theorem make_bad (T : Ref w g a b xs) (x : Int) (hx : ¬ (1 ≤ x ∧ x ≤ 524288)) :
    Calls Try.prog 18 #[.pointer (some ⟨g, 0, none⟩), .int .i64 x] w fun e w' => e = .returned (.tuple #[.int .i64 0, .int .i64 4]) ∧ w' = w := by
  by_cases h : x < 1
  · have e1 : decide (x < 1) = true := decide_eq_true h
    go_enter Try.func18, Try.ntmps18
    go_wp2_with fail
    go_ret2
    exact ⟨rfl, rfl⟩
  · have e1 : decide (x < 1) = false := decide_eq_false h
    have e2 : decide (524288 < x) = true := decide_eq_true (by omega)
    go_enter Try.func18, Try.ntmps18
    go_wp2_with fail
    go_ret2
    exact ⟨rfl, rfl⟩
theorem make_in (T : Ref w g a b xs) (x : Int) (hx : 1 ≤ x ∧ x ≤ 524288) (ht : ∀ j, j < xs.length → 0 ≤ (xs.getD j (0, 0)).2 ∧ (xs.getD j (0, 0)).2 ≤ 1099511627776) (k : Nat) (hk : k ≤ xs.length) (hb : ∀ i, i < k → (xs.getD i (0, 0)).1 ≠ 0) (hf : k < xs.length → (xs.getD k (0, 0)).1 = 0) :
    Calls Try.prog 18 #[.pointer (some ⟨g, 0, none⟩), .int .i64 x] w fun e w' => Kit.Mod [a, b] w w' ∧ if k < xs.length then e = .returned (.tuple #[.int .i64 ((xs.getD k (0, 0)).2 * 256 + k), .int .i64 0]) ∧ Ref w' g a b (xs.set k (x, (xs.getD k (0, 0)).2)) else e = .returned (.tuple #[.int .i64 0, .int .i64 5]) ∧ Ref w' g a b xs := by
  have ct := Kit.cells2 T.tab
  obtain ⟨tn, htn⟩ : ∃ t, t = (xs.getD k (0, 0)).2 := ⟨_, rfl⟩
  rw [← htn]
  have HN := Lib.hid htn
  clear htn
  have HT := Lib.hid T
  have HH := Lib.hid ht
  have HB := Lib.hid hb
  have HF := Lib.hid hf
  have hs := T.short
  have d1 : decide (x < 1) = false := decide_eq_false (by omega)
  have d2 : decide (524288 < x) = false := decide_eq_false (by omega)
  clear T ht hb hf
  go_enter Try.func18, Try.ntmps18
  go_wp2_with fail
  go_loop [6] (fun c => ∃ j : Nat, j ≤ k ∧ c = .int .i64 j) (fun c => xs.length - (intOf c).toNat)
  case atStart => exact ⟨0, Nat.zero_le _, rfl⟩
  case round =>
    obtain ⟨j, hj, rfl⟩ := hrel
    by_cases hlt : j < xs.length
    · have c1 := Rw.cell HT.out.one j (by rw [ats_len]; exact hlt)
      rw [ats_get xs j hlt] at c1
      have f1 := Rw.frozen HT.out.one j
      by_cases hjk : j = k
      · subst hjk
        rw [HF.out hlt] at c1
        have T1 := HT.out.put1 j hlt x
        have hD := handle_it T1 j (by rw [List.length_set]; exact hlt) (by
          have := HH.out j hlt
          rw [show ((xs.set j (x, (xs.getD j (0, 0)).2)).getD j (0, 0)).2 = (xs.getD j (0, 0)).2 by simp [List.getD_eq_getElem?_getD, hlt]]
          exact this)
        rw [show ((xs.set j (x, (xs.getD j (0, 0)).2)).getD j (0, 0)).2 = (xs.getD j (0, 0)).2 by simp [List.getD_eq_getElem?_getD, hlt]] at hD
        rw [← HN.out] at hD T1
        have HD := Lib.hid hD
        have HT1 := Lib.hid T1
        clear T1 hD
        go_wp2_with fail
        refine HD.out.mono ?_; rintro e w' ⟨rfl, rfl⟩
        go_wp2_with fail
        go_ret2
        refine ⟨(Kit.Mod.refl _ _).setCell (.inl (by simp)) _, ?_⟩
        exact ⟨rfl, HT1.out⟩
      · have hne := HB.out j (by omega)
        have e1 : ((xs.getD j (0, 0)).1 == 0) = false := by simpa using hne
        generalize (xs.getD j (0, 0)).1 = at1 at c1 e1 hne
        have e2 : (at1 = 0) = False := eq_false hne
        go_wp2_with fail
        go_round
        case rel => exact ⟨j + 1, by omega, by simp⟩
        case measure => simp [intOf]; omega
    · obtain rfl : j = k := by omega
      go_wp2_with fail
      go_ret2
      refine ⟨Kit.Mod.refl _ _, ?_⟩
      exact ⟨rfl, HT.out⟩
theorem all_it (T : Ref w g a b xs) (hz : ∀ j, j < xs.length → 0 ≤ (xs.getD j (0, 0)).1) :
    Calls Try.prog 24 #[.pointer (some ⟨g, 0, none⟩)] w fun e w' => ∃ v, e = .returned v ∧ w'.ownsRow w.heap.size 3 1 v (live xs).length (ints (live xs)) ∧ Below w.heap.size w w' := by
  obtain ⟨i0, hi, hz0, hz1, hz2⟩ := info_parts info3
  have HT := Lib.hid T
  have HZ := Lib.hid hz
  have hs := T.short
  clear T hz
  obtain ⟨L, hL⟩ : ∃ L, L = live xs := ⟨_, rfl⟩
  rw [← hL]
  have HL := Lib.hid hL
  clear hL
  go_enter Try.func24, Try.ntmps24
  go_wp2_with fail
  go_loopw [3, 4] (fun v c wr => ∃ j : Nat, j ≤ xs.length ∧ c = .int .i64 j ∧ Hid (wr.ownsRow w.heap.size 3 1 v (live (xs.take j)).length (ints (live (xs.take j)))) ∧ Hid (Below w.heap.size w wr)) (fun _ c _ => xs.length - (intOf c).toNat)
  case atStart => exact ⟨0, Nat.zero_le _, rfl, Lib.hid (by rw [List.take_zero]; exact World.ownsRow_nil _ _ _ _), Below.refl _ _⟩
  case round =>
    obtain ⟨j, hj, rfl, O, H⟩ := hrel
    have TR := HT.out.keepB H.out
    have ct := Kit.cells2 TR.tab
    by_cases hlt : j < xs.length
    · have c1 := Rw.cell TR.one j (by rw [ats_len]; exact hlt)
      rw [ats_get xs j hlt] at c1
      have hlv := live_take xs j hlt
      have hll := live_length xs j
      have hsz := H.out.size
      have hpos := HZ.out j hlt
      generalize (xs.getD j (0, 0)).1 = at1 at c1 hlv hpos
      generalize live (xs.take j) = l at O hlv hll
      clear TR
      by_cases e : at1 = 0
      · subst e
        rw [if_pos rfl, List.append_nil] at hlv
        have HV := Lib.hid hlv
        clear hlv
        go_wp2_with fail
        go_roundw
        case rel => exact ⟨j + 1, by omega, by simp, by rw [HV.out]; exact O.out, H.out⟩
        case measure => simp [intOf]; omega
      · have e1 : decide (0 < at1) = true := decide_eq_true (by omega)
        rw [if_neg e] at hlv
        have HV := Lib.hid hlv
        clear hlv
        go_wp2_with (at_builtin; go_loud (refine wpList_append_own _ rfl _ _ 28 rfl w.heap.size 3 i0 (.int .i64 0) 1 8 Try.underlying28 hi hz0 hz1 hz2 rfl (by decide) _ _ _ rfl (O.out.alloc _) ⟨wr.heap.size, 0, none⟩ 1 1 [.int .i64 at1] rfl rfl (cell_one_new wr (.int .i64 at1) 3) (fun x hx => by simp at hx; subst hx; rfl) (by unfold maxLen; omega) (by omega) (by simp; omega) ?_))
        intro v' w2 hown' hgrow _
        have hB : Below w.heap.size w w2 := (Kit.allocB H.out _).grown hgrow (by simp; omega) (fun k h => (O.out.lt k h).1)
        have hO : w2.ownsRow w.heap.size 3 1 v' (live (xs.take (j + 1))).length (ints (live (xs.take (j + 1)))) := by
          rw [HV.out]
          simpa [ints] using hown'
        have HO := Lib.hid hO
        have HB := Lib.hid hB
        clear hown' hgrow hO hB
        go_wp2_with fail
        go_roundw
        case rel => exact ⟨j + 1, by omega, by simp, HO, HB⟩
        case measure => simp [intOf]; omega
    · obtain rfl : j = xs.length := by omega
      rw [List.take_length, ← HL.out] at O
      clear TR
      go_wp2_with fail
      go_ret
      exact ⟨_, rfl, O.out, H.out⟩
end
/-- Two slices of the same numbers are the same. -/
theorem same_it (w : World) (a1 a2 : Option Addr) (c1 c2 : Nat) (ys : List Int) (hl : ys.length ≤ 1048576) (h : 0 < ys.length → ∃ g1 g2, a1 = some ⟨g1, 0, none⟩ ∧ a2 = some ⟨g2, 0, none⟩ ∧ ∀ i, i < ys.length → w.cell? ⟨g1, i, none⟩ = some (.int .i64 (ys.getD i 0)) ∧ w.cell? ⟨g2, i, none⟩ = some (.int .i64 (ys.getD i 0))) :
    Calls Try.prog 22 #[.slice a1 ys.length c1, .slice a2 ys.length c2] w fun e w' => e = .returned (.bool true) ∧ ∃ n, w' = w.drewN n := by
  have HH := Lib.hid h
  clear h
  go_enter Try.func22, Try.ntmps22
  go_wp2_with fail
  go_loopw [5] (fun c wr => ∃ j : Nat, j ≤ ys.length ∧ c = .int .i64 j ∧ Hid (∃ n, wr = w.drewN n)) (fun c _ => ys.length - (intOf c).toNat)
  case atStart => exact ⟨0, Nat.zero_le _, rfl, ⟨0, rfl⟩⟩
  case round =>
    obtain ⟨j, hj, rfl, N⟩ := hrel
    by_cases hlt : j < ys.length
    · obtain ⟨g1, g2, rfl, rfl, hc⟩ := HH.out (by omega)
      obtain ⟨d1, d2⟩ := hc j hlt
      obtain ⟨n, hn⟩ := N.out
      have ce : ∀ p, wr.cell? p = w.cell? p := fun p => by rw [hn]; rfl
      rw [← ce] at d1 d2
      have HN := Lib.hid hn
      generalize ys.getD j 0 = y at d1 d2
      clear hc ce hn
      go_wp2_with fail
      go_quiet (fail)
      go_wp2_with fail
      go_roundw
      case rel => exact ⟨j + 1, by omega, by simp, ⟨n + nq, by rw [HN.out]; simp [World.drewN, Nat.add_assoc]⟩⟩
      case measure => simp [intOf]; omega
    · go_wp2_with fail
      go_ret
      exact ⟨rfl, N.out⟩
end Go.Proofs.Ytbjlmhkjlipnmaa.Rf
