/- The arena's calls, one contract each: what each tells and what it leaves of memory. -/
import Derived.Test.YtleockiemeabdaaProg
import Derived.Test.YtleockiemeabdaaRw
import Derived.StillTailTactics
import Derived.IntWalk
set_option linter.unusedVariables false
namespace Go.Proofs.Ytleockiemeabdaa.Ar
open Go.RowKit
open Rw (row)
/-- An arena that lies at block g, its words at block r: a struct of type T with one slice of words. -/
structure Own (T : TypeId) (w : World) (g r : Nat) (xs : List Int) : Prop where
  obj : w.heap[g]? = some (.cells #[.slice (some ⟨r, 0, none⟩) xs.length xs.length] T (0, 0))
  row : w.heap[r]? = some (row .u64 22 xs)
  small : xs.length ≤ 524288
  rng : ∀ x ∈ xs, 0 ≤ x ∧ x ≤ 18446744073709551615
section
variable {T : TypeId} {w w' : World} {g r : Nat} {xs : List Int}
theorem Own.ne (h : Own T w g r xs) (hT : T ≠ 22) : g ≠ r := by
  rintro rfl
  have := h.obj.symm.trans h.row
  simp only [Rw.row, Option.some.injEq, Obj.cells.injEq] at this
  exact hT this.2.1
theorem Own.keep (h : Own T w g r xs) {S : List Nat} (m : Kit.Mod S w w') (hg : g ∉ S) (hr : r ∉ S) : Own T w' g r xs := ⟨Kit.keep h.obj m hg, Kit.keep h.row m hr, h.small, h.rng⟩
theorem Own.keepB (h : Own T w g r xs) (m : Below w.heap.size w w') : Own T w' g r xs := ⟨Kit.keepB h.obj m, Kit.keepB h.row m, h.small, h.rng⟩
end
/-- What a place is: OK or a range error. -/
def atE (n : Nat) (i : Int) : Int := if 0 ≤ i ∧ i < n then 0 else 4
def rowE (n : Nat) (i m : Int) : Int := if 0 ≤ i ∧ i ≤ n ∧ m ≤ n - i then 0 else 4
theorem at_any (w : World) (g r : Nat) (xs : List Int) (i : Int) (h : Own 53 w g r xs) :
    Calls Try.prog 19 #[.pointer (some ⟨g, 0, none⟩), .int .i64 i] w fun e w' => e = .returned (.int .i64 (atE xs.length i)) ∧ w = w' := by
  have c := Kit.cells1 h.obj
  have hs := h.small
  unfold atE
  by_cases hi : 0 ≤ i ∧ i < xs.length
  · rw [if_pos hi]
    obtain ⟨h0, h1⟩ := hi
    go_enter Try.func19, Try.ntmps19
    go_wp2_with fail
    go_ret
    exact ⟨rfl, rfl⟩
  · rw [if_neg hi]
    by_cases h0 : i < 0
    · go_enter Try.func19, Try.ntmps19
      go_wp2_with fail
      go_ret
      exact ⟨rfl, rfl⟩
    · have h1 : xs.length ≤ i := by omega
      clear hi
      go_enter Try.func19, Try.ntmps19
      go_wp2_with fail
      go_ret
      exact ⟨rfl, rfl⟩
theorem row_any (w : World) (g r : Nat) (xs : List Int) (i m : Int) (h : Own 53 w g r xs) (m0 : -9223372036854775808 ≤ m) (m1 : m ≤ 9223372036854775807) :
    Calls Try.prog 20 #[.pointer (some ⟨g, 0, none⟩), .int .i64 i, .int .i64 m] w fun e w' => e = .returned (.int .i64 (rowE xs.length i m)) ∧ w = w' := by
  have c := Kit.cells1 h.obj
  have hs := h.small
  unfold rowE
  by_cases hi : 0 ≤ i ∧ i ≤ xs.length ∧ m ≤ xs.length - i
  · rw [if_pos hi]
    obtain ⟨h0, h1, h2⟩ := hi
    go_enter Try.func20, Try.ntmps20
    go_wp2_with fail
    go_ret
    exact ⟨rfl, rfl⟩
  · rw [if_neg hi]
    by_cases h0 : i < 0
    · go_enter Try.func20, Try.ntmps20
      go_wp2_with fail
      go_ret
      exact ⟨rfl, rfl⟩
    · by_cases h1 : xs.length < i
      · clear hi
        go_enter Try.func20, Try.ntmps20
        go_wp2_with fail
        go_ret
        exact ⟨rfl, rfl⟩
      · have h2 : xs.length - i < m := by omega
        have h1' : i ≤ xs.length := by omega
        clear hi
        go_enter Try.func20, Try.ntmps20
        go_wp2_with fail
        go_ret
        exact ⟨rfl, rfl⟩
/-- What is read. -/
def readV (xs : List Int) (i : Int) : Int := if 0 ≤ i ∧ i < xs.length then xs.getD i.toNat 0 else 0
theorem read_any (w : World) (g r : Nat) (xs : List Int) (i : Int) (h : Own 53 w g r xs) :
    Calls Try.prog 11 #[.pointer (some ⟨g, 0, none⟩), .int .i64 i] w fun e w' => e = .returned (.tuple #[.int .u64 (readV xs i), .int .i64 (atE xs.length i)]) ∧ w = w' := by
  have ha := at_any w g r xs i h
  have c := Kit.cells1 h.obj
  have hs := h.small
  unfold readV
  unfold atE at ha ⊢
  by_cases hi : 0 ≤ i ∧ i < xs.length
  · rw [if_pos hi] at ha ⊢
    rw [if_pos hi]
    have Ha := Lib.hid ha
    clear ha
    obtain ⟨k, rfl⟩ := Int.eq_ofNat_of_zero_le hi.1
    have hk : k < xs.length := by omega
    have cv := Rw.cell h.row k hk
    clear hi
    go_enter Try.func11, Try.ntmps11
    go_wp2_with fail
    refine (Ha.out).mono ?_; rintro e w' ⟨rfl, rfl⟩
    go_wp2_with fail
    go_ret2
    exact ⟨by simp [hk], rfl⟩
  · rw [if_neg hi] at ha ⊢
    rw [if_neg hi]
    have Ha := Lib.hid ha
    clear ha hi
    go_enter Try.func11, Try.ntmps11
    go_wp2_with fail
    refine (Ha.out).mono ?_; rintro e w' ⟨rfl, rfl⟩
    go_wp2_with fail
    go_ret2
    exact ⟨rfl, rfl⟩
/-- What is written. -/
def writeV (xs : List Int) (i v : Int) : List Int := if 0 ≤ i ∧ i < xs.length then xs.set i.toNat v else xs
theorem writeV_length (xs : List Int) (i v : Int) : (writeV xs i v).length = xs.length := by unfold writeV; split <;> simp
theorem Own.set {T : TypeId} {w : World} {g r : Nat} {xs : List Int} (h : Own T w g r xs) (hT : T ≠ 22) (k : Nat) (v : Int) (v0 : 0 ≤ v) (v1 : v ≤ 18446744073709551615) : Own T (w.setCell ⟨r, k, none⟩ (.int .u64 v)) g r (xs.set k v) := by
  refine ⟨?_, Rw.set h.row k v, by rw [List.length_set]; exact h.small, ?_⟩
  · rw [List.length_set]
    exact Kit.set_far h.obj (h.ne hT) _
  · intro x hx
    rcases List.mem_or_eq_of_mem_set hx with hm | hm
    · exact h.rng x hm
    · subst hm; exact ⟨v0, v1⟩
theorem write_any (w : World) (g r : Nat) (xs : List Int) (i v : Int) (h : Own 53 w g r xs) (v0 : 0 ≤ v) (v1 : v ≤ 18446744073709551615) :
    Calls Try.prog 10 #[.pointer (some ⟨g, 0, none⟩), .int .i64 i, .int .u64 v] w fun e w' => e = .returned (.int .i64 (atE xs.length i)) ∧ Own 53 w' g r (writeV xs i v) ∧ Kit.Mod [r] w w' := by
  have ha := at_any w g r xs i h
  have c := Kit.cells1 h.obj
  have hs := h.small
  unfold writeV
  unfold atE at ha ⊢
  by_cases hi : 0 ≤ i ∧ i < xs.length
  · rw [if_pos hi] at ha ⊢
    rw [if_pos hi]
    have Ha := Lib.hid ha
    clear ha
    obtain ⟨k, rfl⟩ := Int.eq_ofNat_of_zero_le hi.1
    have hk : k < xs.length := by omega
    have cv := Rw.cell h.row k hk
    have fv := Rw.frozen h.row k
    clear hi
    go_enter Try.func10, Try.ntmps10
    go_wp2_with fail
    refine (Ha.out).mono ?_; rintro e w' ⟨rfl, rfl⟩
    go_wp2_with fail
    go_ret
    exact ⟨rfl, h.set (by decide) k v v0 v1, (Kit.Mod.refl _ _).setCell (.inl (by simp)) _⟩
  · rw [if_neg hi] at ha ⊢
    rw [if_neg hi]
    have Ha := Lib.hid ha
    clear ha hi
    go_enter Try.func10, Try.ntmps10
    go_wp2_with fail
    refine (Ha.out).mono ?_; rintro e w' ⟨rfl, rfl⟩
    go_wp2_with fail
    go_ret
    exact ⟨rfl, h, Kit.Mod.refl _ _⟩
theorem len_any (w : World) (g r : Nat) (xs : List Int) (h : Own 53 w g r xs) :
    Calls Try.prog 18 #[.pointer (some ⟨g, 0, none⟩)] w fun e w' => e = .returned (.int .i64 xs.length) ∧ w = w' := by
  have c := Kit.cells1 h.obj
  go_enter Try.func18, Try.ntmps18
  go_wp2_with fail
  go_ret
  exact ⟨rfl, rfl⟩
theorem info22 : (Try.prog.info? 22).map (fun i => (i.zero, i.size, i.bytes)) = some (some (.int .u64 0), 1, 8) := by kernel_rfl
theorem new_ok (w : World) (n : Int) (n1 : 1 ≤ n) (n2 : n ≤ 524288) :
    Calls Try.prog 13 #[.int .i64 n] w fun e w' => ∃ g r, e = .returned (.tuple #[.pointer (some ⟨g, 0, none⟩), .int .i64 0]) ∧ w.heap.size ≤ g ∧ w.heap.size ≤ r ∧ Own 53 w' g r (List.replicate n.toNat 0) ∧ Below w.heap.size w w' := by
  have hmk := Rw.made Try.prog w 43 22 .u64 8 Try.underlying43 info22 n (by omega) (by omega) (by omega)
  go_enter Try.func13, Try.ntmps13
  go_wp2_with fail
  go_ret2
  have b1 := Kit.new_blk w (Rw.row .u64 22 (List.replicate n.toNat 0))
  have b2 := Kit.new_blk2 w (Rw.row .u64 22 (List.replicate n.toNat 0)) (.cells #[.slice (some ⟨w.heap.size, 0, none⟩) n.toNat n.toNat] 53 (0, 0))
  refine ⟨w.heap.size + 1, w.heap.size, rfl, by omega, by omega, ⟨?_, Kit.keep_alloc b1 _, by simp; omega, fun x hx => ?_⟩, ((Below.refl _ _).alloc (Nat.le_refl _) _).alloc (by simp) _⟩
  · rw [List.length_replicate]; exact b2
  · rw [List.mem_replicate] at hx; omega
theorem new_bad (w : World) (n : Int) (h : n < 1 ∨ 524288 < n) :
    Calls Try.prog 13 #[.int .i64 n] w fun e w' => e = .returned (.tuple #[.pointer none, .int .i64 7]) ∧ w = w' := by
  by_cases c : n < 1
  · go_enter Try.func13, Try.ntmps13
    go_wp2_with fail
    go_ret2
    exact ⟨rfl, rfl⟩
  · have h' : 524288 < n := by omega
    clear h
    go_enter Try.func13, Try.ntmps13
    go_wp2_with fail
    go_ret2
    exact ⟨rfl, rfl⟩
theorem zero22 : ∀ w, (zeroValue 22).run Try.prog w = .ok (.int .u64 0) w := fun w => by kernel_rfl
theorem Own.setCells {T : TypeId} {w : World} {g r : Nat} {xs : List Int} (h : Own T w g r xs) (hT : T ≠ 22) (o : Nat) (ys : List Int) (hl : o + ys.length ≤ xs.length) (hy : ∀ y ∈ ys, 0 ≤ y ∧ y ≤ 18446744073709551615) :
    Own T (w.setCells r o (ys.map (Value.int .u64))) g r (Rw.over xs o ys) := by
  have e := Rw.length_over xs o ys hl
  refine ⟨?_, Rw.setCells_row ys w o xs h.row hl, by rw [e]; exact h.small, ?_⟩
  · rw [e]; exact Rw.setCells_far (h.ne hT) _ _ _ h.obj
  · intro x hx
    simp only [Rw.over, List.mem_append] at hx
    rcases hx with hx | hx | hx
    · exact h.rng x (List.mem_of_mem_take hx)
    · exact hy x hx
    · exact h.rng x (List.mem_of_mem_drop hx)
/-- What a clearing tells and leaves. -/
def clearE (n : Nat) (i m : Int) : Int := if m < 0 then 7 else rowE n i m
def clearV (xs : List Int) (i m : Int) : List Int := if 0 ≤ m ∧ 0 ≤ i ∧ i ≤ xs.length ∧ m ≤ xs.length - i then Rw.over xs i.toNat (List.replicate m.toNat 0) else xs
theorem clear_any (w : World) (g r : Nat) (xs : List Int) (i m : Int) (h : Own 53 w g r xs) (m0 : -9223372036854775808 ≤ m) (m1 : m ≤ 9223372036854775807) :
    Calls Try.prog 17 #[.pointer (some ⟨g, 0, none⟩), .int .i64 i, .int .i64 m] w fun e w' => e = .returned (.int .i64 (clearE xs.length i m)) ∧ Own 53 w' g r (clearV xs i m) ∧ Kit.Mod [r] w w' := by
  have hr := row_any w g r xs i m h m0 m1
  have c := Kit.cells1 h.obj
  have hs := h.small
  unfold clearE clearV
  by_cases n0 : m < 0
  · rw [if_pos n0, if_neg (by omega)]
    go_enter Try.func17, Try.ntmps17
    go_wp2_with fail
    go_ret
    exact ⟨rfl, h, Kit.Mod.refl _ _⟩
  · rw [if_neg n0]
    unfold rowE at hr ⊢
    by_cases hi : 0 ≤ i ∧ i ≤ xs.length ∧ m ≤ xs.length - i
    · rw [if_pos hi] at hr ⊢
      rw [if_pos ⟨by omega, hi⟩]
      have Hr := Lib.hid hr
      clear hr
      obtain ⟨h0, h1, h2⟩ := hi
      obtain ⟨k, rfl⟩ := Int.eq_ofNat_of_zero_le h0
      obtain ⟨q, rfl⟩ := Int.eq_ofNat_of_zero_le (show 0 ≤ m by omega)
      have e1 : (k : Int).toNat = k := Int.toNat_natCast k
      have e2 : (q : Int).toNat = q := Int.toNat_natCast q
      rw [e1, e2]
      clear e1 e2
      by_cases hq : q = 0
      · subst hq
        have hcl := fun a c => Rw.cleared_none Try.prog w 43 0 22 Try.underlying43 a c
        go_enter Try.func17, Try.ntmps17
        go_wp2_with fail
        refine (Hr.out).mono ?_; rintro e w' ⟨rfl, rfl⟩
        by_cases hk : xs.length = k
        all_goals
          go_wp2_with fail
          go_ret
          exact ⟨rfl, by rw [List.replicate_zero, Rw.over_nil]; exact h, Kit.Mod.refl _ _⟩
      · have hcl := Rw.cleared Try.prog h.row 43 0 Try.underlying43 zero22 k q (xs.length - k) (by omega) (by omega)
        go_enter Try.func17, Try.ntmps17
        go_wp2_with fail
        refine (Hr.out).mono ?_; rintro e w' ⟨rfl, rfl⟩
        go_wp2_with fail
        go_ret
        rw [← List.map_replicate]
        exact ⟨rfl, h.setCells (by decide) k _ (by simp; omega) (fun y hy => by rw [List.mem_replicate] at hy; omega), Rw.setCells_mod _ _ _ _ _ (Kit.Mod.refl _ _) (.inl (by simp))⟩
    · rw [if_neg hi] at hr ⊢
      rw [if_neg (by omega)]
      have Hr := Lib.hid hr
      clear hr hi
      go_enter Try.func17, Try.ntmps17
      go_wp2_with fail
      refine (Hr.out).mono ?_; rintro e w' ⟨rfl, rfl⟩
      go_wp2_with fail
      go_ret
      exact ⟨rfl, h, Kit.Mod.refl _ _⟩
/-- What a move tells and leaves. -/
def moveE (n : Nat) (to from_ m : Int) : Int := if m < 0 then 7 else if rowE n to m = 0 ∧ rowE n from_ m = 0 then 0 else 4
def moveV (xs : List Int) (to from_ m : Int) : List Int := if moveE xs.length to from_ m = 0 then Rw.over xs to.toNat ((xs.drop from_.toNat).take m.toNat) else xs
theorem move_ok (w : World) (g r : Nat) (xs : List Int) (a b n : Nat) (h : Own 53 w g r xs) (h1 : a + n ≤ xs.length) (h2 : b + n ≤ xs.length) (n0 : 0 < n) :
    Calls Try.prog 12 #[.pointer (some ⟨g, 0, none⟩), .int .i64 a, .int .i64 b, .int .i64 n] w fun e w' => e = .returned (.int .i64 0) ∧ Own 53 w' g r (Rw.over xs a ((xs.drop b).take n)) ∧ Kit.Mod [r] w w' := by
  have hs := h.small
  have ha := row_any w g r xs a n h (by omega) (by omega)
  have hb := row_any w g r xs b n h (by omega) (by omega)
  unfold rowE at ha hb
  rw [if_pos (by omega)] at ha hb
  have Ha := Lib.hid ha
  have Hb := Lib.hid hb
  clear ha hb
  have c := Kit.cells1 h.obj
  go_enter Try.func12, Try.ntmps12
  go_wp2_with fail
  refine (Ha.out).mono ?_; rintro e w' ⟨rfl, rfl⟩
  go_wp2_with fail
  refine (Hb.out).mono ?_; rintro e w' ⟨rfl, rfl⟩
  go_wp2_with fail
  have s1 : IntKind.i64.wrap ((a : Int) + n) = (a : Int) + n := IntWalk.i64_in _ (by omega)
  have s2 : IntKind.i64.wrap ((b : Int) + n) = (b : Int) + n := IntWalk.i64_in _ (by omega)
  have s3 : (0 : Int) ≤ (a : Int) + n := by omega
  have s4 : (0 : Int) ≤ (b : Int) + n := by omega
  have s5 : ((a : Int) + n).toNat = a + n := by omega
  have s6 : ((b : Int) + n).toNat = b + n := by omega
  have s7 : (a : Int) + n ≤ (xs.length : Int) := by omega
  have s8 : (b : Int) + n ≤ (xs.length : Int) := by omega
  have s9 : (a : Int) ≤ (a : Int) + n := by omega
  have s10 : (b : Int) ≤ (b : Int) + n := by omega
  have s11 : (xs.length = a) = False := by simp; omega
  have s12 : (xs.length = b) = False := by simp; omega
  go_still_tail 18, (by kernel_rfl)
  change wpList _ _ _ _ _ w.drew
  clear s1 s2 s3 s4 s5 s6 s7 s8 s9 s10 s11 s12
  have hd : Own 53 w.drew g r xs := ⟨h.obj, h.row, h.small, h.rng⟩
  have hm : Kit.Mod [r] w w.drew := (Kit.Mod.refl _ _).drew
  generalize w.drew = w2 at hd hm ⊢
  have Hd := Lib.hid hd
  have Hm := Lib.hid hm
  have hcp := Rw.copied Try.prog hd.row 43 3 Try.underlying43 (by kernel_rfl) a b n (xs.length - a) (xs.length - b) h1 h2
  obtain ⟨ys, hys⟩ : ∃ ys, ys = ((xs.drop b).take n).map (Value.int .u64) := ⟨_, rfl⟩
  rw [← hys] at hcp
  have HY := Lib.hid hys
  clear hys hd hm
  go_wp2_with fail
  go_ret
  rw [HY.out]
  have hl : ((xs.drop b).take n).length = n := by simp; omega
  exact ⟨rfl, Own.setCells Hd (by decide) a _ (by rw [hl]; exact h1) (fun y hy => h.rng y (List.mem_of_mem_drop (List.mem_of_mem_take hy))), Rw.setCells_mod _ _ _ _ _ Hm (.inl (by simp))⟩
theorem move_none (w : World) (g r : Nat) (xs : List Int) (a b : Nat) (h : Own 53 w g r xs) (h1 : a ≤ xs.length) (h2 : b ≤ xs.length) :
    Calls Try.prog 12 #[.pointer (some ⟨g, 0, none⟩), .int .i64 a, .int .i64 b, .int .i64 0] w fun e w' => e = .returned (.int .i64 0) ∧ Own 53 w' g r xs ∧ Kit.Mod [r] w w' := by
  have hs := h.small
  have ha := row_any w g r xs a 0 h (by omega) (by omega)
  have hb := row_any w g r xs b 0 h (by omega) (by omega)
  unfold rowE at ha hb
  rw [if_pos (by omega)] at ha hb
  have Ha := Lib.hid ha
  have Hb := Lib.hid hb
  clear ha hb
  have c := Kit.cells1 h.obj
  rcases Nat.lt_or_ge a xs.length with p1 | p1
  · have q1 : (xs.length = a) = False := by simp; omega
    rcases Nat.lt_or_ge b xs.length with p2 | p2
    · have q2 : (xs.length = b) = False := by simp; omega
      go_enter Try.func12, Try.ntmps12
      go_wp2_with fail
      refine (Ha.out).mono ?_; rintro e w' ⟨rfl, rfl⟩
      go_wp2_with fail
      refine (Hb.out).mono ?_; rintro e w' ⟨rfl, rfl⟩
      go_wp2_with fail
      have s1 : IntKind.i64.wrap (a : Int) = (a : Int) := IntWalk.i64_in _ (by omega)
      have s2 : IntKind.i64.wrap (b : Int) = (b : Int) := IntWalk.i64_in _ (by omega)
      have s5 : IntKind.i64.wrap ((a : Int) + 0) = (a : Int) := IntWalk.i64_in _ (by omega)
      have s6 : IntKind.i64.wrap ((b : Int) + 0) = (b : Int) := IntWalk.i64_in _ (by omega)
      have s3 : (0 : Int) ≤ (a : Int) := by omega
      have s4 : (0 : Int) ≤ (b : Int) := by omega
      have s7 : (a : Int) ≤ (xs.length : Int) := by omega
      have s8 : (b : Int) ≤ (xs.length : Int) := by omega
      go_still_tail 18, (by kernel_rfl)
      change wpList _ _ _ _ _ w.drew
      clear s1 s2 s3 s4 s5 s6 s7 s8
      have hd : Own 53 w.drew g r xs := ⟨h.obj, h.row, h.small, h.rng⟩
      have hm : Kit.Mod [r] w w.drew := (Kit.Mod.refl _ _).drew
      generalize w.drew = w2 at hd hm ⊢
      have Hd := Lib.hid hd
      have Hm := Lib.hid hm
      clear hd hm
      have hcp := fun (d a : Option Addr) (c1 c2 : Nat) => run_copy_none (P := Try.prog) w2 43 43 3 22 d a 0 c1 0 c2 Try.underlying43 (by kernel_rfl) rfl
      go_wp2_with fail
      go_ret
      exact ⟨rfl, Hd, Hm⟩
    · obtain rfl : b = xs.length := by omega
      go_enter Try.func12, Try.ntmps12
      go_wp2_with fail
      refine (Ha.out).mono ?_; rintro e w' ⟨rfl, rfl⟩
      go_wp2_with fail
      refine (Hb.out).mono ?_; rintro e w' ⟨rfl, rfl⟩
      go_wp2_with fail
      have s1 : IntKind.i64.wrap (a : Int) = (a : Int) := IntWalk.i64_in _ (by omega)
      have s2 : IntKind.i64.wrap (xs.length : Int) = (xs.length : Int) := IntWalk.i64_in _ (by omega)
      have s5 : IntKind.i64.wrap ((a : Int) + 0) = (a : Int) := IntWalk.i64_in _ (by omega)
      have s6 : IntKind.i64.wrap ((xs.length : Int) + 0) = (xs.length : Int) := IntWalk.i64_in _ (by omega)
      have s3 : (0 : Int) ≤ (a : Int) := by omega
      have s4 : (0 : Int) ≤ (xs.length : Int) := by omega
      have s7 : (a : Int) ≤ (xs.length : Int) := by omega
      have s8 : (xs.length : Int) ≤ (xs.length : Int) := by omega
      go_still_tail 18, (by kernel_rfl)
      change wpList _ _ _ _ _ w.drew
      clear s1 s2 s3 s4 s5 s6 s7 s8
      have hd : Own 53 w.drew g r xs := ⟨h.obj, h.row, h.small, h.rng⟩
      have hm : Kit.Mod [r] w w.drew := (Kit.Mod.refl _ _).drew
      generalize w.drew = w2 at hd hm ⊢
      have Hd := Lib.hid hd
      have Hm := Lib.hid hm
      clear hd hm
      have hcp := fun (d a : Option Addr) (c1 c2 : Nat) => run_copy_none (P := Try.prog) w2 43 43 3 22 d a 0 c1 0 c2 Try.underlying43 (by kernel_rfl) rfl
      go_wp2_with fail
      go_ret
      exact ⟨rfl, Hd, Hm⟩
  · obtain rfl : a = xs.length := by omega
    rcases Nat.lt_or_ge b xs.length with p2 | p2
    · have q2 : (xs.length = b) = False := by simp; omega
      go_enter Try.func12, Try.ntmps12
      go_wp2_with fail
      refine (Ha.out).mono ?_; rintro e w' ⟨rfl, rfl⟩
      go_wp2_with fail
      refine (Hb.out).mono ?_; rintro e w' ⟨rfl, rfl⟩
      go_wp2_with fail
      have s1 : IntKind.i64.wrap (xs.length : Int) = (xs.length : Int) := IntWalk.i64_in _ (by omega)
      have s2 : IntKind.i64.wrap (b : Int) = (b : Int) := IntWalk.i64_in _ (by omega)
      have s5 : IntKind.i64.wrap ((xs.length : Int) + 0) = (xs.length : Int) := IntWalk.i64_in _ (by omega)
      have s6 : IntKind.i64.wrap ((b : Int) + 0) = (b : Int) := IntWalk.i64_in _ (by omega)
      have s3 : (0 : Int) ≤ (xs.length : Int) := by omega
      have s4 : (0 : Int) ≤ (b : Int) := by omega
      have s7 : (xs.length : Int) ≤ (xs.length : Int) := by omega
      have s8 : (b : Int) ≤ (xs.length : Int) := by omega
      go_still_tail 18, (by kernel_rfl)
      change wpList _ _ _ _ _ w.drew
      clear s1 s2 s3 s4 s5 s6 s7 s8
      have hd : Own 53 w.drew g r xs := ⟨h.obj, h.row, h.small, h.rng⟩
      have hm : Kit.Mod [r] w w.drew := (Kit.Mod.refl _ _).drew
      generalize w.drew = w2 at hd hm ⊢
      have Hd := Lib.hid hd
      have Hm := Lib.hid hm
      clear hd hm
      have hcp := fun (d a : Option Addr) (c1 c2 : Nat) => run_copy_none (P := Try.prog) w2 43 43 3 22 d a 0 c1 0 c2 Try.underlying43 (by kernel_rfl) rfl
      go_wp2_with fail
      go_ret
      exact ⟨rfl, Hd, Hm⟩
    · obtain rfl : b = xs.length := by omega
      go_enter Try.func12, Try.ntmps12
      go_wp2_with fail
      refine (Ha.out).mono ?_; rintro e w' ⟨rfl, rfl⟩
      go_wp2_with fail
      refine (Hb.out).mono ?_; rintro e w' ⟨rfl, rfl⟩
      go_wp2_with fail
      have s1 : IntKind.i64.wrap (xs.length : Int) = (xs.length : Int) := IntWalk.i64_in _ (by omega)
      have s2 : IntKind.i64.wrap (xs.length : Int) = (xs.length : Int) := IntWalk.i64_in _ (by omega)
      have s5 : IntKind.i64.wrap ((xs.length : Int) + 0) = (xs.length : Int) := IntWalk.i64_in _ (by omega)
      have s6 : IntKind.i64.wrap ((xs.length : Int) + 0) = (xs.length : Int) := IntWalk.i64_in _ (by omega)
      have s3 : (0 : Int) ≤ (xs.length : Int) := by omega
      have s4 : (0 : Int) ≤ (xs.length : Int) := by omega
      have s7 : (xs.length : Int) ≤ (xs.length : Int) := by omega
      have s8 : (xs.length : Int) ≤ (xs.length : Int) := by omega
      go_still_tail 18, (by kernel_rfl)
      change wpList _ _ _ _ _ w.drew
      clear s1 s2 s3 s4 s5 s6 s7 s8
      have hd : Own 53 w.drew g r xs := ⟨h.obj, h.row, h.small, h.rng⟩
      have hm : Kit.Mod [r] w w.drew := (Kit.Mod.refl _ _).drew
      generalize w.drew = w2 at hd hm ⊢
      have Hd := Lib.hid hd
      have Hm := Lib.hid hm
      clear hd hm
      have hcp := fun (d a : Option Addr) (c1 c2 : Nat) => run_copy_none (P := Try.prog) w2 43 43 3 22 d a 0 c1 0 c2 Try.underlying43 (by kernel_rfl) rfl
      go_wp2_with fail
      go_ret
      exact ⟨rfl, Hd, Hm⟩
theorem move_any (w : World) (g r : Nat) (xs : List Int) (a b n : Int) (h : Own 53 w g r xs) (m0 : -9223372036854775808 ≤ n) (m1 : n ≤ 9223372036854775807) :
    Calls Try.prog 12 #[.pointer (some ⟨g, 0, none⟩), .int .i64 a, .int .i64 b, .int .i64 n] w fun e w' => e = .returned (.int .i64 (moveE xs.length a b n)) ∧ Own 53 w' g r (moveV xs a b n) ∧ Kit.Mod [r] w w' := by
  have hs := h.small
  unfold moveV
  unfold moveE
  by_cases n0 : n < 0
  · rw [if_pos n0, if_neg (by decide)]
    go_enter Try.func12, Try.ntmps12
    go_wp2_with fail
    go_ret
    exact ⟨rfl, h, Kit.Mod.refl _ _⟩
  · rw [if_neg n0]
    have ha := row_any w g r xs a n h m0 m1
    have hb := row_any w g r xs b n h m0 m1
    by_cases c : rowE xs.length a n = 0 ∧ rowE xs.length b n = 0
    · rw [if_pos c, if_pos rfl]
      have f : ∀ i m, rowE xs.length i m = 0 → 0 ≤ i ∧ i ≤ xs.length ∧ m ≤ xs.length - i := fun i m hr => by
        unfold rowE at hr
        by_cases d : 0 ≤ i ∧ i ≤ xs.length ∧ m ≤ xs.length - i
        · exact d
        · rw [if_neg d] at hr; omega
      obtain ⟨fa0, fa1, fa2⟩ := f a n c.1
      obtain ⟨fb0, fb1, fb2⟩ := f b n c.2
      obtain ⟨a, rfl⟩ := Int.eq_ofNat_of_zero_le fa0
      obtain ⟨b, rfl⟩ := Int.eq_ofNat_of_zero_le fb0
      obtain ⟨n, rfl⟩ := Int.eq_ofNat_of_zero_le (show 0 ≤ n by omega)
      simp only [Int.toNat_natCast]
      by_cases q : n = 0
      · subst q
        rw [List.take_zero, Rw.over_nil]
        exact move_none w g r xs a b h (by omega) (by omega)
      · exact move_ok w g r xs a b n h (by omega) (by omega) (by omega)
    · rw [if_neg c, if_neg (by decide)]
      have r0 : ∀ i m, rowE xs.length i m = 0 ∨ rowE xs.length i m = 4 := fun i m => by
        unfold rowE
        by_cases d : 0 ≤ i ∧ i ≤ xs.length ∧ m ≤ xs.length - i
        · rw [if_pos d]; exact .inl rfl
        · rw [if_neg d]; exact .inr rfl
      have three : (rowE xs.length a n = 0 ∧ rowE xs.length b n = 4) ∨ (rowE xs.length a n = 4 ∧ rowE xs.length b n = 0) ∨ (rowE xs.length a n = 4 ∧ rowE xs.length b n = 4) := by
        rcases r0 a n with x | x <;> rcases r0 b n with y | y
        · exact absurd ⟨x, y⟩ c
        · exact .inl ⟨x, y⟩
        · exact .inr (.inl ⟨x, y⟩)
        · exact .inr (.inr ⟨x, y⟩)
      clear r0 c
      rcases three with ⟨x, y⟩ | ⟨x, y⟩ | ⟨x, y⟩
      all_goals
        rw [x] at ha
        rw [y] at hb
        have Ha := Lib.hid ha
        have Hb := Lib.hid hb
        clear ha hb x y
        go_enter Try.func12, Try.ntmps12
        go_wp2_with fail
        refine (Ha.out).mono ?_; rintro e w' ⟨rfl, rfl⟩
        go_wp2_with fail
        refine (Hb.out).mono ?_; rintro e w' ⟨rfl, rfl⟩
        go_wp2_with fail
        go_ret
        exact ⟨rfl, h, Kit.Mod.refl _ _⟩
end Go.Proofs.Ytleockiemeabdaa.Ar
