/- The arena's calls, one contract each: what each tells and what it leaves of memory. -/
import Derived.Test.YtedkackmccnkfaaProg
import Derived.Test.YtedkackmccnkfaaRw
import Derived.StillTailTactics
import Derived.IntWalk
set_option linter.unusedVariables false
namespace Go.Proofs.Ytedkackmccnkfaa.Ar
open Go.RowKit
open Rw (row)
/-- An arena that lies at block g, its words at block r: a struct of type T with one slice of words. -/
structure Own (T : TypeId) (w : World) (g r : Nat) (xs : List Int) : Prop where
  obj : w.heap[g]? = some (.cells #[.slice (some ⟨r, 0, none⟩) xs.length xs.length] T (0, 0))
  row : w.heap[r]? = some (row .u64 40 xs)
  small : xs.length ≤ 524288
  rng : ∀ x ∈ xs, 0 ≤ x ∧ x ≤ 18446744073709551615
section
variable {T : TypeId} {w w' : World} {g r : Nat} {xs : List Int}
theorem Own.ne (h : Own T w g r xs) (hT : T ≠ 40) : g ≠ r := by
  rintro rfl
  have := h.obj.symm.trans h.row
  simp only [Rw.row, Option.some.injEq, Obj.cells.injEq] at this
  exact hT this.2.1
theorem Own.keep (h : Own T w g r xs) {S : List Nat} (m : Kit.Mod S w w') (hg : g ∉ S) (hr : r ∉ S) : Own T w' g r xs := ⟨Kit.keep h.obj m hg, Kit.keep h.row m hr, h.small, h.rng⟩
theorem Own.keepB (h : Own T w g r xs) (m : Below w.heap.size w w') : Own T w' g r xs := ⟨Kit.keepB h.obj m, Kit.keepB h.row m, h.small, h.rng⟩
end
/-- What a place is: OK or a range error. -/
def atE (n : Nat) (i : Int) : Int := if 0 ≤ i ∧ i < n then 0 else 4
def rowE (n : Nat) (i m : Int) : Int := if 0 ≤ i ∧ i ≤ n ∧ m ≤ n - i then 0 else 4
theorem at_any (w : World) (g r : Nat) (xs : List Int) (i : Int) (h : Own 71 w g r xs) :
    Calls Try.prog 33 #[.pointer (some ⟨g, 0, none⟩), .int .i64 i] w fun e w' => e = .returned (.int .i64 (atE xs.length i)) ∧ w = w' := by
  have c := Kit.cells1 h.obj
  have hs := h.small
  unfold atE
  by_cases hi : 0 ≤ i ∧ i < xs.length
  · rw [if_pos hi]
    obtain ⟨h0, h1⟩ := hi
    go_enter Try.func33, Try.ntmps33
    go_wp2_with fail
    go_ret
    exact ⟨rfl, rfl⟩
  · rw [if_neg hi]
    by_cases h0 : i < 0
    · go_enter Try.func33, Try.ntmps33
      go_wp2_with fail
      go_ret
      exact ⟨rfl, rfl⟩
    · have h1 : xs.length ≤ i := by omega
      clear hi
      go_enter Try.func33, Try.ntmps33
      go_wp2_with fail
      go_ret
      exact ⟨rfl, rfl⟩
/-- What is read. -/
def readV (xs : List Int) (i : Int) : Int := if 0 ≤ i ∧ i < xs.length then xs.getD i.toNat 0 else 0
theorem read_any (w : World) (g r : Nat) (xs : List Int) (i : Int) (h : Own 71 w g r xs) :
    Calls Try.prog 19 #[.pointer (some ⟨g, 0, none⟩), .int .i64 i] w fun e w' => e = .returned (.tuple #[.int .u64 (readV xs i), .int .i64 (atE xs.length i)]) ∧ w = w' := by
  have ha := at_any w g r xs i h
  have c := Kit.cells1 h.obj
  have hs := h.small
  unfold readV
  unfold atE at ha ⊢
  by_cases hi : 0 ≤ i ∧ i < xs.length
  · rw [if_pos hi] at ha ⊢
    rw [if_pos hi]
    have Ha := Lib.hid ha
    clear ha
    obtain ⟨k, rfl⟩ := Int.eq_ofNat_of_zero_le hi.1
    have hk : k < xs.length := by omega
    have cv := Rw.cell h.row k hk
    clear hi
    go_enter Try.func19, Try.ntmps19
    go_wp2_with fail
    refine (Ha.out).mono ?_; rintro e w' ⟨rfl, rfl⟩
    go_wp2_with fail
    go_ret2
    exact ⟨by simp [hk], rfl⟩
  · rw [if_neg hi] at ha ⊢
    rw [if_neg hi]
    have Ha := Lib.hid ha
    clear ha hi
    go_enter Try.func19, Try.ntmps19
    go_wp2_with fail
    refine (Ha.out).mono ?_; rintro e w' ⟨rfl, rfl⟩
    go_wp2_with fail
    go_ret2
    exact ⟨rfl, rfl⟩
/-- What is written. -/
def writeV (xs : List Int) (i v : Int) : List Int := if 0 ≤ i ∧ i < xs.length then xs.set i.toNat v else xs
theorem writeV_length (xs : List Int) (i v : Int) : (writeV xs i v).length = xs.length := by unfold writeV; split <;> simp
theorem Own.set {T : TypeId} {w : World} {g r : Nat} {xs : List Int} (h : Own T w g r xs) (hT : T ≠ 40) (k : Nat) (v : Int) (v0 : 0 ≤ v) (v1 : v ≤ 18446744073709551615) : Own T (w.setCell ⟨r, k, none⟩ (.int .u64 v)) g r (xs.set k v) := by
  refine ⟨?_, Rw.set h.row k v, by rw [List.length_set]; exact h.small, ?_⟩
  · rw [List.length_set]
    exact Kit.set_far h.obj (h.ne hT) _
  · intro x hx
    rcases List.mem_or_eq_of_mem_set hx with hm | hm
    · exact h.rng x hm
    · subst hm; exact ⟨v0, v1⟩
theorem write_any (w : World) (g r : Nat) (xs : List Int) (i v : Int) (h : Own 71 w g r xs) (v0 : 0 ≤ v) (v1 : v ≤ 18446744073709551615) :
    Calls Try.prog 15 #[.pointer (some ⟨g, 0, none⟩), .int .i64 i, .int .u64 v] w fun e w' => e = .returned (.int .i64 (atE xs.length i)) ∧ Own 71 w' g r (writeV xs i v) ∧ Kit.Mod [r] w w' := by
  have ha := at_any w g r xs i h
  have c := Kit.cells1 h.obj
  have hs := h.small
  unfold writeV
  unfold atE at ha ⊢
  by_cases hi : 0 ≤ i ∧ i < xs.length
  · rw [if_pos hi] at ha ⊢
    rw [if_pos hi]
    have Ha := Lib.hid ha
    clear ha
    obtain ⟨k, rfl⟩ := Int.eq_ofNat_of_zero_le hi.1
    have hk : k < xs.length := by omega
    have cv := Rw.cell h.row k hk
    have fv := Rw.frozen h.row k
    clear hi
    go_enter Try.func15, Try.ntmps15
    go_wp2_with fail
    refine (Ha.out).mono ?_; rintro e w' ⟨rfl, rfl⟩
    go_wp2_with fail
    go_ret
    exact ⟨rfl, h.set (by decide) k v v0 v1, (Kit.Mod.refl _ _).setCell (.inl (by simp)) _⟩
  · rw [if_neg hi] at ha ⊢
    rw [if_neg hi]
    have Ha := Lib.hid ha
    clear ha hi
    go_enter Try.func15, Try.ntmps15
    go_wp2_with fail
    refine (Ha.out).mono ?_; rintro e w' ⟨rfl, rfl⟩
    go_wp2_with fail
    go_ret
    exact ⟨rfl, h, Kit.Mod.refl _ _⟩
theorem len_any (w : World) (g r : Nat) (xs : List Int) (h : Own 71 w g r xs) :
    Calls Try.prog 32 #[.pointer (some ⟨g, 0, none⟩)] w fun e w' => e = .returned (.int .i64 xs.length) ∧ w = w' := by
  have c := Kit.cells1 h.obj
  go_enter Try.func32, Try.ntmps32
  go_wp2_with fail
  go_ret
  exact ⟨rfl, rfl⟩
theorem infoU : (Try.prog.info? 40).map (fun i => (i.zero, i.size, i.bytes)) = some (some (.int .u64 0), 1, 8) := by kernel_rfl
theorem new_ok (w : World) (n : Int) (n1 : 1 ≤ n) (n2 : n ≤ 524288) :
    Calls Try.prog 12 #[.int .i64 n] w fun e w' => ∃ g r, e = .returned (.tuple #[.pointer (some ⟨g, 0, none⟩), .int .i64 0]) ∧ w.heap.size ≤ g ∧ w.heap.size ≤ r ∧ Own 71 w' g r (List.replicate n.toNat 0) ∧ Below w.heap.size w w' := by
  have hmk := Rw.made Try.prog w 69 40 .u64 8 Try.underlying69 infoU n (by omega) (by omega) (by omega)
  go_enter Try.func12, Try.ntmps12
  go_wp2_with fail
  go_ret2
  have b1 := Kit.new_blk w (Rw.row .u64 40 (List.replicate n.toNat 0))
  have b2 := Kit.new_blk2 w (Rw.row .u64 40 (List.replicate n.toNat 0)) (.cells #[.slice (some ⟨w.heap.size, 0, none⟩) n.toNat n.toNat] 71 (0, 0))
  refine ⟨w.heap.size + 1, w.heap.size, rfl, by omega, by omega, ⟨?_, Kit.keep_alloc b1 _, by simp; omega, fun x hx => ?_⟩, ((Below.refl _ _).alloc (Nat.le_refl _) _).alloc (by simp) _⟩
  · rw [List.length_replicate]; exact b2
  · rw [List.mem_replicate] at hx; omega
theorem new_bad (w : World) (n : Int) (h : n < 1 ∨ 524288 < n) :
    Calls Try.prog 12 #[.int .i64 n] w fun e w' => e = .returned (.tuple #[.pointer none, .int .i64 7]) ∧ w = w' := by
  by_cases c : n < 1
  · go_enter Try.func12, Try.ntmps12
    go_wp2_with fail
    go_ret2
    exact ⟨rfl, rfl⟩
  · have h' : 524288 < n := by omega
    clear h
    go_enter Try.func12, Try.ntmps12
    go_wp2_with fail
    go_ret2
    exact ⟨rfl, rfl⟩
theorem zeroU : ∀ w, (zeroValue 40).run Try.prog w = .ok (.int .u64 0) w := fun w => by kernel_rfl
end Go.Proofs.Ytedkackmccnkfaa.Ar
