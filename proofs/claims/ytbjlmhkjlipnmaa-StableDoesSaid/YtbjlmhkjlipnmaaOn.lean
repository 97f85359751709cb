/- Two slices of numbers that a law gathers, told apart. No condition. -/
import Derived.Test.YtbjlmhkjlipnmaaPu
import Derived.Maps.AppendAt
set_option linter.unusedVariables false
set_option linter.unusedSimpArgs false
namespace Go.Proofs.Ytbjlmhkjlipnmaa.On
open Go.RowKit
open Sr Tb Tf Tg Tm Ta Fu
structure Two (w : World) (base : Nat) (va : Value) (ps : List Int) (vb : Value) (qs : List Int) : Prop where
  one : w.ownsRow base 3 1 va ps.length (ints ps)
  two : w.ownsRow base 3 1 vb qs.length (ints qs)
  ne : va.ownBlock = none ∨ va.ownBlock ≠ vb.ownBlock
section
variable {w w' : World} {base : Nat} {va vb : Value} {ps qs : List Int}
theorem Two.start (w : World) (base : Nat) : Two w base (.slice none 0 0) [] (.slice none 0 0) [] := ⟨World.ownsRow_nil _ _ _ _, World.ownsRow_nil _ _ _ _, .inl rfl⟩
theorem Two.mod (h : Two w base va ps vb qs) {S : List Nat} (m : Kit.Mod S w w') (hs : ∀ x, x ∈ S → x < base) : Two w' base va ps vb qs := ⟨own_mod h.one m hs, own_mod h.two m hs, h.ne⟩
theorem Two.alloc (h : Two w base va ps vb qs) (o : Obj) : Two (w.alloc o) base va ps vb qs := ⟨h.one.alloc o, h.two.alloc o, h.ne⟩
theorem ints_append (ps : List Int) (x : Int) : ints (ps ++ [x]) = ints ps ++ [.int .i64 x] := by simp [ints]
theorem Two.push1 (h : Two w base va ps vb qs) (o : Obj) (x : Int) {v' : Value} (ho : w'.ownsRow base 3 1 v' (ps.length + 1) (ints ps ++ [.int .i64 x])) (hg : (w.alloc o).grownBy w' va.ownBlock) (hat : v'.ownBlock = va.ownBlock ∨ v'.ownBlock = some (w.alloc o).heap.size) : Two w' base v' (ps ++ [x]) vb qs := by
  refine ⟨by rw [List.length_append, ints_append]; exact ho, (h.two.alloc o).kept hg ?_, ?_⟩
  · rcases h.ne with e | e
    · cases hb : vb.ownBlock with
      | none => exact .inl rfl
      | some k => right; rw [e]; simp
    · exact .inr (fun e2 => e e2.symm)
  · rcases hat with e | e
    · rw [e]; exact h.ne
    · right
      rw [e]
      intro e2
      have := (h.two.lt _ e2.symm).2
      simp at this; omega
theorem Two.push2 (h : Two w base va ps vb qs) (o : Obj) (x : Int) {v' : Value} (ho : w'.ownsRow base 3 1 v' (qs.length + 1) (ints qs ++ [.int .i64 x])) (hg : (w.alloc o).grownBy w' vb.ownBlock) (hat : v'.ownBlock = vb.ownBlock ∨ v'.ownBlock = some (w.alloc o).heap.size) : Two w' base va ps v' (qs ++ [x]) := by
  refine ⟨(h.one.alloc o).kept hg h.ne, by rw [List.length_append, ints_append]; exact ho, ?_⟩
  rcases hat with e | e
  · rw [e]; exact h.ne
  · cases ha : va.ownBlock with
    | none => exact .inl rfl
    | some k =>
      right
      rw [e]
      intro e2
      have := (h.one.lt k ha).2
      simp at e2 this; omega
theorem ints_get (ps : List Int) (k : Nat) (h : k < ps.length) : (ints ps)[k]? = some (.int .i64 (ps.getD k 0)) := by simp [ints, h, List.getD_eq_getElem?_getD]
end
end Go.Proofs.Ytbjlmhkjlipnmaa.On
