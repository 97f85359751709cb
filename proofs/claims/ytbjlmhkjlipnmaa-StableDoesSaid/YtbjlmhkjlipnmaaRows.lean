/-
  No cell of these rows narrows 'for every input' (looked for: loops, veiled, ifaces, maps, wideKeys, modest, calm, conditions, laid).
  DERIVED. THE GIVEN ROWS OF THIS SEAT. 5 by the template 'for every input the law returns true; each argument reads behind the call as it read before'; 0 by the template 'total and deterministic' (their statements: YtbjlmhkjlipnmaaTotals.lean).
  GIVEN WITH THE SEED: the statements are not yours to turn. If you find one false, say at which input.
  Laid BY PROGRAM, IN A SANDBOX (cutbox-rows.mjs): the forced cells as the released guide's own fill.sh prints them over the translation 76ba7b7a07ea795c… (all of the seat's roots in one cut). By AI agents, Wed Nov 11 2026. No macro, syntax, notation, axiom, sorry.
-/
import Derived.Test.YtbjlmhkjlipnmaaChecked
import GoSem.Claim
import GoSem.ClaimJoined
import GoSem.ClaimMapViews
import Derived.JoinedTies
import Derived.KernelRfl
namespace Go.Proofs.Ytbjlmhkjlipnmaa
/- THE CELL 'sum', in the pinned program and in every row, IS THE sha256 OF THE DUMP (.gsa) THAT YtbjlmhkjlipnmaaProg.lean LOADS. Nothing in Lean hashes anything: it is a label: what it is worth is what the hold of that sum in a sandbox is worth. -/
noncomputable def Try.pinned : Pinned := { name := "ytbjlmhkjlipnmaa", sum := "76ba7b7a07ea795c4f31cf1d9d82488ad8b4dc7d7ea722e04f8c4f8a49720737", checked := Try.checked }
namespace Rows
def none {H : Type} : Left H := { results := [], args := [] }

/-- 'middenlaw17.StableOnce': WHATEVER THE INPUT: true; the input reads as it did. -/
def stableOnceSpec : ChangeSpec := { name := "stableOnce", fn := fun _ => fun
  | [d1, d2] => { results := [.lit (.bool true)], args := [d1, d2] }
  | _ => none }
def stableOnceRow : OpenClaim := { program := "ytbjlmhkjlipnmaa", sum := "76ba7b7a07ea795c4f31cf1d9d82488ad8b4dc7d7ea722e04f8c4f8a49720737", func := "midden/middenlaw17.StableOnce", spec := "stableOnce", apart := false }
def StableOnceSaid : Prop := stableOnceRow.holds Try.pinned (OpenSpec.ofChange stableOnceSpec)

/-- ITS FALSE NEIGHBOUR: 'it returns false'. Refute it at one input. -/
def stableOnceWrong : ChangeSpec := { name := "stableOnce", fn := fun _ => fun
  | [d1, d2] => { results := [.lit (.bool false)], args := [d1, d2] }
  | _ => none }
def StableOnceWrongFalsely : Prop := stableOnceRow.holds Try.pinned (OpenSpec.ofChange stableOnceWrong)

/-- 'middenlaw17.StableFull': WHATEVER THE INPUT: true; the input reads as it did. -/
def stableFullSpec : ChangeSpec := { name := "stableFull", fn := fun _ => fun
  | [d1, d2] => { results := [.lit (.bool true)], args := [d1, d2] }
  | _ => none }
def stableFullRow : OpenClaim := { program := "ytbjlmhkjlipnmaa", sum := "76ba7b7a07ea795c4f31cf1d9d82488ad8b4dc7d7ea722e04f8c4f8a49720737", func := "midden/middenlaw17.StableFull", spec := "stableFull", apart := false }
def StableFullSaid : Prop := stableFullRow.holds Try.pinned (OpenSpec.ofChange stableFullSpec)

/-- ITS FALSE NEIGHBOUR: 'it returns false'. Refute it at one input. -/
def stableFullWrong : ChangeSpec := { name := "stableFull", fn := fun _ => fun
  | [d1, d2] => { results := [.lit (.bool false)], args := [d1, d2] }
  | _ => none }
def StableFullWrongFalsely : Prop := stableFullRow.holds Try.pinned (OpenSpec.ofChange stableFullWrong)

/-- 'middenlaw17.StableMoves': WHATEVER THE INPUT: true; the input reads as it did. -/
def stableMovesSpec : ChangeSpec := { name := "stableMoves", fn := fun _ => fun
  | [d1, d2] => { results := [.lit (.bool true)], args := [d1, d2] }
  | _ => none }
def stableMovesRow : OpenClaim := { program := "ytbjlmhkjlipnmaa", sum := "76ba7b7a07ea795c4f31cf1d9d82488ad8b4dc7d7ea722e04f8c4f8a49720737", func := "midden/middenlaw17.StableMoves", spec := "stableMoves", unfollowed := true, recurses := true, apart := false }
def StableMovesSaid : Prop := stableMovesRow.holds Try.pinned (OpenSpec.ofChange stableMovesSpec)

/-- ITS FALSE NEIGHBOUR: 'it returns false'. Refute it at one input. -/
def stableMovesWrong : ChangeSpec := { name := "stableMoves", fn := fun _ => fun
  | [d1, d2] => { results := [.lit (.bool false)], args := [d1, d2] }
  | _ => none }
def StableMovesWrongFalsely : Prop := stableMovesRow.holds Try.pinned (OpenSpec.ofChange stableMovesWrong)

/-- 'middenlaw17.StableDoes': WHATEVER THE INPUT: true; the input reads as it did. -/
def stableDoesSpec : ChangeSpec := { name := "stableDoes", fn := fun _ => fun
  | [d1, d2] => { results := [.lit (.bool true)], args := [d1, d2] }
  | _ => none }
def stableDoesRow : OpenClaim := { program := "ytbjlmhkjlipnmaa", sum := "76ba7b7a07ea795c4f31cf1d9d82488ad8b4dc7d7ea722e04f8c4f8a49720737", func := "midden/middenlaw17.StableDoes", spec := "stableDoes", unfollowed := true, recurses := true, apart := false }
def StableDoesSaid : Prop := stableDoesRow.holds Try.pinned (OpenSpec.ofChange stableDoesSpec)

/-- ITS FALSE NEIGHBOUR: 'it returns false'. Refute it at one input. -/
def stableDoesWrong : ChangeSpec := { name := "stableDoes", fn := fun _ => fun
  | [d1, d2] => { results := [.lit (.bool false)], args := [d1, d2] }
  | _ => none }
def StableDoesWrongFalsely : Prop := stableDoesRow.holds Try.pinned (OpenSpec.ofChange stableDoesWrong)

/-- 'middenlaw17.StableNone': WHATEVER THE INPUT: true; the input reads as it did. -/
def stableNoneSpec : ChangeSpec := { name := "stableNone", fn := fun _ => fun
  | [d] => { results := [.lit (.bool true)], args := [d] }
  | _ => none }
def stableNoneRow : OpenClaim := { program := "ytbjlmhkjlipnmaa", sum := "76ba7b7a07ea795c4f31cf1d9d82488ad8b4dc7d7ea722e04f8c4f8a49720737", func := "midden/middenlaw17.StableNone", spec := "stableNone", unfollowed := true, recurses := true, apart := false }
def StableNoneSaid : Prop := stableNoneRow.holds Try.pinned (OpenSpec.ofChange stableNoneSpec)

/-- ITS FALSE NEIGHBOUR: 'it returns false'. Refute it at one input. -/
def stableNoneWrong : ChangeSpec := { name := "stableNone", fn := fun _ => fun
  | [d] => { results := [.lit (.bool false)], args := [d] }
  | _ => none }
def StableNoneWrongFalsely : Prop := stableNoneRow.holds Try.pinned (OpenSpec.ofChange stableNoneWrong)

/- THE SECOND FORM. 'bulk': how many values and letters a reading holds, each counted each time it is reached (what is shared counts as often as it is met; a slice's spare places count too). A statement '..UptoSaid' is the law's where the arguments, and the package variables that the reading takes, are together of bulk at most 1048576: NARROWER than '..Said'. Prove '..Said' where nothing that the law and all that it calls make is longer than what came in: it says more and counts as full. Else prove '..UptoSaid'. A law counts once. -/
mutual
def uptoBulk {H : Type} : DataW H → Nat
  | .lit (.string bytes) => bytes.length + 1
  | .lit _ => 1
  | .nil => 1
  | .ptr d => uptoBulk d + 1
  | .slice elems spare => uptoBulkAll elems + uptoBulkAll spare + 1
  | .agg parts => uptoBulkAll parts + 1
  | .iface _ d => uptoBulk d + 1
  | .map entries => uptoBulkEntries entries + 1
  | .held _ => 1
def uptoBulkAll {H : Type} : List (DataW H) → Nat
  | [] => 0
  | d :: r => uptoBulk d + uptoBulkAll r
def uptoBulkEntries {H : Type} : List (Lit × DataW H) → Nat
  | [] => 0
  | x :: r => uptoBulkEntry x + uptoBulkEntries r
def uptoBulkEntry {H : Type} : Lit × DataW H → Nat
  | (.string bytes, d) => bytes.length + uptoBulk d + 1
  | (_, d) => uptoBulk d + 1
 end
def uptoSmall : (H : Type) → List (DataW H) → Bool := fun _ ds => decide (uptoBulkAll ds ≤ 1048576)
def OpenSpec.upto (s : _root_.Go.ChangeSpec) : _root_.Go.OpenSpec := { _root_.Go.OpenSpec.ofChange s with cond := some uptoSmall }

/-- 'middenlaw17.StableOnce', WHERE WHAT IT READS IS OF BULK AT MOST 1048576: true; the input reads as it did. -/
def stableOnceUptoRow : OpenClaim := { program := "ytbjlmhkjlipnmaa", sum := "76ba7b7a07ea795c4f31cf1d9d82488ad8b4dc7d7ea722e04f8c4f8a49720737", func := "midden/middenlaw17.StableOnce", spec := "stableOnce", apart := false, narrowed := true }
def StableOnceUptoSaid : Prop := stableOnceUptoRow.holds Try.pinned (OpenSpec.upto stableOnceSpec)

/-- 'middenlaw17.StableFull', WHERE WHAT IT READS IS OF BULK AT MOST 1048576: true; the input reads as it did. -/
def stableFullUptoRow : OpenClaim := { program := "ytbjlmhkjlipnmaa", sum := "76ba7b7a07ea795c4f31cf1d9d82488ad8b4dc7d7ea722e04f8c4f8a49720737", func := "midden/middenlaw17.StableFull", spec := "stableFull", apart := false, narrowed := true }
def StableFullUptoSaid : Prop := stableFullUptoRow.holds Try.pinned (OpenSpec.upto stableFullSpec)

/-- 'middenlaw17.StableMoves', WHERE WHAT IT READS IS OF BULK AT MOST 1048576: true; the input reads as it did. -/
def stableMovesUptoRow : OpenClaim := { program := "ytbjlmhkjlipnmaa", sum := "76ba7b7a07ea795c4f31cf1d9d82488ad8b4dc7d7ea722e04f8c4f8a49720737", func := "midden/middenlaw17.StableMoves", spec := "stableMoves", unfollowed := true, recurses := true, apart := false, narrowed := true }
def StableMovesUptoSaid : Prop := stableMovesUptoRow.holds Try.pinned (OpenSpec.upto stableMovesSpec)

/-- 'middenlaw17.StableDoes', WHERE WHAT IT READS IS OF BULK AT MOST 1048576: true; the input reads as it did. -/
def stableDoesUptoRow : OpenClaim := { program := "ytbjlmhkjlipnmaa", sum := "76ba7b7a07ea795c4f31cf1d9d82488ad8b4dc7d7ea722e04f8c4f8a49720737", func := "midden/middenlaw17.StableDoes", spec := "stableDoes", unfollowed := true, recurses := true, apart := false, narrowed := true }
def StableDoesUptoSaid : Prop := stableDoesUptoRow.holds Try.pinned (OpenSpec.upto stableDoesSpec)

/-- 'middenlaw17.StableNone', WHERE WHAT IT READS IS OF BULK AT MOST 1048576: true; the input reads as it did. -/
def stableNoneUptoRow : OpenClaim := { program := "ytbjlmhkjlipnmaa", sum := "76ba7b7a07ea795c4f31cf1d9d82488ad8b4dc7d7ea722e04f8c4f8a49720737", func := "midden/middenlaw17.StableNone", spec := "stableNone", unfollowed := true, recurses := true, apart := false, narrowed := true }
def StableNoneUptoSaid : Prop := stableNoneUptoRow.holds Try.pinned (OpenSpec.upto stableNoneSpec)

end Rows
end Go.Proofs.Ytbjlmhkjlipnmaa
