/-
  No cell of these rows narrows 'for every input' (looked for: loops, veiled, ifaces, maps, wideKeys, modest, calm, conditions, laid).
  DERIVED. THE GIVEN ROWS OF THIS SEAT. 6 by the template 'for every input the law returns true; each argument reads behind the call as it read before'; 0 by the template 'total and deterministic' (their statements: YtedkackmccnkfaaTotals.lean).
  GIVEN WITH THE SEED: the statements are not yours to turn. If you find one false, say at which input.
  Laid BY PROGRAM, IN A SANDBOX (cutbox-rows.mjs): the forced cells as the released guide's own fill.sh prints them over the translation 58dde5c5f17ac405… (all of the seat's roots in one cut). By AI agents, Wed Nov 11 2026. No macro, syntax, notation, axiom, sorry.
-/
import Derived.Test.YtedkackmccnkfaaChecked
import GoSem.Claim
import GoSem.ClaimJoined
import GoSem.ClaimMapViews
import Derived.JoinedTies
import Derived.KernelRfl
namespace Go.Proofs.Ytedkackmccnkfaa
/- THE CELL 'sum', in the pinned program and in every row, IS THE sha256 OF THE DUMP (.gsa) THAT YtedkackmccnkfaaProg.lean LOADS. Nothing in Lean hashes anything: it is a label: what it is worth is what the hold of that sum in a sandbox is worth. -/
noncomputable def Try.pinned : Pinned := { name := "ytedkackmccnkfaa", sum := "58dde5c5f17ac405426fd8e08315ea0d260da1785ff4397ba77a1b2816df8369", checked := Try.checked }
namespace Rows
def none {H : Type} : Left H := { results := [], args := [] }

/-- 'middenlaw14.StackRight': WHATEVER THE INPUT: true; the input reads as it did. -/
def stackRightSpec : ChangeSpec := { name := "stackRight", fn := fun _ => fun
  | [d] => { results := [.lit (.bool true)], args := [d] }
  | _ => none }
def stackRightRow : OpenClaim := { program := "ytedkackmccnkfaa", sum := "58dde5c5f17ac405426fd8e08315ea0d260da1785ff4397ba77a1b2816df8369", func := "midden/middenlaw14.StackRight", spec := "stackRight", apart := false }
def StackRightSaid : Prop := stackRightRow.holds Try.pinned (OpenSpec.ofChange stackRightSpec)

/-- ITS FALSE NEIGHBOUR: 'it returns false'. Refute it at one input. -/
def stackRightWrong : ChangeSpec := { name := "stackRight", fn := fun _ => fun
  | [d] => { results := [.lit (.bool false)], args := [d] }
  | _ => none }
def StackRightWrongFalsely : Prop := stackRightRow.holds Try.pinned (OpenSpec.ofChange stackRightWrong)

/-- 'middenlaw14.StackNew': WHATEVER THE INPUT: true; the input reads as it did. -/
def stackNewSpec : ChangeSpec := { name := "stackNew", fn := fun _ => fun
  | [d1, d2, d3] => { results := [.lit (.bool true)], args := [d1, d2, d3] }
  | _ => none }
def stackNewRow : OpenClaim := { program := "ytedkackmccnkfaa", sum := "58dde5c5f17ac405426fd8e08315ea0d260da1785ff4397ba77a1b2816df8369", func := "midden/middenlaw14.StackNew", spec := "stackNew", apart := false }
def StackNewSaid : Prop := stackNewRow.holds Try.pinned (OpenSpec.ofChange stackNewSpec)

/-- ITS FALSE NEIGHBOUR: 'it returns false'. Refute it at one input. -/
def stackNewWrong : ChangeSpec := { name := "stackNew", fn := fun _ => fun
  | [d1, d2, d3] => { results := [.lit (.bool false)], args := [d1, d2, d3] }
  | _ => none }
def StackNewWrongFalsely : Prop := stackNewRow.holds Try.pinned (OpenSpec.ofChange stackNewWrong)

/-- 'middenlaw14.StackBack': WHATEVER THE INPUT: true; the input reads as it did. -/
def stackBackSpec : ChangeSpec := { name := "stackBack", fn := fun _ => fun
  | [d] => { results := [.lit (.bool true)], args := [d] }
  | _ => none }
def stackBackRow : OpenClaim := { program := "ytedkackmccnkfaa", sum := "58dde5c5f17ac405426fd8e08315ea0d260da1785ff4397ba77a1b2816df8369", func := "midden/middenlaw14.StackBack", spec := "stackBack", apart := false }
def StackBackSaid : Prop := stackBackRow.holds Try.pinned (OpenSpec.ofChange stackBackSpec)

/-- ITS FALSE NEIGHBOUR: 'it returns false'. Refute it at one input. -/
def stackBackWrong : ChangeSpec := { name := "stackBack", fn := fun _ => fun
  | [d] => { results := [.lit (.bool false)], args := [d] }
  | _ => none }
def StackBackWrongFalsely : Prop := stackBackRow.holds Try.pinned (OpenSpec.ofChange stackBackWrong)

/-- 'middenlaw14.StackDoes': WHATEVER THE INPUT: true; the input reads as it did. -/
def stackDoesSpec : ChangeSpec := { name := "stackDoes", fn := fun _ => fun
  | [d1, d2] => { results := [.lit (.bool true)], args := [d1, d2] }
  | _ => none }
def stackDoesRow : OpenClaim := { program := "ytedkackmccnkfaa", sum := "58dde5c5f17ac405426fd8e08315ea0d260da1785ff4397ba77a1b2816df8369", func := "midden/middenlaw14.StackDoes", spec := "stackDoes", unfollowed := true, recurses := true, apart := false }
def StackDoesSaid : Prop := stackDoesRow.holds Try.pinned (OpenSpec.ofChange stackDoesSpec)

/-- ITS FALSE NEIGHBOUR: 'it returns false'. Refute it at one input. -/
def stackDoesWrong : ChangeSpec := { name := "stackDoes", fn := fun _ => fun
  | [d1, d2] => { results := [.lit (.bool false)], args := [d1, d2] }
  | _ => none }
def StackDoesWrongFalsely : Prop := stackDoesRow.holds Try.pinned (OpenSpec.ofChange stackDoesWrong)

/-- 'middenlaw14.StackMaps': WHATEVER THE INPUT: true; the input reads as it did. -/
def stackMapsSpec : ChangeSpec := { name := "stackMaps", fn := fun _ => fun
  | [d] => { results := [.lit (.bool true)], args := [d] }
  | _ => none }
def stackMapsRow : OpenClaim := { program := "ytedkackmccnkfaa", sum := "58dde5c5f17ac405426fd8e08315ea0d260da1785ff4397ba77a1b2816df8369", func := "midden/middenlaw14.StackMaps", spec := "stackMaps", unfollowed := true, recurses := true, apart := false }
def StackMapsSaid : Prop := stackMapsRow.holds Try.pinned (OpenSpec.ofChange stackMapsSpec)

/-- ITS FALSE NEIGHBOUR: 'it returns false'. Refute it at one input. -/
def stackMapsWrong : ChangeSpec := { name := "stackMaps", fn := fun _ => fun
  | [d] => { results := [.lit (.bool false)], args := [d] }
  | _ => none }
def StackMapsWrongFalsely : Prop := stackMapsRow.holds Try.pinned (OpenSpec.ofChange stackMapsWrong)

/-- 'middenlaw14.StackNone': WHATEVER THE INPUT: true; the input reads as it did. -/
def stackNoneSpec : ChangeSpec := { name := "stackNone", fn := fun _ => fun
  | [d] => { results := [.lit (.bool true)], args := [d] }
  | _ => none }
def stackNoneRow : OpenClaim := { program := "ytedkackmccnkfaa", sum := "58dde5c5f17ac405426fd8e08315ea0d260da1785ff4397ba77a1b2816df8369", func := "midden/middenlaw14.StackNone", spec := "stackNone", unfollowed := true, recurses := true, apart := false }
def StackNoneSaid : Prop := stackNoneRow.holds Try.pinned (OpenSpec.ofChange stackNoneSpec)

/-- ITS FALSE NEIGHBOUR: 'it returns false'. Refute it at one input. -/
def stackNoneWrong : ChangeSpec := { name := "stackNone", fn := fun _ => fun
  | [d] => { results := [.lit (.bool false)], args := [d] }
  | _ => none }
def StackNoneWrongFalsely : Prop := stackNoneRow.holds Try.pinned (OpenSpec.ofChange stackNoneWrong)

/- THE SECOND FORM. 'bulk': how many values and letters a reading holds, each counted each time it is reached (what is shared counts as often as it is met; a slice's spare places count too). A statement '..UptoSaid' is the law's where the arguments, and the package variables that the reading takes, are together of bulk at most 1048576: NARROWER than '..Said'. Prove '..Said' where nothing that the law and all that it calls make is longer than what came in: it says more and counts as full. Else prove '..UptoSaid'. A law counts once. -/
mutual
def uptoBulk {H : Type} : DataW H → Nat
  | .lit (.string bytes) => bytes.length + 1
  | .lit _ => 1
  | .nil => 1
  | .ptr d => uptoBulk d + 1
  | .slice elems spare => uptoBulkAll elems + uptoBulkAll spare + 1
  | .agg parts => uptoBulkAll parts + 1
  | .iface _ d => uptoBulk d + 1
  | .map entries => uptoBulkEntries entries + 1
  | .held _ => 1
def uptoBulkAll {H : Type} : List (DataW H) → Nat
  | [] => 0
  | d :: r => uptoBulk d + uptoBulkAll r
def uptoBulkEntries {H : Type} : List (Lit × DataW H) → Nat
  | [] => 0
  | x :: r => uptoBulkEntry x + uptoBulkEntries r
def uptoBulkEntry {H : Type} : Lit × DataW H → Nat
  | (.string bytes, d) => bytes.length + uptoBulk d + 1
  | (_, d) => uptoBulk d + 1
 end
def uptoSmall : (H : Type) → List (DataW H) → Bool := fun _ ds => decide (uptoBulkAll ds ≤ 1048576)
def OpenSpec.upto (s : _root_.Go.ChangeSpec) : _root_.Go.OpenSpec := { _root_.Go.OpenSpec.ofChange s with cond := some uptoSmall }

/-- 'middenlaw14.StackRight', WHERE WHAT IT READS IS OF BULK AT MOST 1048576: true; the input reads as it did. -/
def stackRightUptoRow : OpenClaim := { program := "ytedkackmccnkfaa", sum := "58dde5c5f17ac405426fd8e08315ea0d260da1785ff4397ba77a1b2816df8369", func := "midden/middenlaw14.StackRight", spec := "stackRight", apart := false, narrowed := true }
def StackRightUptoSaid : Prop := stackRightUptoRow.holds Try.pinned (OpenSpec.upto stackRightSpec)

/-- 'middenlaw14.StackNew', WHERE WHAT IT READS IS OF BULK AT MOST 1048576: true; the input reads as it did. -/
def stackNewUptoRow : OpenClaim := { program := "ytedkackmccnkfaa", sum := "58dde5c5f17ac405426fd8e08315ea0d260da1785ff4397ba77a1b2816df8369", func := "midden/middenlaw14.StackNew", spec := "stackNew", apart := false, narrowed := true }
def StackNewUptoSaid : Prop := stackNewUptoRow.holds Try.pinned (OpenSpec.upto stackNewSpec)

/-- 'middenlaw14.StackBack', WHERE WHAT IT READS IS OF BULK AT MOST 1048576: true; the input reads as it did. -/
def stackBackUptoRow : OpenClaim := { program := "ytedkackmccnkfaa", sum := "58dde5c5f17ac405426fd8e08315ea0d260da1785ff4397ba77a1b2816df8369", func := "midden/middenlaw14.StackBack", spec := "stackBack", apart := false, narrowed := true }
def StackBackUptoSaid : Prop := stackBackUptoRow.holds Try.pinned (OpenSpec.upto stackBackSpec)

/-- 'middenlaw14.StackDoes', WHERE WHAT IT READS IS OF BULK AT MOST 1048576: true; the input reads as it did. -/
def stackDoesUptoRow : OpenClaim := { program := "ytedkackmccnkfaa", sum := "58dde5c5f17ac405426fd8e08315ea0d260da1785ff4397ba77a1b2816df8369", func := "midden/middenlaw14.StackDoes", spec := "stackDoes", unfollowed := true, recurses := true, apart := false, narrowed := true }
def StackDoesUptoSaid : Prop := stackDoesUptoRow.holds Try.pinned (OpenSpec.upto stackDoesSpec)

/-- 'middenlaw14.StackMaps', WHERE WHAT IT READS IS OF BULK AT MOST 1048576: true; the input reads as it did. -/
def stackMapsUptoRow : OpenClaim := { program := "ytedkackmccnkfaa", sum := "58dde5c5f17ac405426fd8e08315ea0d260da1785ff4397ba77a1b2816df8369", func := "midden/middenlaw14.StackMaps", spec := "stackMaps", unfollowed := true, recurses := true, apart := false, narrowed := true }
def StackMapsUptoSaid : Prop := stackMapsUptoRow.holds Try.pinned (OpenSpec.upto stackMapsSpec)

/-- 'middenlaw14.StackNone', WHERE WHAT IT READS IS OF BULK AT MOST 1048576: true; the input reads as it did. -/
def stackNoneUptoRow : OpenClaim := { program := "ytedkackmccnkfaa", sum := "58dde5c5f17ac405426fd8e08315ea0d260da1785ff4397ba77a1b2816df8369", func := "midden/middenlaw14.StackNone", spec := "stackNone", unfollowed := true, recurses := true, apart := false, narrowed := true }
def StackNoneUptoSaid : Prop := stackNoneUptoRow.holds Try.pinned (OpenSpec.upto stackNoneSpec)

end Rows
end Go.Proofs.Ytedkackmccnkfaa
