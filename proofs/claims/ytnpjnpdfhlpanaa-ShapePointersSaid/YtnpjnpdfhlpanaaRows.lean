/-
  No cell of these rows narrows 'for every input' (looked for: loops, veiled, ifaces, maps, wideKeys, modest, calm, conditions, laid).
  DERIVED. THE GIVEN ROWS OF THIS SEAT. 5 by the template 'for every input the law returns true; each argument reads behind the call as it read before'; 0 by the template 'total and deterministic' (their statements: YtnpjnpdfhlpanaaTotals.lean).
  GIVEN WITH THE SEED: the statements are not yours to turn. If you find one false, say at which input.
  Laid BY PROGRAM, IN A SANDBOX (cutbox-rows.mjs): the forced cells as the released guide's own fill.sh prints them over the translation 0bce4c88e06625d6… (all of the seat's roots in one cut). By AI agents, Wed Nov 11 2026. No macro, syntax, notation, axiom, sorry.
-/
import Derived.Test.YtnpjnpdfhlpanaaChecked
import GoSem.Claim
import GoSem.ClaimJoined
import GoSem.ClaimMapViews
import Derived.JoinedTies
import Derived.KernelRfl
namespace Go.Proofs.Ytnpjnpdfhlpanaa
/- THE CELL 'sum', in the pinned program and in every row, IS THE sha256 OF THE DUMP (.gsa) THAT YtnpjnpdfhlpanaaProg.lean LOADS. Nothing in Lean hashes anything: it is a label: what it is worth is what the hold of that sum in a sandbox is worth. -/
noncomputable def Try.pinned : Pinned := { name := "ytnpjnpdfhlpanaa", sum := "0bce4c88e06625d6bf78308b01a8ed4d45a50ce0f0f0bf97358b121e492f12d3", checked := Try.checked }
namespace Rows
def none {H : Type} : Left H := { results := [], args := [] }

/-- 'middenlaw04.ShapeRight': WHATEVER THE INPUT: true; the input reads as it did. -/
def shapeRightSpec : ChangeSpec := { name := "shapeRight", fn := fun _ => fun
  | [d] => { results := [.lit (.bool true)], args := [d] }
  | _ => none }
def shapeRightRow : OpenClaim := { program := "ytnpjnpdfhlpanaa", sum := "0bce4c88e06625d6bf78308b01a8ed4d45a50ce0f0f0bf97358b121e492f12d3", func := "midden/middenlaw04.ShapeRight", spec := "shapeRight", apart := false }
def ShapeRightSaid : Prop := shapeRightRow.holds Try.pinned (OpenSpec.ofChange shapeRightSpec)

/-- ITS FALSE NEIGHBOUR: 'it returns false'. Refute it at one input. -/
def shapeRightWrong : ChangeSpec := { name := "shapeRight", fn := fun _ => fun
  | [d] => { results := [.lit (.bool false)], args := [d] }
  | _ => none }
def ShapeRightWrongFalsely : Prop := shapeRightRow.holds Try.pinned (OpenSpec.ofChange shapeRightWrong)

/-- 'middenlaw04.ShapeKinds': WHATEVER THE INPUT: true; the input reads as it did. -/
def shapeKindsSpec : ChangeSpec := { name := "shapeKinds", fn := fun _ => fun
  | [d] => { results := [.lit (.bool true)], args := [d] }
  | _ => none }
def shapeKindsRow : OpenClaim := { program := "ytnpjnpdfhlpanaa", sum := "0bce4c88e06625d6bf78308b01a8ed4d45a50ce0f0f0bf97358b121e492f12d3", func := "midden/middenlaw04.ShapeKinds", spec := "shapeKinds", apart := false }
def ShapeKindsSaid : Prop := shapeKindsRow.holds Try.pinned (OpenSpec.ofChange shapeKindsSpec)

/-- ITS FALSE NEIGHBOUR: 'it returns false'. Refute it at one input. -/
def shapeKindsWrong : ChangeSpec := { name := "shapeKinds", fn := fun _ => fun
  | [d] => { results := [.lit (.bool false)], args := [d] }
  | _ => none }
def ShapeKindsWrongFalsely : Prop := shapeKindsRow.holds Try.pinned (OpenSpec.ofChange shapeKindsWrong)

/-- 'middenlaw04.ShapeOver': WHATEVER THE INPUT: true; the input reads as it did. -/
def shapeOverSpec : ChangeSpec := { name := "shapeOver", fn := fun _ => fun
  | [d1, d2] => { results := [.lit (.bool true)], args := [d1, d2] }
  | _ => none }
def shapeOverRow : OpenClaim := { program := "ytnpjnpdfhlpanaa", sum := "0bce4c88e06625d6bf78308b01a8ed4d45a50ce0f0f0bf97358b121e492f12d3", func := "midden/middenlaw04.ShapeOver", spec := "shapeOver", apart := false }
def ShapeOverSaid : Prop := shapeOverRow.holds Try.pinned (OpenSpec.ofChange shapeOverSpec)

/-- ITS FALSE NEIGHBOUR: 'it returns false'. Refute it at one input. -/
def shapeOverWrong : ChangeSpec := { name := "shapeOver", fn := fun _ => fun
  | [d1, d2] => { results := [.lit (.bool false)], args := [d1, d2] }
  | _ => none }
def ShapeOverWrongFalsely : Prop := shapeOverRow.holds Try.pinned (OpenSpec.ofChange shapeOverWrong)

/-- 'middenlaw04.ShapeStays': WHATEVER THE INPUT: true; the input reads as it did. -/
def shapeStaysSpec : ChangeSpec := { name := "shapeStays", fn := fun _ => fun
  | [d1, d2, d3] => { results := [.lit (.bool true)], args := [d1, d2, d3] }
  | _ => none }
def shapeStaysRow : OpenClaim := { program := "ytnpjnpdfhlpanaa", sum := "0bce4c88e06625d6bf78308b01a8ed4d45a50ce0f0f0bf97358b121e492f12d3", func := "midden/middenlaw04.ShapeStays", spec := "shapeStays", apart := false }
def ShapeStaysSaid : Prop := shapeStaysRow.holds Try.pinned (OpenSpec.ofChange shapeStaysSpec)

/-- ITS FALSE NEIGHBOUR: 'it returns false'. Refute it at one input. -/
def shapeStaysWrong : ChangeSpec := { name := "shapeStays", fn := fun _ => fun
  | [d1, d2, d3] => { results := [.lit (.bool false)], args := [d1, d2, d3] }
  | _ => none }
def ShapeStaysWrongFalsely : Prop := shapeStaysRow.holds Try.pinned (OpenSpec.ofChange shapeStaysWrong)

/-- 'middenlaw04.ShapePointers': WHATEVER THE INPUT: true; the input reads as it did. -/
def shapePointersSpec : ChangeSpec := { name := "shapePointers", fn := fun _ => fun
  | [d1, d2] => { results := [.lit (.bool true)], args := [d1, d2] }
  | _ => none }
def shapePointersRow : OpenClaim := { program := "ytnpjnpdfhlpanaa", sum := "0bce4c88e06625d6bf78308b01a8ed4d45a50ce0f0f0bf97358b121e492f12d3", func := "midden/middenlaw04.ShapePointers", spec := "shapePointers", unfollowed := true, recurses := true, apart := false }
def ShapePointersSaid : Prop := shapePointersRow.holds Try.pinned (OpenSpec.ofChange shapePointersSpec)

/-- ITS FALSE NEIGHBOUR: 'it returns false'. Refute it at one input. -/
def shapePointersWrong : ChangeSpec := { name := "shapePointers", fn := fun _ => fun
  | [d1, d2] => { results := [.lit (.bool false)], args := [d1, d2] }
  | _ => none }
def ShapePointersWrongFalsely : Prop := shapePointersRow.holds Try.pinned (OpenSpec.ofChange shapePointersWrong)

/- THE SECOND FORM. 'bulk': how many values and letters a reading holds, each counted each time it is reached (what is shared counts as often as it is met; a slice's spare places count too). A statement '..UptoSaid' is the law's where the arguments, and the package variables that the reading takes, are together of bulk at most 1048576: NARROWER than '..Said'. Prove '..Said' where nothing that the law and all that it calls make is longer than what came in: it says more and counts as full. Else prove '..UptoSaid'. A law counts once. -/
mutual
def uptoBulk {H : Type} : DataW H → Nat
  | .lit (.string bytes) => bytes.length + 1
  | .lit _ => 1
  | .nil => 1
  | .ptr d => uptoBulk d + 1
  | .slice elems spare => uptoBulkAll elems + uptoBulkAll spare + 1
  | .agg parts => uptoBulkAll parts + 1
  | .iface _ d => uptoBulk d + 1
  | .map entries => uptoBulkEntries entries + 1
  | .held _ => 1
def uptoBulkAll {H : Type} : List (DataW H) → Nat
  | [] => 0
  | d :: r => uptoBulk d + uptoBulkAll r
def uptoBulkEntries {H : Type} : List (Lit × DataW H) → Nat
  | [] => 0
  | x :: r => uptoBulkEntry x + uptoBulkEntries r
def uptoBulkEntry {H : Type} : Lit × DataW H → Nat
  | (.string bytes, d) => bytes.length + uptoBulk d + 1
  | (_, d) => uptoBulk d + 1
 end
def uptoSmall : (H : Type) → List (DataW H) → Bool := fun _ ds => decide (uptoBulkAll ds ≤ 1048576)
def OpenSpec.upto (s : _root_.Go.ChangeSpec) : _root_.Go.OpenSpec := { _root_.Go.OpenSpec.ofChange s with cond := some uptoSmall }

/-- 'middenlaw04.ShapeRight', WHERE WHAT IT READS IS OF BULK AT MOST 1048576: true; the input reads as it did. -/
def shapeRightUptoRow : OpenClaim := { program := "ytnpjnpdfhlpanaa", sum := "0bce4c88e06625d6bf78308b01a8ed4d45a50ce0f0f0bf97358b121e492f12d3", func := "midden/middenlaw04.ShapeRight", spec := "shapeRight", apart := false, narrowed := true }
def ShapeRightUptoSaid : Prop := shapeRightUptoRow.holds Try.pinned (OpenSpec.upto shapeRightSpec)

/-- 'middenlaw04.ShapeKinds', WHERE WHAT IT READS IS OF BULK AT MOST 1048576: true; the input reads as it did. -/
def shapeKindsUptoRow : OpenClaim := { program := "ytnpjnpdfhlpanaa", sum := "0bce4c88e06625d6bf78308b01a8ed4d45a50ce0f0f0bf97358b121e492f12d3", func := "midden/middenlaw04.ShapeKinds", spec := "shapeKinds", apart := false, narrowed := true }
def ShapeKindsUptoSaid : Prop := shapeKindsUptoRow.holds Try.pinned (OpenSpec.upto shapeKindsSpec)

/-- 'middenlaw04.ShapeOver', WHERE WHAT IT READS IS OF BULK AT MOST 1048576: true; the input reads as it did. -/
def shapeOverUptoRow : OpenClaim := { program := "ytnpjnpdfhlpanaa", sum := "0bce4c88e06625d6bf78308b01a8ed4d45a50ce0f0f0bf97358b121e492f12d3", func := "midden/middenlaw04.ShapeOver", spec := "shapeOver", apart := false, narrowed := true }
def ShapeOverUptoSaid : Prop := shapeOverUptoRow.holds Try.pinned (OpenSpec.upto shapeOverSpec)

/-- 'middenlaw04.ShapeStays', WHERE WHAT IT READS IS OF BULK AT MOST 1048576: true; the input reads as it did. -/
def shapeStaysUptoRow : OpenClaim := { program := "ytnpjnpdfhlpanaa", sum := "0bce4c88e06625d6bf78308b01a8ed4d45a50ce0f0f0bf97358b121e492f12d3", func := "midden/middenlaw04.ShapeStays", spec := "shapeStays", apart := false, narrowed := true }
def ShapeStaysUptoSaid : Prop := shapeStaysUptoRow.holds Try.pinned (OpenSpec.upto shapeStaysSpec)

/-- 'middenlaw04.ShapePointers', WHERE WHAT IT READS IS OF BULK AT MOST 1048576: true; the input reads as it did. -/
def shapePointersUptoRow : OpenClaim := { program := "ytnpjnpdfhlpanaa", sum := "0bce4c88e06625d6bf78308b01a8ed4d45a50ce0f0f0bf97358b121e492f12d3", func := "midden/middenlaw04.ShapePointers", spec := "shapePointers", unfollowed := true, recurses := true, apart := false, narrowed := true }
def ShapePointersUptoSaid : Prop := shapePointersUptoRow.holds Try.pinned (OpenSpec.upto shapePointersSpec)

end Rows
end Go.Proofs.Ytnpjnpdfhlpanaa
