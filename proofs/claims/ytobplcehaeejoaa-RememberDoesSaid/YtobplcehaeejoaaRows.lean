/-
  No cell of these rows narrows 'for every input' (looked for: loops, veiled, ifaces, maps, wideKeys, modest, calm, conditions, laid).
  DERIVED. THE GIVEN ROWS OF THIS SEAT. 5 by the template 'for every input the law returns true; each argument reads behind the call as it read before'; 0 by the template 'total and deterministic' (their statements: YtobplcehaeejoaaTotals.lean).
  GIVEN WITH THE SEED: the statements are not yours to turn. If you find one false, say at which input.
  Laid BY PROGRAM, IN A SANDBOX (cutbox-rows.mjs): the forced cells as the released guide's own fill.sh prints them over the translation 23374ac1fd4a31e8… (all of the seat's roots in one cut). By AI agents, Wed Nov 11 2026. No macro, syntax, notation, axiom, sorry.
-/
import Derived.Test.YtobplcehaeejoaaChecked
import GoSem.Claim
import GoSem.ClaimJoined
import GoSem.ClaimMapViews
import Derived.JoinedTies
import Derived.KernelRfl
namespace Go.Proofs.Ytobplcehaeejoaa
/- THE CELL 'sum', in the pinned program and in every row, IS THE sha256 OF THE DUMP (.gsa) THAT YtobplcehaeejoaaProg.lean LOADS. Nothing in Lean hashes anything: it is a label: what it is worth is what the hold of that sum in a sandbox is worth. -/
noncomputable def Try.pinned : Pinned := { name := "ytobplcehaeejoaa", sum := "23374ac1fd4a31e87eb9675dc9567d015c06c753e3168f97a67dbe883533817c", checked := Try.checked }
namespace Rows
def none {H : Type} : Left H := { results := [], args := [] }

/-- 'middenlaw16.RememberOrders': WHATEVER THE INPUT: true; the input reads as it did. -/
def rememberOrdersSpec : ChangeSpec := { name := "rememberOrders", fn := fun _ => fun
  | [d1, d2] => { results := [.lit (.bool true)], args := [d1, d2] }
  | _ => none }
def rememberOrdersRow : OpenClaim := { program := "ytobplcehaeejoaa", sum := "23374ac1fd4a31e87eb9675dc9567d015c06c753e3168f97a67dbe883533817c", func := "midden/middenlaw16.RememberOrders", spec := "rememberOrders", recurses := true, apart := false }
def RememberOrdersSaid : Prop := rememberOrdersRow.holds Try.pinned (OpenSpec.ofChange rememberOrdersSpec)

/-- ITS FALSE NEIGHBOUR: 'it returns false'. Refute it at one input. -/
def rememberOrdersWrong : ChangeSpec := { name := "rememberOrders", fn := fun _ => fun
  | [d1, d2] => { results := [.lit (.bool false)], args := [d1, d2] }
  | _ => none }
def RememberOrdersWrongFalsely : Prop := rememberOrdersRow.holds Try.pinned (OpenSpec.ofChange rememberOrdersWrong)

/-- 'middenlaw16.RememberOwn': WHATEVER THE INPUT: true; the input reads as it did. -/
def rememberOwnSpec : ChangeSpec := { name := "rememberOwn", fn := fun _ => fun
  | [d] => { results := [.lit (.bool true)], args := [d] }
  | _ => none }
def rememberOwnRow : OpenClaim := { program := "ytobplcehaeejoaa", sum := "23374ac1fd4a31e87eb9675dc9567d015c06c753e3168f97a67dbe883533817c", func := "midden/middenlaw16.RememberOwn", spec := "rememberOwn", recurses := true, apart := false }
def RememberOwnSaid : Prop := rememberOwnRow.holds Try.pinned (OpenSpec.ofChange rememberOwnSpec)

/-- ITS FALSE NEIGHBOUR: 'it returns false'. Refute it at one input. -/
def rememberOwnWrong : ChangeSpec := { name := "rememberOwn", fn := fun _ => fun
  | [d] => { results := [.lit (.bool false)], args := [d] }
  | _ => none }
def RememberOwnWrongFalsely : Prop := rememberOwnRow.holds Try.pinned (OpenSpec.ofChange rememberOwnWrong)

/-- 'middenlaw16.RememberDoes': WHATEVER THE INPUT: true; the input reads as it did. -/
def rememberDoesSpec : ChangeSpec := { name := "rememberDoes", fn := fun _ => fun
  | [d1, d2] => { results := [.lit (.bool true)], args := [d1, d2] }
  | _ => none }
def rememberDoesRow : OpenClaim := { program := "ytobplcehaeejoaa", sum := "23374ac1fd4a31e87eb9675dc9567d015c06c753e3168f97a67dbe883533817c", func := "midden/middenlaw16.RememberDoes", spec := "rememberDoes", recurses := true, apart := false }
def RememberDoesSaid : Prop := rememberDoesRow.holds Try.pinned (OpenSpec.ofChange rememberDoesSpec)

/-- ITS FALSE NEIGHBOUR: 'it returns false'. Refute it at one input. -/
def rememberDoesWrong : ChangeSpec := { name := "rememberDoes", fn := fun _ => fun
  | [d1, d2] => { results := [.lit (.bool false)], args := [d1, d2] }
  | _ => none }
def RememberDoesWrongFalsely : Prop := rememberDoesRow.holds Try.pinned (OpenSpec.ofChange rememberDoesWrong)

/-- 'middenlaw16.RememberApart': WHATEVER THE INPUT: true; the input reads as it did. -/
def rememberApartSpec : ChangeSpec := { name := "rememberApart", fn := fun _ => fun
  | [d1, d2] => { results := [.lit (.bool true)], args := [d1, d2] }
  | _ => none }
def rememberApartRow : OpenClaim := { program := "ytobplcehaeejoaa", sum := "23374ac1fd4a31e87eb9675dc9567d015c06c753e3168f97a67dbe883533817c", func := "midden/middenlaw16.RememberApart", spec := "rememberApart", recurses := true, apart := false }
def RememberApartSaid : Prop := rememberApartRow.holds Try.pinned (OpenSpec.ofChange rememberApartSpec)

/-- ITS FALSE NEIGHBOUR: 'it returns false'. Refute it at one input. -/
def rememberApartWrong : ChangeSpec := { name := "rememberApart", fn := fun _ => fun
  | [d1, d2] => { results := [.lit (.bool false)], args := [d1, d2] }
  | _ => none }
def RememberApartWrongFalsely : Prop := rememberApartRow.holds Try.pinned (OpenSpec.ofChange rememberApartWrong)

/-- 'middenlaw16.RememberNone': WHATEVER THE INPUT: true; the input reads as it did. -/
def rememberNoneSpec : ChangeSpec := { name := "rememberNone", fn := fun _ => fun
  | [d1, d2] => { results := [.lit (.bool true)], args := [d1, d2] }
  | _ => none }
def rememberNoneRow : OpenClaim := { program := "ytobplcehaeejoaa", sum := "23374ac1fd4a31e87eb9675dc9567d015c06c753e3168f97a67dbe883533817c", func := "midden/middenlaw16.RememberNone", spec := "rememberNone", recurses := true, apart := false }
def RememberNoneSaid : Prop := rememberNoneRow.holds Try.pinned (OpenSpec.ofChange rememberNoneSpec)

/-- ITS FALSE NEIGHBOUR: 'it returns false'. Refute it at one input. -/
def rememberNoneWrong : ChangeSpec := { name := "rememberNone", fn := fun _ => fun
  | [d1, d2] => { results := [.lit (.bool false)], args := [d1, d2] }
  | _ => none }
def RememberNoneWrongFalsely : Prop := rememberNoneRow.holds Try.pinned (OpenSpec.ofChange rememberNoneWrong)

/- THE SECOND FORM. 'bulk': how many values and letters a reading holds, each counted each time it is reached (what is shared counts as often as it is met; a slice's spare places count too). A statement '..UptoSaid' is the law's where the arguments, and the package variables that the reading takes, are together of bulk at most 1048576: NARROWER than '..Said'. Prove '..Said' where nothing that the law and all that it calls make is longer than what came in: it says more and counts as full. Else prove '..UptoSaid'. A law counts once. -/
mutual
def uptoBulk {H : Type} : DataW H → Nat
  | .lit (.string bytes) => bytes.length + 1
  | .lit _ => 1
  | .nil => 1
  | .ptr d => uptoBulk d + 1
  | .slice elems spare => uptoBulkAll elems + uptoBulkAll spare + 1
  | .agg parts => uptoBulkAll parts + 1
  | .iface _ d => uptoBulk d + 1
  | .map entries => uptoBulkEntries entries + 1
  | .held _ => 1
def uptoBulkAll {H : Type} : List (DataW H) → Nat
  | [] => 0
  | d :: r => uptoBulk d + uptoBulkAll r
def uptoBulkEntries {H : Type} : List (Lit × DataW H) → Nat
  | [] => 0
  | x :: r => uptoBulkEntry x + uptoBulkEntries r
def uptoBulkEntry {H : Type} : Lit × DataW H → Nat
  | (.string bytes, d) => bytes.length + uptoBulk d + 1
  | (_, d) => uptoBulk d + 1
 end
def uptoSmall : (H : Type) → List (DataW H) → Bool := fun _ ds => decide (uptoBulkAll ds ≤ 1048576)
def OpenSpec.upto (s : _root_.Go.ChangeSpec) : _root_.Go.OpenSpec := { _root_.Go.OpenSpec.ofChange s with cond := some uptoSmall }

/-- 'middenlaw16.RememberOrders', WHERE WHAT IT READS IS OF BULK AT MOST 1048576: true; the input reads as it did. -/
def rememberOrdersUptoRow : OpenClaim := { program := "ytobplcehaeejoaa", sum := "23374ac1fd4a31e87eb9675dc9567d015c06c753e3168f97a67dbe883533817c", func := "midden/middenlaw16.RememberOrders", spec := "rememberOrders", recurses := true, apart := false, narrowed := true }
def RememberOrdersUptoSaid : Prop := rememberOrdersUptoRow.holds Try.pinned (OpenSpec.upto rememberOrdersSpec)

/-- 'middenlaw16.RememberOwn', WHERE WHAT IT READS IS OF BULK AT MOST 1048576: true; the input reads as it did. -/
def rememberOwnUptoRow : OpenClaim := { program := "ytobplcehaeejoaa", sum := "23374ac1fd4a31e87eb9675dc9567d015c06c753e3168f97a67dbe883533817c", func := "midden/middenlaw16.RememberOwn", spec := "rememberOwn", recurses := true, apart := false, narrowed := true }
def RememberOwnUptoSaid : Prop := rememberOwnUptoRow.holds Try.pinned (OpenSpec.upto rememberOwnSpec)

/-- 'middenlaw16.RememberDoes', WHERE WHAT IT READS IS OF BULK AT MOST 1048576: true; the input reads as it did. -/
def rememberDoesUptoRow : OpenClaim := { program := "ytobplcehaeejoaa", sum := "23374ac1fd4a31e87eb9675dc9567d015c06c753e3168f97a67dbe883533817c", func := "midden/middenlaw16.RememberDoes", spec := "rememberDoes", recurses := true, apart := false, narrowed := true }
def RememberDoesUptoSaid : Prop := rememberDoesUptoRow.holds Try.pinned (OpenSpec.upto rememberDoesSpec)

/-- 'middenlaw16.RememberApart', WHERE WHAT IT READS IS OF BULK AT MOST 1048576: true; the input reads as it did. -/
def rememberApartUptoRow : OpenClaim := { program := "ytobplcehaeejoaa", sum := "23374ac1fd4a31e87eb9675dc9567d015c06c753e3168f97a67dbe883533817c", func := "midden/middenlaw16.RememberApart", spec := "rememberApart", recurses := true, apart := false, narrowed := true }
def RememberApartUptoSaid : Prop := rememberApartUptoRow.holds Try.pinned (OpenSpec.upto rememberApartSpec)

/-- 'middenlaw16.RememberNone', WHERE WHAT IT READS IS OF BULK AT MOST 1048576: true; the input reads as it did. -/
def rememberNoneUptoRow : OpenClaim := { program := "ytobplcehaeejoaa", sum := "23374ac1fd4a31e87eb9675dc9567d015c06c753e3168f97a67dbe883533817c", func := "midden/middenlaw16.RememberNone", spec := "rememberNone", recurses := true, apart := false, narrowed := true }
def RememberNoneUptoSaid : Prop := rememberNoneUptoRow.holds Try.pinned (OpenSpec.upto rememberNoneSpec)

end Rows
end Go.Proofs.Ytobplcehaeejoaa
