/-
  No cell of these rows narrows 'for every input' (looked for: loops, veiled, ifaces, maps, wideKeys, modest, calm, conditions, laid).
  DERIVED. THE GIVEN ROWS OF THIS SEAT. 5 by the template 'for every input the law returns true; each argument reads behind the call as it read before'; 0 by the template 'total and deterministic' (their statements: YtladhenjoipfpaaTotals.lean).
  GIVEN WITH THE SEED: the statements are not yours to turn. If you find one false, say at which input.
  Laid BY PROGRAM, IN A SANDBOX (cutbox-rows.mjs): the forced cells as the released guide's own fill.sh prints them over the translation 2392b98c048dde41… (all of the seat's roots in one cut). By AI agents, Wed Nov 11 2026. No macro, syntax, notation, axiom, sorry.
-/
import Derived.Test.YtladhenjoipfpaaChecked
import GoSem.Claim
import GoSem.ClaimJoined
import GoSem.ClaimMapViews
import Derived.JoinedTies
import Derived.KernelRfl
namespace Go.Proofs.Ytladhenjoipfpaa
/- THE CELL 'sum', in the pinned program and in every row, IS THE sha256 OF THE DUMP (.gsa) THAT YtladhenjoipfpaaProg.lean LOADS. Nothing in Lean hashes anything: it is a label: what it is worth is what the hold of that sum in a sandbox is worth. -/
noncomputable def Try.pinned : Pinned := { name := "ytladhenjoipfpaa", sum := "2392b98c048dde4129a49a8ce03608e2d5defac1abd75e6f9fb5e40f14db44f7", checked := Try.checked }
namespace Rows
def none {H : Type} : Left H := { results := [], args := [] }

/-- 'middenlaw15.BumpLittle': WHATEVER THE INPUT: true; the input reads as it did. -/
def bumpLittleSpec : ChangeSpec := { name := "bumpLittle", fn := fun _ => fun
  | [d1, d2] => { results := [.lit (.bool true)], args := [d1, d2] }
  | _ => none }
def bumpLittleRow : OpenClaim := { program := "ytladhenjoipfpaa", sum := "2392b98c048dde4129a49a8ce03608e2d5defac1abd75e6f9fb5e40f14db44f7", func := "midden/middenlaw15.BumpLittle", spec := "bumpLittle", unfollowed := true, recurses := true, apart := false }
def BumpLittleSaid : Prop := bumpLittleRow.holds Try.pinned (OpenSpec.ofChange bumpLittleSpec)

/-- ITS FALSE NEIGHBOUR: 'it returns false'. Refute it at one input. -/
def bumpLittleWrong : ChangeSpec := { name := "bumpLittle", fn := fun _ => fun
  | [d1, d2] => { results := [.lit (.bool false)], args := [d1, d2] }
  | _ => none }
def BumpLittleWrongFalsely : Prop := bumpLittleRow.holds Try.pinned (OpenSpec.ofChange bumpLittleWrong)

/-- 'middenlaw15.BumpApart': WHATEVER THE INPUT: true; the input reads as it did. -/
def bumpApartSpec : ChangeSpec := { name := "bumpApart", fn := fun _ => fun
  | [d1, d2] => { results := [.lit (.bool true)], args := [d1, d2] }
  | _ => none }
def bumpApartRow : OpenClaim := { program := "ytladhenjoipfpaa", sum := "2392b98c048dde4129a49a8ce03608e2d5defac1abd75e6f9fb5e40f14db44f7", func := "midden/middenlaw15.BumpApart", spec := "bumpApart", unfollowed := true, recurses := true, apart := false }
def BumpApartSaid : Prop := bumpApartRow.holds Try.pinned (OpenSpec.ofChange bumpApartSpec)

/-- ITS FALSE NEIGHBOUR: 'it returns false'. Refute it at one input. -/
def bumpApartWrong : ChangeSpec := { name := "bumpApart", fn := fun _ => fun
  | [d1, d2] => { results := [.lit (.bool false)], args := [d1, d2] }
  | _ => none }
def BumpApartWrongFalsely : Prop := bumpApartRow.holds Try.pinned (OpenSpec.ofChange bumpApartWrong)

/-- 'middenlaw15.BumpNone': WHATEVER THE INPUT: true; the input reads as it did. -/
def bumpNoneSpec : ChangeSpec := { name := "bumpNone", fn := fun _ => fun
  | [d] => { results := [.lit (.bool true)], args := [d] }
  | _ => none }
def bumpNoneRow : OpenClaim := { program := "ytladhenjoipfpaa", sum := "2392b98c048dde4129a49a8ce03608e2d5defac1abd75e6f9fb5e40f14db44f7", func := "midden/middenlaw15.BumpNone", spec := "bumpNone", unfollowed := true, recurses := true, apart := false }
def BumpNoneSaid : Prop := bumpNoneRow.holds Try.pinned (OpenSpec.ofChange bumpNoneSpec)

/-- ITS FALSE NEIGHBOUR: 'it returns false'. Refute it at one input. -/
def bumpNoneWrong : ChangeSpec := { name := "bumpNone", fn := fun _ => fun
  | [d] => { results := [.lit (.bool false)], args := [d] }
  | _ => none }
def BumpNoneWrongFalsely : Prop := bumpNoneRow.holds Try.pinned (OpenSpec.ofChange bumpNoneWrong)

/-- 'middenlaw15.BumpFrees': WHATEVER THE INPUT: true; the input reads as it did. -/
def bumpFreesSpec : ChangeSpec := { name := "bumpFrees", fn := fun _ => fun
  | [d1, d2, d3] => { results := [.lit (.bool true)], args := [d1, d2, d3] }
  | _ => none }
def bumpFreesRow : OpenClaim := { program := "ytladhenjoipfpaa", sum := "2392b98c048dde4129a49a8ce03608e2d5defac1abd75e6f9fb5e40f14db44f7", func := "midden/middenlaw15.BumpFrees", spec := "bumpFrees", unfollowed := true, recurses := true, apart := false }
def BumpFreesSaid : Prop := bumpFreesRow.holds Try.pinned (OpenSpec.ofChange bumpFreesSpec)

/-- ITS FALSE NEIGHBOUR: 'it returns false'. Refute it at one input. -/
def bumpFreesWrong : ChangeSpec := { name := "bumpFrees", fn := fun _ => fun
  | [d1, d2, d3] => { results := [.lit (.bool false)], args := [d1, d2, d3] }
  | _ => none }
def BumpFreesWrongFalsely : Prop := bumpFreesRow.holds Try.pinned (OpenSpec.ofChange bumpFreesWrong)

/-- 'middenlaw15.BumpLays': WHATEVER THE INPUT: true; the input reads as it did. -/
def bumpLaysSpec : ChangeSpec := { name := "bumpLays", fn := fun _ => fun
  | [d1, d2, d3] => { results := [.lit (.bool true)], args := [d1, d2, d3] }
  | _ => none }
def bumpLaysRow : OpenClaim := { program := "ytladhenjoipfpaa", sum := "2392b98c048dde4129a49a8ce03608e2d5defac1abd75e6f9fb5e40f14db44f7", func := "midden/middenlaw15.BumpLays", spec := "bumpLays", unfollowed := true, recurses := true, apart := false }
def BumpLaysSaid : Prop := bumpLaysRow.holds Try.pinned (OpenSpec.ofChange bumpLaysSpec)

/-- ITS FALSE NEIGHBOUR: 'it returns false'. Refute it at one input. -/
def bumpLaysWrong : ChangeSpec := { name := "bumpLays", fn := fun _ => fun
  | [d1, d2, d3] => { results := [.lit (.bool false)], args := [d1, d2, d3] }
  | _ => none }
def BumpLaysWrongFalsely : Prop := bumpLaysRow.holds Try.pinned (OpenSpec.ofChange bumpLaysWrong)

/- THE SECOND FORM. 'bulk': how many values and letters a reading holds, each counted each time it is reached (what is shared counts as often as it is met; a slice's spare places count too). A statement '..UptoSaid' is the law's where the arguments, and the package variables that the reading takes, are together of bulk at most 1048576: NARROWER than '..Said'. Prove '..Said' where nothing that the law and all that it calls make is longer than what came in: it says more and counts as full. Else prove '..UptoSaid'. A law counts once. -/
mutual
def uptoBulk {H : Type} : DataW H → Nat
  | .lit (.string bytes) => bytes.length + 1
  | .lit _ => 1
  | .nil => 1
  | .ptr d => uptoBulk d + 1
  | .slice elems spare => uptoBulkAll elems + uptoBulkAll spare + 1
  | .agg parts => uptoBulkAll parts + 1
  | .iface _ d => uptoBulk d + 1
  | .map entries => uptoBulkEntries entries + 1
  | .held _ => 1
def uptoBulkAll {H : Type} : List (DataW H) → Nat
  | [] => 0
  | d :: r => uptoBulk d + uptoBulkAll r
def uptoBulkEntries {H : Type} : List (Lit × DataW H) → Nat
  | [] => 0
  | x :: r => uptoBulkEntry x + uptoBulkEntries r
def uptoBulkEntry {H : Type} : Lit × DataW H → Nat
  | (.string bytes, d) => bytes.length + uptoBulk d + 1
  | (_, d) => uptoBulk d + 1
 end
def uptoSmall : (H : Type) → List (DataW H) → Bool := fun _ ds => decide (uptoBulkAll ds ≤ 1048576)
def OpenSpec.upto (s : _root_.Go.ChangeSpec) : _root_.Go.OpenSpec := { _root_.Go.OpenSpec.ofChange s with cond := some uptoSmall }

/-- 'middenlaw15.BumpLittle', WHERE WHAT IT READS IS OF BULK AT MOST 1048576: true; the input reads as it did. -/
def bumpLittleUptoRow : OpenClaim := { program := "ytladhenjoipfpaa", sum := "2392b98c048dde4129a49a8ce03608e2d5defac1abd75e6f9fb5e40f14db44f7", func := "midden/middenlaw15.BumpLittle", spec := "bumpLittle", unfollowed := true, recurses := true, apart := false, narrowed := true }
def BumpLittleUptoSaid : Prop := bumpLittleUptoRow.holds Try.pinned (OpenSpec.upto bumpLittleSpec)

/-- 'middenlaw15.BumpApart', WHERE WHAT IT READS IS OF BULK AT MOST 1048576: true; the input reads as it did. -/
def bumpApartUptoRow : OpenClaim := { program := "ytladhenjoipfpaa", sum := "2392b98c048dde4129a49a8ce03608e2d5defac1abd75e6f9fb5e40f14db44f7", func := "midden/middenlaw15.BumpApart", spec := "bumpApart", unfollowed := true, recurses := true, apart := false, narrowed := true }
def BumpApartUptoSaid : Prop := bumpApartUptoRow.holds Try.pinned (OpenSpec.upto bumpApartSpec)

/-- 'middenlaw15.BumpNone', WHERE WHAT IT READS IS OF BULK AT MOST 1048576: true; the input reads as it did. -/
def bumpNoneUptoRow : OpenClaim := { program := "ytladhenjoipfpaa", sum := "2392b98c048dde4129a49a8ce03608e2d5defac1abd75e6f9fb5e40f14db44f7", func := "midden/middenlaw15.BumpNone", spec := "bumpNone", unfollowed := true, recurses := true, apart := false, narrowed := true }
def BumpNoneUptoSaid : Prop := bumpNoneUptoRow.holds Try.pinned (OpenSpec.upto bumpNoneSpec)

/-- 'middenlaw15.BumpFrees', WHERE WHAT IT READS IS OF BULK AT MOST 1048576: true; the input reads as it did. -/
def bumpFreesUptoRow : OpenClaim := { program := "ytladhenjoipfpaa", sum := "2392b98c048dde4129a49a8ce03608e2d5defac1abd75e6f9fb5e40f14db44f7", func := "midden/middenlaw15.BumpFrees", spec := "bumpFrees", unfollowed := true, recurses := true, apart := false, narrowed := true }
def BumpFreesUptoSaid : Prop := bumpFreesUptoRow.holds Try.pinned (OpenSpec.upto bumpFreesSpec)

/-- 'middenlaw15.BumpLays', WHERE WHAT IT READS IS OF BULK AT MOST 1048576: true; the input reads as it did. -/
def bumpLaysUptoRow : OpenClaim := { program := "ytladhenjoipfpaa", sum := "2392b98c048dde4129a49a8ce03608e2d5defac1abd75e6f9fb5e40f14db44f7", func := "midden/middenlaw15.BumpLays", spec := "bumpLays", unfollowed := true, recurses := true, apart := false, narrowed := true }
def BumpLaysUptoSaid : Prop := bumpLaysUptoRow.holds Try.pinned (OpenSpec.upto bumpLaysSpec)

end Rows
end Go.Proofs.Ytladhenjoipfpaa
