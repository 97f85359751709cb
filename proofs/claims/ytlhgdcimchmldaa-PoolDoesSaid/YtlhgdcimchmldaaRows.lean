/-
  No cell of these rows narrows 'for every input' (looked for: loops, veiled, ifaces, maps, wideKeys, modest, calm, conditions, laid).
  DERIVED. THE GIVEN ROWS OF THIS SEAT. 5 by the template 'for every input the law returns true; each argument reads behind the call as it read before'; 0 by the template 'total and deterministic' (their statements: YtlhgdcimchmldaaTotals.lean).
  GIVEN WITH THE SEED: the statements are not yours to turn. If you find one false, say at which input.
  Laid BY PROGRAM, IN A SANDBOX (cutbox-rows.mjs): the forced cells as the released guide's own fill.sh prints them over the translation 2c54a0c99e99e23f… (all of the seat's roots in one cut). By AI agents, Wed Nov 11 2026. No macro, syntax, notation, axiom, sorry.
-/
import Derived.Test.YtlhgdcimchmldaaChecked
import GoSem.Claim
import GoSem.ClaimJoined
import GoSem.ClaimMapViews
import Derived.JoinedTies
import Derived.KernelRfl
namespace Go.Proofs.Ytlhgdcimchmldaa
/- THE CELL 'sum', in the pinned program and in every row, IS THE sha256 OF THE DUMP (.gsa) THAT YtlhgdcimchmldaaProg.lean LOADS. Nothing in Lean hashes anything: it is a label: what it is worth is what the hold of that sum in a sandbox is worth. -/
noncomputable def Try.pinned : Pinned := { name := "ytlhgdcimchmldaa", sum := "2c54a0c99e99e23f344a058d4adea98870ab91cff92aa5b6a59aebdf68f7d284", checked := Try.checked }
namespace Rows
def none {H : Type} : Left H := { results := [], args := [] }

/-- 'middenlaw03.PoolFits': WHATEVER THE INPUT: true; the input reads as it did. -/
def poolFitsSpec : ChangeSpec := { name := "poolFits", fn := fun _ => fun
  | [d1, d2, d3] => { results := [.lit (.bool true)], args := [d1, d2, d3] }
  | _ => none }
def poolFitsRow : OpenClaim := { program := "ytlhgdcimchmldaa", sum := "2c54a0c99e99e23f344a058d4adea98870ab91cff92aa5b6a59aebdf68f7d284", func := "midden/middenlaw03.PoolFits", spec := "poolFits", unfollowed := true, recurses := true, apart := false }
def PoolFitsSaid : Prop := poolFitsRow.holds Try.pinned (OpenSpec.ofChange poolFitsSpec)

/-- ITS FALSE NEIGHBOUR: 'it returns false'. Refute it at one input. -/
def poolFitsWrong : ChangeSpec := { name := "poolFits", fn := fun _ => fun
  | [d1, d2, d3] => { results := [.lit (.bool false)], args := [d1, d2, d3] }
  | _ => none }
def PoolFitsWrongFalsely : Prop := poolFitsRow.holds Try.pinned (OpenSpec.ofChange poolFitsWrong)

/-- 'middenlaw03.PoolApart': WHATEVER THE INPUT: true; the input reads as it did. -/
def poolApartSpec : ChangeSpec := { name := "poolApart", fn := fun _ => fun
  | [d1, d2] => { results := [.lit (.bool true)], args := [d1, d2] }
  | _ => none }
def poolApartRow : OpenClaim := { program := "ytlhgdcimchmldaa", sum := "2c54a0c99e99e23f344a058d4adea98870ab91cff92aa5b6a59aebdf68f7d284", func := "midden/middenlaw03.PoolApart", spec := "poolApart", unfollowed := true, recurses := true, apart := false }
def PoolApartSaid : Prop := poolApartRow.holds Try.pinned (OpenSpec.ofChange poolApartSpec)

/-- ITS FALSE NEIGHBOUR: 'it returns false'. Refute it at one input. -/
def poolApartWrong : ChangeSpec := { name := "poolApart", fn := fun _ => fun
  | [d1, d2] => { results := [.lit (.bool false)], args := [d1, d2] }
  | _ => none }
def PoolApartWrongFalsely : Prop := poolApartRow.holds Try.pinned (OpenSpec.ofChange poolApartWrong)

/-- 'middenlaw03.PoolJoins': WHATEVER THE INPUT: true; the input reads as it did. -/
def poolJoinsSpec : ChangeSpec := { name := "poolJoins", fn := fun _ => fun
  | [d1, d2, d3] => { results := [.lit (.bool true)], args := [d1, d2, d3] }
  | _ => none }
def poolJoinsRow : OpenClaim := { program := "ytlhgdcimchmldaa", sum := "2c54a0c99e99e23f344a058d4adea98870ab91cff92aa5b6a59aebdf68f7d284", func := "midden/middenlaw03.PoolJoins", spec := "poolJoins", unfollowed := true, recurses := true, apart := false }
def PoolJoinsSaid : Prop := poolJoinsRow.holds Try.pinned (OpenSpec.ofChange poolJoinsSpec)

/-- ITS FALSE NEIGHBOUR: 'it returns false'. Refute it at one input. -/
def poolJoinsWrong : ChangeSpec := { name := "poolJoins", fn := fun _ => fun
  | [d1, d2, d3] => { results := [.lit (.bool false)], args := [d1, d2, d3] }
  | _ => none }
def PoolJoinsWrongFalsely : Prop := poolJoinsRow.holds Try.pinned (OpenSpec.ofChange poolJoinsWrong)

/-- 'middenlaw03.PoolDoes': WHATEVER THE INPUT: true; the input reads as it did. -/
def poolDoesSpec : ChangeSpec := { name := "poolDoes", fn := fun _ => fun
  | [d1, d2] => { results := [.lit (.bool true)], args := [d1, d2] }
  | _ => none }
def poolDoesRow : OpenClaim := { program := "ytlhgdcimchmldaa", sum := "2c54a0c99e99e23f344a058d4adea98870ab91cff92aa5b6a59aebdf68f7d284", func := "midden/middenlaw03.PoolDoes", spec := "poolDoes", unfollowed := true, recurses := true, apart := false }
def PoolDoesSaid : Prop := poolDoesRow.holds Try.pinned (OpenSpec.ofChange poolDoesSpec)

/-- ITS FALSE NEIGHBOUR: 'it returns false'. Refute it at one input. -/
def poolDoesWrong : ChangeSpec := { name := "poolDoes", fn := fun _ => fun
  | [d1, d2] => { results := [.lit (.bool false)], args := [d1, d2] }
  | _ => none }
def PoolDoesWrongFalsely : Prop := poolDoesRow.holds Try.pinned (OpenSpec.ofChange poolDoesWrong)

/-- 'middenlaw03.PoolNone': WHATEVER THE INPUT: true; the input reads as it did. -/
def poolNoneSpec : ChangeSpec := { name := "poolNone", fn := fun _ => fun
  | [d] => { results := [.lit (.bool true)], args := [d] }
  | _ => none }
def poolNoneRow : OpenClaim := { program := "ytlhgdcimchmldaa", sum := "2c54a0c99e99e23f344a058d4adea98870ab91cff92aa5b6a59aebdf68f7d284", func := "midden/middenlaw03.PoolNone", spec := "poolNone", unfollowed := true, recurses := true, apart := false }
def PoolNoneSaid : Prop := poolNoneRow.holds Try.pinned (OpenSpec.ofChange poolNoneSpec)

/-- ITS FALSE NEIGHBOUR: 'it returns false'. Refute it at one input. -/
def poolNoneWrong : ChangeSpec := { name := "poolNone", fn := fun _ => fun
  | [d] => { results := [.lit (.bool false)], args := [d] }
  | _ => none }
def PoolNoneWrongFalsely : Prop := poolNoneRow.holds Try.pinned (OpenSpec.ofChange poolNoneWrong)

/- THE SECOND FORM. 'bulk': how many values and letters a reading holds, each counted each time it is reached (what is shared counts as often as it is met; a slice's spare places count too). A statement '..UptoSaid' is the law's where the arguments, and the package variables that the reading takes, are together of bulk at most 1048576: NARROWER than '..Said'. Prove '..Said' where nothing that the law and all that it calls make is longer than what came in: it says more and counts as full. Else prove '..UptoSaid'. A law counts once. -/
mutual
def uptoBulk {H : Type} : DataW H → Nat
  | .lit (.string bytes) => bytes.length + 1
  | .lit _ => 1
  | .nil => 1
  | .ptr d => uptoBulk d + 1
  | .slice elems spare => uptoBulkAll elems + uptoBulkAll spare + 1
  | .agg parts => uptoBulkAll parts + 1
  | .iface _ d => uptoBulk d + 1
  | .map entries => uptoBulkEntries entries + 1
  | .held _ => 1
def uptoBulkAll {H : Type} : List (DataW H) → Nat
  | [] => 0
  | d :: r => uptoBulk d + uptoBulkAll r
def uptoBulkEntries {H : Type} : List (Lit × DataW H) → Nat
  | [] => 0
  | x :: r => uptoBulkEntry x + uptoBulkEntries r
def uptoBulkEntry {H : Type} : Lit × DataW H → Nat
  | (.string bytes, d) => bytes.length + uptoBulk d + 1
  | (_, d) => uptoBulk d + 1
 end
def uptoSmall : (H : Type) → List (DataW H) → Bool := fun _ ds => decide (uptoBulkAll ds ≤ 1048576)
def OpenSpec.upto (s : _root_.Go.ChangeSpec) : _root_.Go.OpenSpec := { _root_.Go.OpenSpec.ofChange s with cond := some uptoSmall }

/-- 'middenlaw03.PoolFits', WHERE WHAT IT READS IS OF BULK AT MOST 1048576: true; the input reads as it did. -/
def poolFitsUptoRow : OpenClaim := { program := "ytlhgdcimchmldaa", sum := "2c54a0c99e99e23f344a058d4adea98870ab91cff92aa5b6a59aebdf68f7d284", func := "midden/middenlaw03.PoolFits", spec := "poolFits", unfollowed := true, recurses := true, apart := false, narrowed := true }
def PoolFitsUptoSaid : Prop := poolFitsUptoRow.holds Try.pinned (OpenSpec.upto poolFitsSpec)

/-- 'middenlaw03.PoolApart', WHERE WHAT IT READS IS OF BULK AT MOST 1048576: true; the input reads as it did. -/
def poolApartUptoRow : OpenClaim := { program := "ytlhgdcimchmldaa", sum := "2c54a0c99e99e23f344a058d4adea98870ab91cff92aa5b6a59aebdf68f7d284", func := "midden/middenlaw03.PoolApart", spec := "poolApart", unfollowed := true, recurses := true, apart := false, narrowed := true }
def PoolApartUptoSaid : Prop := poolApartUptoRow.holds Try.pinned (OpenSpec.upto poolApartSpec)

/-- 'middenlaw03.PoolJoins', WHERE WHAT IT READS IS OF BULK AT MOST 1048576: true; the input reads as it did. -/
def poolJoinsUptoRow : OpenClaim := { program := "ytlhgdcimchmldaa", sum := "2c54a0c99e99e23f344a058d4adea98870ab91cff92aa5b6a59aebdf68f7d284", func := "midden/middenlaw03.PoolJoins", spec := "poolJoins", unfollowed := true, recurses := true, apart := false, narrowed := true }
def PoolJoinsUptoSaid : Prop := poolJoinsUptoRow.holds Try.pinned (OpenSpec.upto poolJoinsSpec)

/-- 'middenlaw03.PoolDoes', WHERE WHAT IT READS IS OF BULK AT MOST 1048576: true; the input reads as it did. -/
def poolDoesUptoRow : OpenClaim := { program := "ytlhgdcimchmldaa", sum := "2c54a0c99e99e23f344a058d4adea98870ab91cff92aa5b6a59aebdf68f7d284", func := "midden/middenlaw03.PoolDoes", spec := "poolDoes", unfollowed := true, recurses := true, apart := false, narrowed := true }
def PoolDoesUptoSaid : Prop := poolDoesUptoRow.holds Try.pinned (OpenSpec.upto poolDoesSpec)

/-- 'middenlaw03.PoolNone', WHERE WHAT IT READS IS OF BULK AT MOST 1048576: true; the input reads as it did. -/
def poolNoneUptoRow : OpenClaim := { program := "ytlhgdcimchmldaa", sum := "2c54a0c99e99e23f344a058d4adea98870ab91cff92aa5b6a59aebdf68f7d284", func := "midden/middenlaw03.PoolNone", spec := "poolNone", unfollowed := true, recurses := true, apart := false, narrowed := true }
def PoolNoneUptoSaid : Prop := poolNoneUptoRow.holds Try.pinned (OpenSpec.upto poolNoneSpec)

end Rows
end Go.Proofs.Ytlhgdcimchmldaa
