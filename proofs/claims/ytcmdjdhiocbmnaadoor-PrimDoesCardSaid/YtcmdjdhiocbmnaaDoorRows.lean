/-
  NARROWER THAN 'FOR EVERY INPUT', by the rows' own cells (each row's printed sentence says how): PrimNames: laid · PrimDoes: laid · PrimParts: laid · PrimOrders: laid · PrimNeeds: laid.
  DERIVED. THE GIVEN ROWS OF THIS SEAT. 5 by the template 'for every input the law returns true; each argument reads behind the call as it read before'; 0 by the template 'total and deterministic' (their statements: YtcmdjdhiocbmnaaDoorTotals.lean).
  GIVEN WITH THE SEED: the statements are not yours to turn. If you find one false, say at which input.
  Laid BY PROGRAM, IN A SANDBOX (cutbox-rows.mjs): the forced cells as the released guide's own fill.sh prints them over the translation 023cb3b8cfd65481… (all of the seat's roots in one cut). By AI agents, Wed Nov 11 2026. No macro, syntax, notation, axiom, sorry.
-/
import Derived.Test.YtcmdjdhiocbmnaaDoorChecked
import GoSem.Claim
import GoSem.ClaimJoined
import GoSem.ClaimMapViews
import Derived.JoinedTies
import Derived.KernelRfl
namespace Go.Proofs.YtcmdjdhiocbmnaaDoor
/- THE CELL 'sum', in the pinned program and in every row, IS THE sha256 OF THE DUMP (.gsa) THAT YtcmdjdhiocbmnaaDoorProg.lean LOADS. Nothing in Lean hashes anything: it is a label: what it is worth is what the hold of that sum in a sandbox is worth. -/
noncomputable def Tryd.pinned : Pinned := { name := "ytcmdjdhiocbmnaadoor", sum := "023cb3b8cfd65481b110f1311dc8200534d3c391382e99d933aad112edde1259", checked := Tryd.checked }
namespace Rows
def none {H : Type} : Left H := { results := [], args := [] }

/- WHAT THE LISTED PACKAGE-LEVEL VARIABLES READ AS WHEN THE CALL BEGINS. Each datum BY PROGRAM (the guide's laid-datum.mjs) off the statement by which the dump's own 'gosem.cut.vars' lays the variable. In a bare row this is a premise. The card (YtcmdjdhiocbmnaaDoorCards.lean) ties it to the program's text. -/
def laid_midden_prim_table {H : Type} : DataW H := .agg [.agg [.lit (.string []), .lit (.int .i64 0), .agg [.lit (.int .i64 0), .lit (.int .i64 0), .lit (.int .i64 0)]], .agg [.lit (.string [35, 97, 100, 100]), .lit (.int .i64 2), .agg [.lit (.int .i64 2), .lit (.int .i64 2), .lit (.int .i64 0)]], .agg [.lit (.string [35, 115, 117, 98]), .lit (.int .i64 2), .agg [.lit (.int .i64 2), .lit (.int .i64 2), .lit (.int .i64 0)]], .agg [.lit (.string [35, 109, 117, 108]), .lit (.int .i64 2), .agg [.lit (.int .i64 2), .lit (.int .i64 2), .lit (.int .i64 0)]], .agg [.lit (.string [35, 100, 105, 118]), .lit (.int .i64 2), .agg [.lit (.int .i64 2), .lit (.int .i64 2), .lit (.int .i64 0)]], .agg [.lit (.string [35, 114, 101, 109]), .lit (.int .i64 2), .agg [.lit (.int .i64 2), .lit (.int .i64 2), .lit (.int .i64 0)]], .agg [.lit (.string [35, 101, 113]), .lit (.int .i64 2), .agg [.lit (.int .i64 2), .lit (.int .i64 2), .lit (.int .i64 0)]], .agg [.lit (.string [35, 108, 116]), .lit (.int .i64 2), .agg [.lit (.int .i64 2), .lit (.int .i64 2), .lit (.int .i64 0)]], .agg [.lit (.string [35, 101, 109, 105, 116]), .lit (.int .i64 1), .agg [.lit (.int .i64 2), .lit (.int .i64 0), .lit (.int .i64 0)]], .agg [.lit (.string [35, 115, 101, 113]), .lit (.int .i64 2), .agg [.lit (.int .i64 1), .lit (.int .i64 0), .lit (.int .i64 0)]], .agg [.lit (.string [35, 114, 101, 102]), .lit (.int .i64 1), .agg [.lit (.int .i64 0), .lit (.int .i64 0), .lit (.int .i64 0)]], .agg [.lit (.string [35, 103, 101, 116]), .lit (.int .i64 1), .agg [.lit (.int .i64 3), .lit (.int .i64 0), .lit (.int .i64 0)]], .agg [.lit (.string [35, 115, 101, 116]), .lit (.int .i64 2), .agg [.lit (.int .i64 3), .lit (.int .i64 0), .lit (.int .i64 0)]], .agg [.lit (.string [35, 97, 114, 114]), .lit (.int .i64 2), .agg [.lit (.int .i64 2), .lit (.int .i64 0), .lit (.int .i64 0)]], .agg [.lit (.string [35, 97, 116]), .lit (.int .i64 2), .agg [.lit (.int .i64 4), .lit (.int .i64 2), .lit (.int .i64 0)]], .agg [.lit (.string [35, 112, 117, 116]), .lit (.int .i64 3), .agg [.lit (.int .i64 4), .lit (.int .i64 2), .lit (.int .i64 0)]], .agg [.lit (.string [35, 108, 101, 110]), .lit (.int .i64 1), .agg [.lit (.int .i64 4), .lit (.int .i64 0), .lit (.int .i64 0)]]]

/-- 'middenlaw08.PrimNames': WHATEVER THE INPUT: true; the input reads as it did. -/
def primNamesSpec : ChangeSpec := { name := "primNames", fn := fun _ => fun
  | [d1, d2] => { results := [.lit (.bool true)], args := [d1, d2] }
  | _ => none }
def primNamesRow : OpenClaim := { program := "ytcmdjdhiocbmnaadoor", sum := "023cb3b8cfd65481b110f1311dc8200534d3c391382e99d933aad112edde1259", func := "midden/middenlaw08.PrimNames", spec := "primNames", named := ["midden/prim.table"], apart := false, laid := [("midden/prim.table", laid_midden_prim_table)] }
def PrimNamesSaid : Prop := primNamesRow.holds Tryd.pinned (OpenSpec.ofChange primNamesSpec)

/-- ITS FALSE NEIGHBOUR: 'it returns false'. Refute it at one input. -/
def primNamesWrong : ChangeSpec := { name := "primNames", fn := fun _ => fun
  | [d1, d2] => { results := [.lit (.bool false)], args := [d1, d2] }
  | _ => none }
def PrimNamesWrongFalsely : Prop := primNamesRow.holds Tryd.pinned (OpenSpec.ofChange primNamesWrong)

/-- 'middenlaw08.PrimDoes': WHATEVER THE INPUT: true; the input reads as it did. -/
def primDoesSpec : ChangeSpec := { name := "primDoes", fn := fun _ => fun
  | [d1, d2, d3] => { results := [.lit (.bool true)], args := [d1, d2, d3] }
  | _ => none }
def primDoesRow : OpenClaim := { program := "ytcmdjdhiocbmnaadoor", sum := "023cb3b8cfd65481b110f1311dc8200534d3c391382e99d933aad112edde1259", func := "midden/middenlaw08.PrimDoes", spec := "primDoes", named := ["midden/prim.table"], apart := false, laid := [("midden/prim.table", laid_midden_prim_table)] }
def PrimDoesSaid : Prop := primDoesRow.holds Tryd.pinned (OpenSpec.ofChange primDoesSpec)

/-- ITS FALSE NEIGHBOUR: 'it returns false'. Refute it at one input. -/
def primDoesWrong : ChangeSpec := { name := "primDoes", fn := fun _ => fun
  | [d1, d2, d3] => { results := [.lit (.bool false)], args := [d1, d2, d3] }
  | _ => none }
def PrimDoesWrongFalsely : Prop := primDoesRow.holds Tryd.pinned (OpenSpec.ofChange primDoesWrong)

/-- 'middenlaw08.PrimParts': WHATEVER THE INPUT: true; the input reads as it did. -/
def primPartsSpec : ChangeSpec := { name := "primParts", fn := fun _ => fun
  | [d1, d2] => { results := [.lit (.bool true)], args := [d1, d2] }
  | _ => none }
def primPartsRow : OpenClaim := { program := "ytcmdjdhiocbmnaadoor", sum := "023cb3b8cfd65481b110f1311dc8200534d3c391382e99d933aad112edde1259", func := "midden/middenlaw08.PrimParts", spec := "primParts", named := ["midden/prim.table"], apart := false, laid := [("midden/prim.table", laid_midden_prim_table)] }
def PrimPartsSaid : Prop := primPartsRow.holds Tryd.pinned (OpenSpec.ofChange primPartsSpec)

/-- ITS FALSE NEIGHBOUR: 'it returns false'. Refute it at one input. -/
def primPartsWrong : ChangeSpec := { name := "primParts", fn := fun _ => fun
  | [d1, d2] => { results := [.lit (.bool false)], args := [d1, d2] }
  | _ => none }
def PrimPartsWrongFalsely : Prop := primPartsRow.holds Tryd.pinned (OpenSpec.ofChange primPartsWrong)

/-- 'middenlaw08.PrimOrders': WHATEVER THE INPUT: true; the input reads as it did. -/
def primOrdersSpec : ChangeSpec := { name := "primOrders", fn := fun _ => fun
  | [d1, d2] => { results := [.lit (.bool true)], args := [d1, d2] }
  | _ => none }
def primOrdersRow : OpenClaim := { program := "ytcmdjdhiocbmnaadoor", sum := "023cb3b8cfd65481b110f1311dc8200534d3c391382e99d933aad112edde1259", func := "midden/middenlaw08.PrimOrders", spec := "primOrders", named := ["midden/prim.table"], apart := false, laid := [("midden/prim.table", laid_midden_prim_table)] }
def PrimOrdersSaid : Prop := primOrdersRow.holds Tryd.pinned (OpenSpec.ofChange primOrdersSpec)

/-- ITS FALSE NEIGHBOUR: 'it returns false'. Refute it at one input. -/
def primOrdersWrong : ChangeSpec := { name := "primOrders", fn := fun _ => fun
  | [d1, d2] => { results := [.lit (.bool false)], args := [d1, d2] }
  | _ => none }
def PrimOrdersWrongFalsely : Prop := primOrdersRow.holds Tryd.pinned (OpenSpec.ofChange primOrdersWrong)

/-- 'middenlaw08.PrimNeeds': WHATEVER THE INPUT: true; the input reads as it did. -/
def primNeedsSpec : ChangeSpec := { name := "primNeeds", fn := fun _ => fun
  | [d1, d2] => { results := [.lit (.bool true)], args := [d1, d2] }
  | _ => none }
def primNeedsRow : OpenClaim := { program := "ytcmdjdhiocbmnaadoor", sum := "023cb3b8cfd65481b110f1311dc8200534d3c391382e99d933aad112edde1259", func := "midden/middenlaw08.PrimNeeds", spec := "primNeeds", named := ["midden/prim.table"], apart := false, laid := [("midden/prim.table", laid_midden_prim_table)] }
def PrimNeedsSaid : Prop := primNeedsRow.holds Tryd.pinned (OpenSpec.ofChange primNeedsSpec)

/-- ITS FALSE NEIGHBOUR: 'it returns false'. Refute it at one input. -/
def primNeedsWrong : ChangeSpec := { name := "primNeeds", fn := fun _ => fun
  | [d1, d2] => { results := [.lit (.bool false)], args := [d1, d2] }
  | _ => none }
def PrimNeedsWrongFalsely : Prop := primNeedsRow.holds Tryd.pinned (OpenSpec.ofChange primNeedsWrong)

/- THE SECOND FORM. 'bulk': how many values and letters a reading holds, each counted each time it is reached (what is shared counts as often as it is met; a slice's spare places count too). A statement '..UptoSaid' is the law's where the arguments, and the package variables that the reading takes, are together of bulk at most 1048576: NARROWER than '..Said'. Prove '..Said' where nothing that the law and all that it calls make is longer than what came in: it says more and counts as full. Else prove '..UptoSaid'. A law counts once. -/
mutual
def uptoBulk {H : Type} : DataW H → Nat
  | .lit (.string bytes) => bytes.length + 1
  | .lit _ => 1
  | .nil => 1
  | .ptr d => uptoBulk d + 1
  | .slice elems spare => uptoBulkAll elems + uptoBulkAll spare + 1
  | .agg parts => uptoBulkAll parts + 1
  | .iface _ d => uptoBulk d + 1
  | .map entries => uptoBulkEntries entries + 1
  | .held _ => 1
def uptoBulkAll {H : Type} : List (DataW H) → Nat
  | [] => 0
  | d :: r => uptoBulk d + uptoBulkAll r
def uptoBulkEntries {H : Type} : List (Lit × DataW H) → Nat
  | [] => 0
  | x :: r => uptoBulkEntry x + uptoBulkEntries r
def uptoBulkEntry {H : Type} : Lit × DataW H → Nat
  | (.string bytes, d) => bytes.length + uptoBulk d + 1
  | (_, d) => uptoBulk d + 1
 end
def uptoSmall : (H : Type) → List (DataW H) → Bool := fun _ ds => decide (uptoBulkAll ds ≤ 1048576)
def OpenSpec.upto (s : _root_.Go.ChangeSpec) : _root_.Go.OpenSpec := { _root_.Go.OpenSpec.ofChange s with cond := some uptoSmall }

/-- 'middenlaw08.PrimNames', WHERE WHAT IT READS IS OF BULK AT MOST 1048576: true; the input reads as it did. -/
def primNamesUptoRow : OpenClaim := { program := "ytcmdjdhiocbmnaadoor", sum := "023cb3b8cfd65481b110f1311dc8200534d3c391382e99d933aad112edde1259", func := "midden/middenlaw08.PrimNames", spec := "primNames", named := ["midden/prim.table"], apart := false, laid := [("midden/prim.table", laid_midden_prim_table)], narrowed := true }
def PrimNamesUptoSaid : Prop := primNamesUptoRow.holds Tryd.pinned (OpenSpec.upto primNamesSpec)

/-- 'middenlaw08.PrimDoes', WHERE WHAT IT READS IS OF BULK AT MOST 1048576: true; the input reads as it did. -/
def primDoesUptoRow : OpenClaim := { program := "ytcmdjdhiocbmnaadoor", sum := "023cb3b8cfd65481b110f1311dc8200534d3c391382e99d933aad112edde1259", func := "midden/middenlaw08.PrimDoes", spec := "primDoes", named := ["midden/prim.table"], apart := false, laid := [("midden/prim.table", laid_midden_prim_table)], narrowed := true }
def PrimDoesUptoSaid : Prop := primDoesUptoRow.holds Tryd.pinned (OpenSpec.upto primDoesSpec)

/-- 'middenlaw08.PrimParts', WHERE WHAT IT READS IS OF BULK AT MOST 1048576: true; the input reads as it did. -/
def primPartsUptoRow : OpenClaim := { program := "ytcmdjdhiocbmnaadoor", sum := "023cb3b8cfd65481b110f1311dc8200534d3c391382e99d933aad112edde1259", func := "midden/middenlaw08.PrimParts", spec := "primParts", named := ["midden/prim.table"], apart := false, laid := [("midden/prim.table", laid_midden_prim_table)], narrowed := true }
def PrimPartsUptoSaid : Prop := primPartsUptoRow.holds Tryd.pinned (OpenSpec.upto primPartsSpec)

/-- 'middenlaw08.PrimOrders', WHERE WHAT IT READS IS OF BULK AT MOST 1048576: true; the input reads as it did. -/
def primOrdersUptoRow : OpenClaim := { program := "ytcmdjdhiocbmnaadoor", sum := "023cb3b8cfd65481b110f1311dc8200534d3c391382e99d933aad112edde1259", func := "midden/middenlaw08.PrimOrders", spec := "primOrders", named := ["midden/prim.table"], apart := false, laid := [("midden/prim.table", laid_midden_prim_table)], narrowed := true }
def PrimOrdersUptoSaid : Prop := primOrdersUptoRow.holds Tryd.pinned (OpenSpec.upto primOrdersSpec)

/-- 'middenlaw08.PrimNeeds', WHERE WHAT IT READS IS OF BULK AT MOST 1048576: true; the input reads as it did. -/
def primNeedsUptoRow : OpenClaim := { program := "ytcmdjdhiocbmnaadoor", sum := "023cb3b8cfd65481b110f1311dc8200534d3c391382e99d933aad112edde1259", func := "midden/middenlaw08.PrimNeeds", spec := "primNeeds", named := ["midden/prim.table"], apart := false, laid := [("midden/prim.table", laid_midden_prim_table)], narrowed := true }
def PrimNeedsUptoSaid : Prop := primNeedsUptoRow.holds Tryd.pinned (OpenSpec.upto primNeedsSpec)

end Rows
end Go.Proofs.YtcmdjdhiocbmnaaDoor
