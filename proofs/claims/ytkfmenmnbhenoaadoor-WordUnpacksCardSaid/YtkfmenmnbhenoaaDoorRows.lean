/-
  NARROWER THAN 'FOR EVERY INPUT', by the rows' own cells (each row's printed sentence says how): WordUnpacks: laid · WordBack: laid · WordApart: laid.
  DERIVED. THE GIVEN ROWS OF THIS SEAT. 3 by the template 'for every input the law returns true; each argument reads behind the call as it read before'; 0 by the template 'total and deterministic' (their statements: YtkfmenmnbhenoaaDoorTotals.lean).
  GIVEN WITH THE SEED: the statements are not yours to turn. If you find one false, say at which input.
  Laid BY PROGRAM, IN A SANDBOX (cutbox-rows.mjs): the forced cells as the released guide's own fill.sh prints them over the translation 44adb3fbab12ea3b… (all of the seat's roots in one cut). By AI agents, Wed Nov 11 2026. No macro, syntax, notation, axiom, sorry.
-/
import Derived.Test.YtkfmenmnbhenoaaDoorChecked
import GoSem.Claim
import GoSem.ClaimJoined
import GoSem.ClaimMapViews
import Derived.JoinedTies
import Derived.KernelRfl
namespace Go.Proofs.YtkfmenmnbhenoaaDoor
/- THE CELL 'sum', in the pinned program and in every row, IS THE sha256 OF THE DUMP (.gsa) THAT YtkfmenmnbhenoaaDoorProg.lean LOADS. Nothing in Lean hashes anything: it is a label: what it is worth is what the hold of that sum in a sandbox is worth. -/
noncomputable def Tryd.pinned : Pinned := { name := "ytkfmenmnbhenoaadoor", sum := "44adb3fbab12ea3b965f50c24918c230d992810a5c62aa1882e597fc8a0a084a", checked := Tryd.checked }
namespace Rows
def none {H : Type} : Left H := { results := [], args := [] }

/- WHAT THE LISTED PACKAGE-LEVEL VARIABLES READ AS WHEN THE CALL BEGINS. Each datum BY PROGRAM (the guide's laid-datum.mjs) off the statement by which the dump's own 'gosem.cut.vars' lays the variable. In a bare row this is a premise. The card (YtkfmenmnbhenoaaDoorCards.lean) ties it to the program's text. -/
def laid_midden_word_masks {H : Type} : DataW H := .agg [.lit (.int .u64 15), .lit (.int .u64 4095), .lit (.int .u64 4095), .lit (.int .u64 1048575)]

/-- 'middenlaw01.WordUnpacks': WHATEVER THE INPUT: true; the input reads as it did. -/
def wordUnpacksSpec : ChangeSpec := { name := "wordUnpacks", fn := fun _ => fun
  | [d] => { results := [.lit (.bool true)], args := [d] }
  | _ => none }
def wordUnpacksRow : OpenClaim := { program := "ytkfmenmnbhenoaadoor", sum := "44adb3fbab12ea3b965f50c24918c230d992810a5c62aa1882e597fc8a0a084a", func := "midden/middenlaw01.WordUnpacks", spec := "wordUnpacks", named := ["midden/word.masks"], apart := false, laid := [("midden/word.masks", laid_midden_word_masks)] }
def WordUnpacksSaid : Prop := wordUnpacksRow.holds Tryd.pinned (OpenSpec.ofChange wordUnpacksSpec)

/-- ITS FALSE NEIGHBOUR: 'it returns false'. Refute it at one input. -/
def wordUnpacksWrong : ChangeSpec := { name := "wordUnpacks", fn := fun _ => fun
  | [d] => { results := [.lit (.bool false)], args := [d] }
  | _ => none }
def WordUnpacksWrongFalsely : Prop := wordUnpacksRow.holds Tryd.pinned (OpenSpec.ofChange wordUnpacksWrong)

/-- 'middenlaw01.WordBack': WHATEVER THE INPUT: true; the input reads as it did. -/
def wordBackSpec : ChangeSpec := { name := "wordBack", fn := fun _ => fun
  | [d1, d2] => { results := [.lit (.bool true)], args := [d1, d2] }
  | _ => none }
def wordBackRow : OpenClaim := { program := "ytkfmenmnbhenoaadoor", sum := "44adb3fbab12ea3b965f50c24918c230d992810a5c62aa1882e597fc8a0a084a", func := "midden/middenlaw01.WordBack", spec := "wordBack", named := ["midden/word.masks"], apart := false, laid := [("midden/word.masks", laid_midden_word_masks)] }
def WordBackSaid : Prop := wordBackRow.holds Tryd.pinned (OpenSpec.ofChange wordBackSpec)

/-- ITS FALSE NEIGHBOUR: 'it returns false'. Refute it at one input. -/
def wordBackWrong : ChangeSpec := { name := "wordBack", fn := fun _ => fun
  | [d1, d2] => { results := [.lit (.bool false)], args := [d1, d2] }
  | _ => none }
def WordBackWrongFalsely : Prop := wordBackRow.holds Tryd.pinned (OpenSpec.ofChange wordBackWrong)

/-- 'middenlaw01.WordApart': WHATEVER THE INPUT: true; the input reads as it did. -/
def wordApartSpec : ChangeSpec := { name := "wordApart", fn := fun _ => fun
  | [d1, d2, d3] => { results := [.lit (.bool true)], args := [d1, d2, d3] }
  | _ => none }
def wordApartRow : OpenClaim := { program := "ytkfmenmnbhenoaadoor", sum := "44adb3fbab12ea3b965f50c24918c230d992810a5c62aa1882e597fc8a0a084a", func := "midden/middenlaw01.WordApart", spec := "wordApart", named := ["midden/word.masks"], apart := false, laid := [("midden/word.masks", laid_midden_word_masks)] }
def WordApartSaid : Prop := wordApartRow.holds Tryd.pinned (OpenSpec.ofChange wordApartSpec)

/-- ITS FALSE NEIGHBOUR: 'it returns false'. Refute it at one input. -/
def wordApartWrong : ChangeSpec := { name := "wordApart", fn := fun _ => fun
  | [d1, d2, d3] => { results := [.lit (.bool false)], args := [d1, d2, d3] }
  | _ => none }
def WordApartWrongFalsely : Prop := wordApartRow.holds Tryd.pinned (OpenSpec.ofChange wordApartWrong)

/- THE SECOND FORM. 'bulk': how many values and letters a reading holds, each counted each time it is reached (what is shared counts as often as it is met; a slice's spare places count too). A statement '..UptoSaid' is the law's where the arguments, and the package variables that the reading takes, are together of bulk at most 1048576: NARROWER than '..Said'. Prove '..Said' where nothing that the law and all that it calls make is longer than what came in: it says more and counts as full. Else prove '..UptoSaid'. A law counts once. -/
mutual
def uptoBulk {H : Type} : DataW H → Nat
  | .lit (.string bytes) => bytes.length + 1
  | .lit _ => 1
  | .nil => 1
  | .ptr d => uptoBulk d + 1
  | .slice elems spare => uptoBulkAll elems + uptoBulkAll spare + 1
  | .agg parts => uptoBulkAll parts + 1
  | .iface _ d => uptoBulk d + 1
  | .map entries => uptoBulkEntries entries + 1
  | .held _ => 1
def uptoBulkAll {H : Type} : List (DataW H) → Nat
  | [] => 0
  | d :: r => uptoBulk d + uptoBulkAll r
def uptoBulkEntries {H : Type} : List (Lit × DataW H) → Nat
  | [] => 0
  | x :: r => uptoBulkEntry x + uptoBulkEntries r
def uptoBulkEntry {H : Type} : Lit × DataW H → Nat
  | (.string bytes, d) => bytes.length + uptoBulk d + 1
  | (_, d) => uptoBulk d + 1
 end
def uptoSmall : (H : Type) → List (DataW H) → Bool := fun _ ds => decide (uptoBulkAll ds ≤ 1048576)
def OpenSpec.upto (s : _root_.Go.ChangeSpec) : _root_.Go.OpenSpec := { _root_.Go.OpenSpec.ofChange s with cond := some uptoSmall }

/-- 'middenlaw01.WordUnpacks', WHERE WHAT IT READS IS OF BULK AT MOST 1048576: true; the input reads as it did. -/
def wordUnpacksUptoRow : OpenClaim := { program := "ytkfmenmnbhenoaadoor", sum := "44adb3fbab12ea3b965f50c24918c230d992810a5c62aa1882e597fc8a0a084a", func := "midden/middenlaw01.WordUnpacks", spec := "wordUnpacks", named := ["midden/word.masks"], apart := false, laid := [("midden/word.masks", laid_midden_word_masks)], narrowed := true }
def WordUnpacksUptoSaid : Prop := wordUnpacksUptoRow.holds Tryd.pinned (OpenSpec.upto wordUnpacksSpec)

/-- 'middenlaw01.WordBack', WHERE WHAT IT READS IS OF BULK AT MOST 1048576: true; the input reads as it did. -/
def wordBackUptoRow : OpenClaim := { program := "ytkfmenmnbhenoaadoor", sum := "44adb3fbab12ea3b965f50c24918c230d992810a5c62aa1882e597fc8a0a084a", func := "midden/middenlaw01.WordBack", spec := "wordBack", named := ["midden/word.masks"], apart := false, laid := [("midden/word.masks", laid_midden_word_masks)], narrowed := true }
def WordBackUptoSaid : Prop := wordBackUptoRow.holds Tryd.pinned (OpenSpec.upto wordBackSpec)

/-- 'middenlaw01.WordApart', WHERE WHAT IT READS IS OF BULK AT MOST 1048576: true; the input reads as it did. -/
def wordApartUptoRow : OpenClaim := { program := "ytkfmenmnbhenoaadoor", sum := "44adb3fbab12ea3b965f50c24918c230d992810a5c62aa1882e597fc8a0a084a", func := "midden/middenlaw01.WordApart", spec := "wordApart", named := ["midden/word.masks"], apart := false, laid := [("midden/word.masks", laid_midden_word_masks)], narrowed := true }
def WordApartUptoSaid : Prop := wordApartUptoRow.holds Tryd.pinned (OpenSpec.upto wordApartSpec)

end Rows
end Go.Proofs.YtkfmenmnbhenoaaDoor
