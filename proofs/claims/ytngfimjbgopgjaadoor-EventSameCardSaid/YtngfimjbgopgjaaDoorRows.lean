/-
  NARROWER THAN 'FOR EVERY INPUT', by the rows' own cells (each row's printed sentence says how): EventCodes: laid · EventBack: laid · EventSame: laid · EventLines: laid.
  DERIVED. THE GIVEN ROWS OF THIS SEAT. 4 by the template 'for every input the law returns true; each argument reads behind the call as it read before'; 0 by the template 'total and deterministic' (their statements: YtngfimjbgopgjaaDoorTotals.lean).
  GIVEN WITH THE SEED: the statements are not yours to turn. If you find one false, say at which input.
  Laid BY PROGRAM, IN A SANDBOX (cutbox-rows.mjs): the forced cells as the released guide's own fill.sh prints them over the translation c716b9218c4c1c96… (all of the seat's roots in one cut). By AI agents, Wed Nov 11 2026. No macro, syntax, notation, axiom, sorry.
-/
import Derived.Test.YtngfimjbgopgjaaDoorChecked
import GoSem.Claim
import GoSem.ClaimJoined
import GoSem.ClaimMapViews
import Derived.JoinedTies
import Derived.KernelRfl
namespace Go.Proofs.YtngfimjbgopgjaaDoor
/- THE CELL 'sum', in the pinned program and in every row, IS THE sha256 OF THE DUMP (.gsa) THAT YtngfimjbgopgjaaDoorProg.lean LOADS. Nothing in Lean hashes anything: it is a label: what it is worth is what the hold of that sum in a sandbox is worth. -/
noncomputable def Tryd.pinned : Pinned := { name := "ytngfimjbgopgjaadoor", sum := "c716b9218c4c1c969f910348e631a88741e15f742ee630964e4f6f98f97b1158", checked := Tryd.checked }
namespace Rows
def none {H : Type} : Left H := { results := [], args := [] }

/- WHAT THE LISTED PACKAGE-LEVEL VARIABLES READ AS WHEN THE CALL BEGINS. Each datum BY PROGRAM (the guide's laid-datum.mjs) off the statement by which the dump's own 'gosem.cut.vars' lays the variable. In a bare row this is a premise. The card (YtngfimjbgopgjaaDoorCards.lean) ties it to the program's text. -/
def laid_cutover_cutoverhand_names {H : Type} : DataW H := .agg [.lit (.string [97]), .lit (.string [98]), .lit (.string [106, 111, 98, 45, 49]), .lit (.string [122, 57]), .lit (.string [109]), .lit (.string [120, 45])]

/-- 'cutoverlaw10.EventCodes': WHATEVER THE INPUT: true; the input reads as it did. -/
def eventCodesSpec : ChangeSpec := { name := "eventCodes", fn := fun _ => fun
  | [d1, d2, d3, d4, d5, d6, d7] => { results := [.lit (.bool true)], args := [d1, d2, d3, d4, d5, d6, d7] }
  | _ => none }
def eventCodesRow : OpenClaim := { program := "ytngfimjbgopgjaadoor", sum := "c716b9218c4c1c969f910348e631a88741e15f742ee630964e4f6f98f97b1158", func := "cutover/cutoverlaw10.EventCodes", spec := "eventCodes", unfollowed := true, recurses := true, named := ["cutover/cutoverhand.names"], apart := false, laid := [("cutover/cutoverhand.names", laid_cutover_cutoverhand_names)] }
def EventCodesSaid : Prop := eventCodesRow.holds Tryd.pinned (OpenSpec.ofChange eventCodesSpec)

/-- ITS FALSE NEIGHBOUR: 'it returns false'. Refute it at one input. -/
def eventCodesWrong : ChangeSpec := { name := "eventCodes", fn := fun _ => fun
  | [d1, d2, d3, d4, d5, d6, d7] => { results := [.lit (.bool false)], args := [d1, d2, d3, d4, d5, d6, d7] }
  | _ => none }
def EventCodesWrongFalsely : Prop := eventCodesRow.holds Tryd.pinned (OpenSpec.ofChange eventCodesWrong)

/-- 'cutoverlaw10.EventBack': WHATEVER THE INPUT: true; the input reads as it did. -/
def eventBackSpec : ChangeSpec := { name := "eventBack", fn := fun _ => fun
  | [d1, d2, d3] => { results := [.lit (.bool true)], args := [d1, d2, d3] }
  | _ => none }
def eventBackRow : OpenClaim := { program := "ytngfimjbgopgjaadoor", sum := "c716b9218c4c1c969f910348e631a88741e15f742ee630964e4f6f98f97b1158", func := "cutover/cutoverlaw10.EventBack", spec := "eventBack", unfollowed := true, recurses := true, named := ["cutover/cutoverhand.names"], apart := false, laid := [("cutover/cutoverhand.names", laid_cutover_cutoverhand_names)] }
def EventBackSaid : Prop := eventBackRow.holds Tryd.pinned (OpenSpec.ofChange eventBackSpec)

/-- ITS FALSE NEIGHBOUR: 'it returns false'. Refute it at one input. -/
def eventBackWrong : ChangeSpec := { name := "eventBack", fn := fun _ => fun
  | [d1, d2, d3] => { results := [.lit (.bool false)], args := [d1, d2, d3] }
  | _ => none }
def EventBackWrongFalsely : Prop := eventBackRow.holds Tryd.pinned (OpenSpec.ofChange eventBackWrong)

/-- 'cutoverlaw10.EventSame': WHATEVER THE INPUT: true; the input reads as it did. -/
def eventSameSpec : ChangeSpec := { name := "eventSame", fn := fun _ => fun
  | [d1, d2, d3, d4, d5, d6] => { results := [.lit (.bool true)], args := [d1, d2, d3, d4, d5, d6] }
  | _ => none }
def eventSameRow : OpenClaim := { program := "ytngfimjbgopgjaadoor", sum := "c716b9218c4c1c969f910348e631a88741e15f742ee630964e4f6f98f97b1158", func := "cutover/cutoverlaw10.EventSame", spec := "eventSame", unfollowed := true, recurses := true, named := ["cutover/cutoverhand.names"], apart := false, laid := [("cutover/cutoverhand.names", laid_cutover_cutoverhand_names)] }
def EventSameSaid : Prop := eventSameRow.holds Tryd.pinned (OpenSpec.ofChange eventSameSpec)

/-- ITS FALSE NEIGHBOUR: 'it returns false'. Refute it at one input. -/
def eventSameWrong : ChangeSpec := { name := "eventSame", fn := fun _ => fun
  | [d1, d2, d3, d4, d5, d6] => { results := [.lit (.bool false)], args := [d1, d2, d3, d4, d5, d6] }
  | _ => none }
def EventSameWrongFalsely : Prop := eventSameRow.holds Tryd.pinned (OpenSpec.ofChange eventSameWrong)

/-- 'cutoverlaw10.EventLines': WHATEVER THE INPUT: true; the input reads as it did. -/
def eventLinesSpec : ChangeSpec := { name := "eventLines", fn := fun _ => fun
  | [d1, d2, d3, d4, d5] => { results := [.lit (.bool true)], args := [d1, d2, d3, d4, d5] }
  | _ => none }
def eventLinesRow : OpenClaim := { program := "ytngfimjbgopgjaadoor", sum := "c716b9218c4c1c969f910348e631a88741e15f742ee630964e4f6f98f97b1158", func := "cutover/cutoverlaw10.EventLines", spec := "eventLines", unfollowed := true, recurses := true, named := ["cutover/cutoverhand.names"], apart := false, laid := [("cutover/cutoverhand.names", laid_cutover_cutoverhand_names)] }
def EventLinesSaid : Prop := eventLinesRow.holds Tryd.pinned (OpenSpec.ofChange eventLinesSpec)

/-- ITS FALSE NEIGHBOUR: 'it returns false'. Refute it at one input. -/
def eventLinesWrong : ChangeSpec := { name := "eventLines", fn := fun _ => fun
  | [d1, d2, d3, d4, d5] => { results := [.lit (.bool false)], args := [d1, d2, d3, d4, d5] }
  | _ => none }
def EventLinesWrongFalsely : Prop := eventLinesRow.holds Tryd.pinned (OpenSpec.ofChange eventLinesWrong)

/- THE SECOND FORM. 'bulk': how many values and letters a reading holds, each counted each time it is reached (what is shared counts as often as it is met; a slice's spare places count too). A statement '..UptoSaid' is the law's where the arguments, and the package variables that the reading takes, are together of bulk at most 1048576: NARROWER than '..Said'. Prove '..Said' where nothing that the law and all that it calls make is longer than what came in: it says more and counts as full. Else prove '..UptoSaid'. A law counts once. -/
mutual
def uptoBulk {H : Type} : DataW H → Nat
  | .lit (.string bytes) => bytes.length + 1
  | .lit _ => 1
  | .nil => 1
  | .ptr d => uptoBulk d + 1
  | .slice elems spare => uptoBulkAll elems + uptoBulkAll spare + 1
  | .agg parts => uptoBulkAll parts + 1
  | .iface _ d => uptoBulk d + 1
  | .map entries => uptoBulkEntries entries + 1
  | .held _ => 1
def uptoBulkAll {H : Type} : List (DataW H) → Nat
  | [] => 0
  | d :: r => uptoBulk d + uptoBulkAll r
def uptoBulkEntries {H : Type} : List (Lit × DataW H) → Nat
  | [] => 0
  | x :: r => uptoBulkEntry x + uptoBulkEntries r
def uptoBulkEntry {H : Type} : Lit × DataW H → Nat
  | (.string bytes, d) => bytes.length + uptoBulk d + 1
  | (_, d) => uptoBulk d + 1
 end
def uptoSmall : (H : Type) → List (DataW H) → Bool := fun _ ds => decide (uptoBulkAll ds ≤ 1048576)
def OpenSpec.upto (s : _root_.Go.ChangeSpec) : _root_.Go.OpenSpec := { _root_.Go.OpenSpec.ofChange s with cond := some uptoSmall }

/-- 'cutoverlaw10.EventCodes', WHERE WHAT IT READS IS OF BULK AT MOST 1048576: true; the input reads as it did. -/
def eventCodesUptoRow : OpenClaim := { program := "ytngfimjbgopgjaadoor", sum := "c716b9218c4c1c969f910348e631a88741e15f742ee630964e4f6f98f97b1158", func := "cutover/cutoverlaw10.EventCodes", spec := "eventCodes", unfollowed := true, recurses := true, named := ["cutover/cutoverhand.names"], apart := false, laid := [("cutover/cutoverhand.names", laid_cutover_cutoverhand_names)], narrowed := true }
def EventCodesUptoSaid : Prop := eventCodesUptoRow.holds Tryd.pinned (OpenSpec.upto eventCodesSpec)

/-- 'cutoverlaw10.EventBack', WHERE WHAT IT READS IS OF BULK AT MOST 1048576: true; the input reads as it did. -/
def eventBackUptoRow : OpenClaim := { program := "ytngfimjbgopgjaadoor", sum := "c716b9218c4c1c969f910348e631a88741e15f742ee630964e4f6f98f97b1158", func := "cutover/cutoverlaw10.EventBack", spec := "eventBack", unfollowed := true, recurses := true, named := ["cutover/cutoverhand.names"], apart := false, laid := [("cutover/cutoverhand.names", laid_cutover_cutoverhand_names)], narrowed := true }
def EventBackUptoSaid : Prop := eventBackUptoRow.holds Tryd.pinned (OpenSpec.upto eventBackSpec)

/-- 'cutoverlaw10.EventSame', WHERE WHAT IT READS IS OF BULK AT MOST 1048576: true; the input reads as it did. -/
def eventSameUptoRow : OpenClaim := { program := "ytngfimjbgopgjaadoor", sum := "c716b9218c4c1c969f910348e631a88741e15f742ee630964e4f6f98f97b1158", func := "cutover/cutoverlaw10.EventSame", spec := "eventSame", unfollowed := true, recurses := true, named := ["cutover/cutoverhand.names"], apart := false, laid := [("cutover/cutoverhand.names", laid_cutover_cutoverhand_names)], narrowed := true }
def EventSameUptoSaid : Prop := eventSameUptoRow.holds Tryd.pinned (OpenSpec.upto eventSameSpec)

/-- 'cutoverlaw10.EventLines', WHERE WHAT IT READS IS OF BULK AT MOST 1048576: true; the input reads as it did. -/
def eventLinesUptoRow : OpenClaim := { program := "ytngfimjbgopgjaadoor", sum := "c716b9218c4c1c969f910348e631a88741e15f742ee630964e4f6f98f97b1158", func := "cutover/cutoverlaw10.EventLines", spec := "eventLines", unfollowed := true, recurses := true, named := ["cutover/cutoverhand.names"], apart := false, laid := [("cutover/cutoverhand.names", laid_cutover_cutoverhand_names)], narrowed := true }
def EventLinesUptoSaid : Prop := eventLinesUptoRow.holds Tryd.pinned (OpenSpec.upto eventLinesSpec)

end Rows
end Go.Proofs.YtngfimjbgopgjaaDoor
