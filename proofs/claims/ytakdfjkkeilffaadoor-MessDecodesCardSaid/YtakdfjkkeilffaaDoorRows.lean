/-
  NARROWER THAN 'FOR EVERY INPUT', by the rows' own cells (each row's printed sentence says how): CodeSums: laid · CodeTorn: laid · CodeFrames: laid · CodeFramed: laid · MessDecodes: laid · MessBack: laid · MessUnlike: laid.
  DERIVED. THE GIVEN ROWS OF THIS SEAT. 7 by the template 'for every input the law returns true; each argument reads behind the call as it read before'; 0 by the template 'total and deterministic' (their statements: YtakdfjkkeilffaaDoorTotals.lean).
  GIVEN WITH THE SEED: the statements are not yours to turn. If you find one false, say at which input.
  Laid BY PROGRAM, IN A SANDBOX (cutbox-rows.mjs): the forced cells as the released guide's own fill.sh prints them over the translation 29472463d2341594… (all of the seat's roots in one cut). By AI agents, Wed Nov 11 2026. No macro, syntax, notation, axiom, sorry.
-/
import Derived.Test.YtakdfjkkeilffaaDoorChecked
import GoSem.Claim
import GoSem.ClaimJoined
import GoSem.ClaimMapViews
import Derived.JoinedTies
import Derived.KernelRfl
namespace Go.Proofs.YtakdfjkkeilffaaDoor
/- THE CELL 'sum', in the pinned program and in every row, IS THE sha256 OF THE DUMP (.gsa) THAT YtakdfjkkeilffaaDoorProg.lean LOADS. Nothing in Lean hashes anything: it is a label: what it is worth is what the hold of that sum in a sandbox is worth. -/
noncomputable def Tryd.pinned : Pinned := { name := "ytakdfjkkeilffaadoor", sum := "29472463d23415942fb2049261c28ffe9229df41fbc8b20f45e22c47eb23715e", checked := Tryd.checked }
namespace Rows
def none {H : Type} : Left H := { results := [], args := [] }

/- WHAT THE LISTED PACKAGE-LEVEL VARIABLES READ AS WHEN THE CALL BEGINS. Each datum BY PROGRAM (the guide's laid-datum.mjs) off the statement by which the dump's own 'gosem.cut.vars' lays the variable. In a bare row this is a premise. The card (YtakdfjkkeilffaaDoorCards.lean) ties it to the program's text. -/
def laid_flyover_code_quarters {H : Type} : DataW H := .agg [.lit (.int .u32 0), .lit (.int .u32 498536548), .lit (.int .u32 997073096), .lit (.int .u32 651767980), .lit (.int .u32 1994146192), .lit (.int .u32 1802195444), .lit (.int .u32 1303535960), .lit (.int .u32 1342533948), .lit (.int .u32 3988292384), .lit (.int .u32 4027552580), .lit (.int .u32 3604390888), .lit (.int .u32 3412177804), .lit (.int .u32 2607071920), .lit (.int .u32 2262029012), .lit (.int .u32 2685067896), .lit (.int .u32 3183342108)]
def laid_flyover_mess_most {H : Type} : DataW H := .agg [.lit (.int .u64 1073741824), .lit (.int .u64 1073741824), .lit (.int .u64 1073741824), .lit (.int .u64 1073741824), .lit (.int .u64 1073741824), .lit (.int .u64 1073741824), .lit (.int .u64 1), .lit (.int .u64 0), .lit (.int .u64 0), .lit (.int .u64 0)]

/-- 'flyoverlaw02.CodeSums': WHATEVER THE INPUT: true; the input reads as it did. -/
def codeSumsSpec : ChangeSpec := { name := "codeSums", fn := fun _ => fun
  | [d1, d2] => { results := [.lit (.bool true)], args := [d1, d2] }
  | _ => none }
def codeSumsRow : OpenClaim := { program := "ytakdfjkkeilffaadoor", sum := "29472463d23415942fb2049261c28ffe9229df41fbc8b20f45e22c47eb23715e", func := "flyover/flyoverlaw02.CodeSums", spec := "codeSums", recurses := true, named := ["flyover/code.quarters"], apart := false, laid := [("flyover/code.quarters", laid_flyover_code_quarters)] }
def CodeSumsSaid : Prop := codeSumsRow.holds Tryd.pinned (OpenSpec.ofChange codeSumsSpec)

/-- ITS FALSE NEIGHBOUR: 'it returns false'. Refute it at one input. -/
def codeSumsWrong : ChangeSpec := { name := "codeSums", fn := fun _ => fun
  | [d1, d2] => { results := [.lit (.bool false)], args := [d1, d2] }
  | _ => none }
def CodeSumsWrongFalsely : Prop := codeSumsRow.holds Tryd.pinned (OpenSpec.ofChange codeSumsWrong)

/-- 'flyoverlaw02.CodeTorn': WHATEVER THE INPUT: true; the input reads as it did. -/
def codeTornSpec : ChangeSpec := { name := "codeTorn", fn := fun _ => fun
  | [d1, d2, d3] => { results := [.lit (.bool true)], args := [d1, d2, d3] }
  | _ => none }
def codeTornRow : OpenClaim := { program := "ytakdfjkkeilffaadoor", sum := "29472463d23415942fb2049261c28ffe9229df41fbc8b20f45e22c47eb23715e", func := "flyover/flyoverlaw02.CodeTorn", spec := "codeTorn", recurses := true, named := ["flyover/code.quarters"], apart := false, laid := [("flyover/code.quarters", laid_flyover_code_quarters)] }
def CodeTornSaid : Prop := codeTornRow.holds Tryd.pinned (OpenSpec.ofChange codeTornSpec)

/-- ITS FALSE NEIGHBOUR: 'it returns false'. Refute it at one input. -/
def codeTornWrong : ChangeSpec := { name := "codeTorn", fn := fun _ => fun
  | [d1, d2, d3] => { results := [.lit (.bool false)], args := [d1, d2, d3] }
  | _ => none }
def CodeTornWrongFalsely : Prop := codeTornRow.holds Tryd.pinned (OpenSpec.ofChange codeTornWrong)

/-- 'flyoverlaw02.CodeFrames': WHATEVER THE INPUT: true; the input reads as it did. -/
def codeFramesSpec : ChangeSpec := { name := "codeFrames", fn := fun _ => fun
  | [d1, d2] => { results := [.lit (.bool true)], args := [d1, d2] }
  | _ => none }
def codeFramesRow : OpenClaim := { program := "ytakdfjkkeilffaadoor", sum := "29472463d23415942fb2049261c28ffe9229df41fbc8b20f45e22c47eb23715e", func := "flyover/flyoverlaw02.CodeFrames", spec := "codeFrames", recurses := true, named := ["flyover/code.quarters"], apart := false, laid := [("flyover/code.quarters", laid_flyover_code_quarters)] }
def CodeFramesSaid : Prop := codeFramesRow.holds Tryd.pinned (OpenSpec.ofChange codeFramesSpec)

/-- ITS FALSE NEIGHBOUR: 'it returns false'. Refute it at one input. -/
def codeFramesWrong : ChangeSpec := { name := "codeFrames", fn := fun _ => fun
  | [d1, d2] => { results := [.lit (.bool false)], args := [d1, d2] }
  | _ => none }
def CodeFramesWrongFalsely : Prop := codeFramesRow.holds Tryd.pinned (OpenSpec.ofChange codeFramesWrong)

/-- 'flyoverlaw02.CodeFramed': WHATEVER THE INPUT: true; the input reads as it did. -/
def codeFramedSpec : ChangeSpec := { name := "codeFramed", fn := fun _ => fun
  | [d1, d2, d3] => { results := [.lit (.bool true)], args := [d1, d2, d3] }
  | _ => none }
def codeFramedRow : OpenClaim := { program := "ytakdfjkkeilffaadoor", sum := "29472463d23415942fb2049261c28ffe9229df41fbc8b20f45e22c47eb23715e", func := "flyover/flyoverlaw02.CodeFramed", spec := "codeFramed", recurses := true, named := ["flyover/code.quarters"], apart := false, laid := [("flyover/code.quarters", laid_flyover_code_quarters)] }
def CodeFramedSaid : Prop := codeFramedRow.holds Tryd.pinned (OpenSpec.ofChange codeFramedSpec)

/-- ITS FALSE NEIGHBOUR: 'it returns false'. Refute it at one input. -/
def codeFramedWrong : ChangeSpec := { name := "codeFramed", fn := fun _ => fun
  | [d1, d2, d3] => { results := [.lit (.bool false)], args := [d1, d2, d3] }
  | _ => none }
def CodeFramedWrongFalsely : Prop := codeFramedRow.holds Tryd.pinned (OpenSpec.ofChange codeFramedWrong)

/-- 'flyoverlaw20.MessDecodes': WHATEVER THE INPUT: true; the input reads as it did. -/
def messDecodesSpec : ChangeSpec := { name := "messDecodes", fn := fun _ => fun
  | [d] => { results := [.lit (.bool true)], args := [d] }
  | _ => none }
def messDecodesRow : OpenClaim := { program := "ytakdfjkkeilffaadoor", sum := "29472463d23415942fb2049261c28ffe9229df41fbc8b20f45e22c47eb23715e", func := "flyover/flyoverlaw20.MessDecodes", spec := "messDecodes", unfollowed := true, recurses := true, named := ["flyover/mess.most"], apart := false, laid := [("flyover/mess.most", laid_flyover_mess_most)] }
def MessDecodesSaid : Prop := messDecodesRow.holds Tryd.pinned (OpenSpec.ofChange messDecodesSpec)

/-- ITS FALSE NEIGHBOUR: 'it returns false'. Refute it at one input. -/
def messDecodesWrong : ChangeSpec := { name := "messDecodes", fn := fun _ => fun
  | [d] => { results := [.lit (.bool false)], args := [d] }
  | _ => none }
def MessDecodesWrongFalsely : Prop := messDecodesRow.holds Tryd.pinned (OpenSpec.ofChange messDecodesWrong)

/-- 'flyoverlaw20.MessBack': WHATEVER THE INPUT: true; the input reads as it did. -/
def messBackSpec : ChangeSpec := { name := "messBack", fn := fun _ => fun
  | [d1, d2] => { results := [.lit (.bool true)], args := [d1, d2] }
  | _ => none }
def messBackRow : OpenClaim := { program := "ytakdfjkkeilffaadoor", sum := "29472463d23415942fb2049261c28ffe9229df41fbc8b20f45e22c47eb23715e", func := "flyover/flyoverlaw20.MessBack", spec := "messBack", unfollowed := true, recurses := true, named := ["flyover/mess.most"], apart := false, laid := [("flyover/mess.most", laid_flyover_mess_most)] }
def MessBackSaid : Prop := messBackRow.holds Tryd.pinned (OpenSpec.ofChange messBackSpec)

/-- ITS FALSE NEIGHBOUR: 'it returns false'. Refute it at one input. -/
def messBackWrong : ChangeSpec := { name := "messBack", fn := fun _ => fun
  | [d1, d2] => { results := [.lit (.bool false)], args := [d1, d2] }
  | _ => none }
def MessBackWrongFalsely : Prop := messBackRow.holds Tryd.pinned (OpenSpec.ofChange messBackWrong)

/-- 'flyoverlaw20.MessUnlike': WHATEVER THE INPUT: true; the input reads as it did. -/
def messUnlikeSpec : ChangeSpec := { name := "messUnlike", fn := fun _ => fun
  | [d1, d2] => { results := [.lit (.bool true)], args := [d1, d2] }
  | _ => none }
def messUnlikeRow : OpenClaim := { program := "ytakdfjkkeilffaadoor", sum := "29472463d23415942fb2049261c28ffe9229df41fbc8b20f45e22c47eb23715e", func := "flyover/flyoverlaw20.MessUnlike", spec := "messUnlike", unfollowed := true, recurses := true, named := ["flyover/mess.most"], apart := false, laid := [("flyover/mess.most", laid_flyover_mess_most)] }
def MessUnlikeSaid : Prop := messUnlikeRow.holds Tryd.pinned (OpenSpec.ofChange messUnlikeSpec)

/-- ITS FALSE NEIGHBOUR: 'it returns false'. Refute it at one input. -/
def messUnlikeWrong : ChangeSpec := { name := "messUnlike", fn := fun _ => fun
  | [d1, d2] => { results := [.lit (.bool false)], args := [d1, d2] }
  | _ => none }
def MessUnlikeWrongFalsely : Prop := messUnlikeRow.holds Tryd.pinned (OpenSpec.ofChange messUnlikeWrong)

/- THE SECOND FORM. 'bulk': how many values and letters a reading holds, each counted each time it is reached (what is shared counts as often as it is met; a slice's spare places count too). A statement '..UptoSaid' is the law's where the arguments, and the package variables that the reading takes, are together of bulk at most 1048576: NARROWER than '..Said'. Prove '..Said' where nothing that the law and all that it calls make is longer than what came in: it says more and counts as full. Else prove '..UptoSaid'. A law counts once. -/
mutual
def uptoBulk {H : Type} : DataW H → Nat
  | .lit (.string bytes) => bytes.length + 1
  | .lit _ => 1
  | .nil => 1
  | .ptr d => uptoBulk d + 1
  | .slice elems spare => uptoBulkAll elems + uptoBulkAll spare + 1
  | .agg parts => uptoBulkAll parts + 1
  | .iface _ d => uptoBulk d + 1
  | .map entries => uptoBulkEntries entries + 1
  | .held _ => 1
def uptoBulkAll {H : Type} : List (DataW H) → Nat
  | [] => 0
  | d :: r => uptoBulk d + uptoBulkAll r
def uptoBulkEntries {H : Type} : List (Lit × DataW H) → Nat
  | [] => 0
  | x :: r => uptoBulkEntry x + uptoBulkEntries r
def uptoBulkEntry {H : Type} : Lit × DataW H → Nat
  | (.string bytes, d) => bytes.length + uptoBulk d + 1
  | (_, d) => uptoBulk d + 1
 end
def uptoSmall : (H : Type) → List (DataW H) → Bool := fun _ ds => decide (uptoBulkAll ds ≤ 1048576)
def OpenSpec.upto (s : _root_.Go.ChangeSpec) : _root_.Go.OpenSpec := { _root_.Go.OpenSpec.ofChange s with cond := some uptoSmall }

/-- 'flyoverlaw02.CodeSums', WHERE WHAT IT READS IS OF BULK AT MOST 1048576: true; the input reads as it did. -/
def codeSumsUptoRow : OpenClaim := { program := "ytakdfjkkeilffaadoor", sum := "29472463d23415942fb2049261c28ffe9229df41fbc8b20f45e22c47eb23715e", func := "flyover/flyoverlaw02.CodeSums", spec := "codeSums", recurses := true, named := ["flyover/code.quarters"], apart := false, laid := [("flyover/code.quarters", laid_flyover_code_quarters)], narrowed := true }
def CodeSumsUptoSaid : Prop := codeSumsUptoRow.holds Tryd.pinned (OpenSpec.upto codeSumsSpec)

/-- 'flyoverlaw02.CodeTorn', WHERE WHAT IT READS IS OF BULK AT MOST 1048576: true; the input reads as it did. -/
def codeTornUptoRow : OpenClaim := { program := "ytakdfjkkeilffaadoor", sum := "29472463d23415942fb2049261c28ffe9229df41fbc8b20f45e22c47eb23715e", func := "flyover/flyoverlaw02.CodeTorn", spec := "codeTorn", recurses := true, named := ["flyover/code.quarters"], apart := false, laid := [("flyover/code.quarters", laid_flyover_code_quarters)], narrowed := true }
def CodeTornUptoSaid : Prop := codeTornUptoRow.holds Tryd.pinned (OpenSpec.upto codeTornSpec)

/-- 'flyoverlaw02.CodeFrames', WHERE WHAT IT READS IS OF BULK AT MOST 1048576: true; the input reads as it did. -/
def codeFramesUptoRow : OpenClaim := { program := "ytakdfjkkeilffaadoor", sum := "29472463d23415942fb2049261c28ffe9229df41fbc8b20f45e22c47eb23715e", func := "flyover/flyoverlaw02.CodeFrames", spec := "codeFrames", recurses := true, named := ["flyover/code.quarters"], apart := false, laid := [("flyover/code.quarters", laid_flyover_code_quarters)], narrowed := true }
def CodeFramesUptoSaid : Prop := codeFramesUptoRow.holds Tryd.pinned (OpenSpec.upto codeFramesSpec)

/-- 'flyoverlaw02.CodeFramed', WHERE WHAT IT READS IS OF BULK AT MOST 1048576: true; the input reads as it did. -/
def codeFramedUptoRow : OpenClaim := { program := "ytakdfjkkeilffaadoor", sum := "29472463d23415942fb2049261c28ffe9229df41fbc8b20f45e22c47eb23715e", func := "flyover/flyoverlaw02.CodeFramed", spec := "codeFramed", recurses := true, named := ["flyover/code.quarters"], apart := false, laid := [("flyover/code.quarters", laid_flyover_code_quarters)], narrowed := true }
def CodeFramedUptoSaid : Prop := codeFramedUptoRow.holds Tryd.pinned (OpenSpec.upto codeFramedSpec)

/-- 'flyoverlaw20.MessDecodes', WHERE WHAT IT READS IS OF BULK AT MOST 1048576: true; the input reads as it did. -/
def messDecodesUptoRow : OpenClaim := { program := "ytakdfjkkeilffaadoor", sum := "29472463d23415942fb2049261c28ffe9229df41fbc8b20f45e22c47eb23715e", func := "flyover/flyoverlaw20.MessDecodes", spec := "messDecodes", unfollowed := true, recurses := true, named := ["flyover/mess.most"], apart := false, laid := [("flyover/mess.most", laid_flyover_mess_most)], narrowed := true }
def MessDecodesUptoSaid : Prop := messDecodesUptoRow.holds Tryd.pinned (OpenSpec.upto messDecodesSpec)

/-- 'flyoverlaw20.MessBack', WHERE WHAT IT READS IS OF BULK AT MOST 1048576: true; the input reads as it did. -/
def messBackUptoRow : OpenClaim := { program := "ytakdfjkkeilffaadoor", sum := "29472463d23415942fb2049261c28ffe9229df41fbc8b20f45e22c47eb23715e", func := "flyover/flyoverlaw20.MessBack", spec := "messBack", unfollowed := true, recurses := true, named := ["flyover/mess.most"], apart := false, laid := [("flyover/mess.most", laid_flyover_mess_most)], narrowed := true }
def MessBackUptoSaid : Prop := messBackUptoRow.holds Tryd.pinned (OpenSpec.upto messBackSpec)

/-- 'flyoverlaw20.MessUnlike', WHERE WHAT IT READS IS OF BULK AT MOST 1048576: true; the input reads as it did. -/
def messUnlikeUptoRow : OpenClaim := { program := "ytakdfjkkeilffaadoor", sum := "29472463d23415942fb2049261c28ffe9229df41fbc8b20f45e22c47eb23715e", func := "flyover/flyoverlaw20.MessUnlike", spec := "messUnlike", unfollowed := true, recurses := true, named := ["flyover/mess.most"], apart := false, laid := [("flyover/mess.most", laid_flyover_mess_most)], narrowed := true }
def MessUnlikeUptoSaid : Prop := messUnlikeUptoRow.holds Tryd.pinned (OpenSpec.upto messUnlikeSpec)

end Rows
end Go.Proofs.YtakdfjkkeilffaaDoor
