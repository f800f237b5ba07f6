/-
  NARROWER THAN 'FOR EVERY INPUT', by the rows' own cells (each row's printed sentence says how): ScriptKnown: laid · ScriptDecodes: laid · ScriptEncodes: laid · ScriptTotal: laid · ScriptBehind: laid · ScriptRound: laid.
  DERIVED. THE GIVEN ROWS OF THIS SEAT. 6 by the template 'for every input the law returns true; each argument reads behind the call as it read before'; 0 by the template 'total and deterministic' (their statements: YtjipfdabkncnmaaDoorTotals.lean).
  GIVEN WITH THE SEED: the statements are not yours to turn. If you find one false, say at which input.
  Laid BY PROGRAM, IN A SANDBOX (cutbox-rows.mjs): the forced cells as the released guide's own fill.sh prints them over the translation 288401c3a0ab5514… (all of the seat's roots in one cut). By AI agents, Wed Nov 11 2026. No macro, syntax, notation, axiom, sorry.
-/
import Derived.Test.YtjipfdabkncnmaaDoorChecked
import GoSem.Claim
import GoSem.ClaimJoined
import GoSem.ClaimMapViews
import Derived.JoinedTies
import Derived.KernelRfl
namespace Go.Proofs.YtjipfdabkncnmaaDoor
/- THE CELL 'sum', in the pinned program and in every row, IS THE sha256 OF THE DUMP (.gsa) THAT YtjipfdabkncnmaaDoorProg.lean LOADS. Nothing in Lean hashes anything: it is a label: what it is worth is what the hold of that sum in a sandbox is worth. -/
noncomputable def Tryd.pinned : Pinned := { name := "ytjipfdabkncnmaadoor", sum := "288401c3a0ab55149c41c676e46819275cdb5873f09db837820525cb96b9e2ca", checked := Tryd.checked }
namespace Rows
def none {H : Type} : Left H := { results := [], args := [] }

/- WHAT THE LISTED PACKAGE-LEVEL VARIABLES READ AS WHEN THE CALL BEGINS. Each datum BY PROGRAM (the guide's laid-datum.mjs) off the statement by which the dump's own 'gosem.cut.vars' lays the variable. In a bare row this is a premise. The card (YtjipfdabkncnmaaDoorCards.lean) ties it to the program's text. -/
def laid_bytes_ErrTooLarge {H : Type} : DataW H := .iface "*errors.errorString" (.ptr (.agg [.lit (.string [98, 121, 116, 101, 115, 46, 66, 117, 102, 102, 101, 114, 58, 32, 116, 111, 111, 32, 108, 97, 114, 103, 101])]))

/-- 'wapentakelaw26.ScriptKnown': WHATEVER THE INPUT: true; the input reads as it did. -/
def scriptKnownSpec : ChangeSpec := { name := "scriptKnown", fn := fun _ => fun
  | [] => { results := [.lit (.bool true)], args := [] }
  | _ => none }
def scriptKnownRow : OpenClaim := { program := "ytjipfdabkncnmaadoor", sum := "288401c3a0ab55149c41c676e46819275cdb5873f09db837820525cb96b9e2ca", func := "wapentake/wapentakelaw26.ScriptKnown", spec := "scriptKnown", unfollowed := true, recurses := true, named := ["bytes.ErrTooLarge"], apart := false, laid := [("bytes.ErrTooLarge", laid_bytes_ErrTooLarge)] }
def ScriptKnownSaid : Prop := scriptKnownRow.holds Tryd.pinned (OpenSpec.ofChange scriptKnownSpec)

/-- ITS FALSE NEIGHBOUR: 'it returns false'. Refute it at one input. -/
def scriptKnownWrong : ChangeSpec := { name := "scriptKnown", fn := fun _ => fun
  | [] => { results := [.lit (.bool false)], args := [] }
  | _ => none }
def ScriptKnownWrongFalsely : Prop := scriptKnownRow.holds Tryd.pinned (OpenSpec.ofChange scriptKnownWrong)

/-- 'wapentakelaw26.ScriptDecodes': WHATEVER THE INPUT: true; the input reads as it did. -/
def scriptDecodesSpec : ChangeSpec := { name := "scriptDecodes", fn := fun _ => fun
  | [d] => { results := [.lit (.bool true)], args := [d] }
  | _ => none }
def scriptDecodesRow : OpenClaim := { program := "ytjipfdabkncnmaadoor", sum := "288401c3a0ab55149c41c676e46819275cdb5873f09db837820525cb96b9e2ca", func := "wapentake/wapentakelaw26.ScriptDecodes", spec := "scriptDecodes", unfollowed := true, recurses := true, named := ["bytes.ErrTooLarge"], apart := false, laid := [("bytes.ErrTooLarge", laid_bytes_ErrTooLarge)] }
def ScriptDecodesSaid : Prop := scriptDecodesRow.holds Tryd.pinned (OpenSpec.ofChange scriptDecodesSpec)

/-- ITS FALSE NEIGHBOUR: 'it returns false'. Refute it at one input. -/
def scriptDecodesWrong : ChangeSpec := { name := "scriptDecodes", fn := fun _ => fun
  | [d] => { results := [.lit (.bool false)], args := [d] }
  | _ => none }
def ScriptDecodesWrongFalsely : Prop := scriptDecodesRow.holds Tryd.pinned (OpenSpec.ofChange scriptDecodesWrong)

/-- 'wapentakelaw26.ScriptEncodes': WHATEVER THE INPUT: true; the input reads as it did. -/
def scriptEncodesSpec : ChangeSpec := { name := "scriptEncodes", fn := fun _ => fun
  | [d] => { results := [.lit (.bool true)], args := [d] }
  | _ => none }
def scriptEncodesRow : OpenClaim := { program := "ytjipfdabkncnmaadoor", sum := "288401c3a0ab55149c41c676e46819275cdb5873f09db837820525cb96b9e2ca", func := "wapentake/wapentakelaw26.ScriptEncodes", spec := "scriptEncodes", unfollowed := true, recurses := true, named := ["bytes.ErrTooLarge"], apart := false, laid := [("bytes.ErrTooLarge", laid_bytes_ErrTooLarge)] }
def ScriptEncodesSaid : Prop := scriptEncodesRow.holds Tryd.pinned (OpenSpec.ofChange scriptEncodesSpec)

/-- ITS FALSE NEIGHBOUR: 'it returns false'. Refute it at one input. -/
def scriptEncodesWrong : ChangeSpec := { name := "scriptEncodes", fn := fun _ => fun
  | [d] => { results := [.lit (.bool false)], args := [d] }
  | _ => none }
def ScriptEncodesWrongFalsely : Prop := scriptEncodesRow.holds Tryd.pinned (OpenSpec.ofChange scriptEncodesWrong)

/-- 'wapentakelaw26.ScriptTotal': WHATEVER THE INPUT: true; the input reads as it did. -/
def scriptTotalSpec : ChangeSpec := { name := "scriptTotal", fn := fun _ => fun
  | [d] => { results := [.lit (.bool true)], args := [d] }
  | _ => none }
def scriptTotalRow : OpenClaim := { program := "ytjipfdabkncnmaadoor", sum := "288401c3a0ab55149c41c676e46819275cdb5873f09db837820525cb96b9e2ca", func := "wapentake/wapentakelaw26.ScriptTotal", spec := "scriptTotal", unfollowed := true, recurses := true, named := ["bytes.ErrTooLarge"], apart := false, laid := [("bytes.ErrTooLarge", laid_bytes_ErrTooLarge)] }
def ScriptTotalSaid : Prop := scriptTotalRow.holds Tryd.pinned (OpenSpec.ofChange scriptTotalSpec)

/-- ITS FALSE NEIGHBOUR: 'it returns false'. Refute it at one input. -/
def scriptTotalWrong : ChangeSpec := { name := "scriptTotal", fn := fun _ => fun
  | [d] => { results := [.lit (.bool false)], args := [d] }
  | _ => none }
def ScriptTotalWrongFalsely : Prop := scriptTotalRow.holds Tryd.pinned (OpenSpec.ofChange scriptTotalWrong)

/-- 'wapentakelaw26.ScriptBehind': WHATEVER THE INPUT: true; the input reads as it did. -/
def scriptBehindSpec : ChangeSpec := { name := "scriptBehind", fn := fun _ => fun
  | [d1, d2] => { results := [.lit (.bool true)], args := [d1, d2] }
  | _ => none }
def scriptBehindRow : OpenClaim := { program := "ytjipfdabkncnmaadoor", sum := "288401c3a0ab55149c41c676e46819275cdb5873f09db837820525cb96b9e2ca", func := "wapentake/wapentakelaw26.ScriptBehind", spec := "scriptBehind", unfollowed := true, recurses := true, named := ["bytes.ErrTooLarge"], apart := false, laid := [("bytes.ErrTooLarge", laid_bytes_ErrTooLarge)] }
def ScriptBehindSaid : Prop := scriptBehindRow.holds Tryd.pinned (OpenSpec.ofChange scriptBehindSpec)

/-- ITS FALSE NEIGHBOUR: 'it returns false'. Refute it at one input. -/
def scriptBehindWrong : ChangeSpec := { name := "scriptBehind", fn := fun _ => fun
  | [d1, d2] => { results := [.lit (.bool false)], args := [d1, d2] }
  | _ => none }
def ScriptBehindWrongFalsely : Prop := scriptBehindRow.holds Tryd.pinned (OpenSpec.ofChange scriptBehindWrong)

/-- 'wapentakelaw26.ScriptRound': WHATEVER THE INPUT: true; the input reads as it did. -/
def scriptRoundSpec : ChangeSpec := { name := "scriptRound", fn := fun _ => fun
  | [d1, d2, d3, d4, d5] => { results := [.lit (.bool true)], args := [d1, d2, d3, d4, d5] }
  | _ => none }
def scriptRoundRow : OpenClaim := { program := "ytjipfdabkncnmaadoor", sum := "288401c3a0ab55149c41c676e46819275cdb5873f09db837820525cb96b9e2ca", func := "wapentake/wapentakelaw26.ScriptRound", spec := "scriptRound", unfollowed := true, recurses := true, named := ["bytes.ErrTooLarge"], apart := false, laid := [("bytes.ErrTooLarge", laid_bytes_ErrTooLarge)] }
def ScriptRoundSaid : Prop := scriptRoundRow.holds Tryd.pinned (OpenSpec.ofChange scriptRoundSpec)

/-- ITS FALSE NEIGHBOUR: 'it returns false'. Refute it at one input. -/
def scriptRoundWrong : ChangeSpec := { name := "scriptRound", fn := fun _ => fun
  | [d1, d2, d3, d4, d5] => { results := [.lit (.bool false)], args := [d1, d2, d3, d4, d5] }
  | _ => none }
def ScriptRoundWrongFalsely : Prop := scriptRoundRow.holds Tryd.pinned (OpenSpec.ofChange scriptRoundWrong)

/- THE SECOND FORM. 'bulk': how many values and letters a reading holds, each counted each time it is reached (what is shared counts as often as it is met; a slice's spare places count too). A statement '..UptoSaid' is the law's where the arguments, and the package variables that the reading takes, are together of bulk at most 1048576: NARROWER than '..Said'. Prove '..Said' where nothing that the law and all that it calls make is longer than what came in: it says more and counts as full. Else prove '..UptoSaid'. A law counts once. -/
mutual
def uptoBulk {H : Type} : DataW H → Nat
  | .lit (.string bytes) => bytes.length + 1
  | .lit _ => 1
  | .nil => 1
  | .ptr d => uptoBulk d + 1
  | .slice elems spare => uptoBulkAll elems + uptoBulkAll spare + 1
  | .agg parts => uptoBulkAll parts + 1
  | .iface _ d => uptoBulk d + 1
  | .map entries => uptoBulkEntries entries + 1
  | .held _ => 1
def uptoBulkAll {H : Type} : List (DataW H) → Nat
  | [] => 0
  | d :: r => uptoBulk d + uptoBulkAll r
def uptoBulkEntries {H : Type} : List (Lit × DataW H) → Nat
  | [] => 0
  | x :: r => uptoBulkEntry x + uptoBulkEntries r
def uptoBulkEntry {H : Type} : Lit × DataW H → Nat
  | (.string bytes, d) => bytes.length + uptoBulk d + 1
  | (_, d) => uptoBulk d + 1
 end
def uptoSmall : (H : Type) → List (DataW H) → Bool := fun _ ds => decide (uptoBulkAll ds ≤ 1048576)
def OpenSpec.upto (s : _root_.Go.ChangeSpec) : _root_.Go.OpenSpec := { _root_.Go.OpenSpec.ofChange s with cond := some uptoSmall }

/-- 'wapentakelaw26.ScriptKnown', WHERE WHAT IT READS IS OF BULK AT MOST 1048576: true; the input reads as it did. -/
def scriptKnownUptoRow : OpenClaim := { program := "ytjipfdabkncnmaadoor", sum := "288401c3a0ab55149c41c676e46819275cdb5873f09db837820525cb96b9e2ca", func := "wapentake/wapentakelaw26.ScriptKnown", spec := "scriptKnown", unfollowed := true, recurses := true, named := ["bytes.ErrTooLarge"], apart := false, laid := [("bytes.ErrTooLarge", laid_bytes_ErrTooLarge)], narrowed := true }
def ScriptKnownUptoSaid : Prop := scriptKnownUptoRow.holds Tryd.pinned (OpenSpec.upto scriptKnownSpec)

/-- 'wapentakelaw26.ScriptDecodes', WHERE WHAT IT READS IS OF BULK AT MOST 1048576: true; the input reads as it did. -/
def scriptDecodesUptoRow : OpenClaim := { program := "ytjipfdabkncnmaadoor", sum := "288401c3a0ab55149c41c676e46819275cdb5873f09db837820525cb96b9e2ca", func := "wapentake/wapentakelaw26.ScriptDecodes", spec := "scriptDecodes", unfollowed := true, recurses := true, named := ["bytes.ErrTooLarge"], apart := false, laid := [("bytes.ErrTooLarge", laid_bytes_ErrTooLarge)], narrowed := true }
def ScriptDecodesUptoSaid : Prop := scriptDecodesUptoRow.holds Tryd.pinned (OpenSpec.upto scriptDecodesSpec)

/-- 'wapentakelaw26.ScriptEncodes', WHERE WHAT IT READS IS OF BULK AT MOST 1048576: true; the input reads as it did. -/
def scriptEncodesUptoRow : OpenClaim := { program := "ytjipfdabkncnmaadoor", sum := "288401c3a0ab55149c41c676e46819275cdb5873f09db837820525cb96b9e2ca", func := "wapentake/wapentakelaw26.ScriptEncodes", spec := "scriptEncodes", unfollowed := true, recurses := true, named := ["bytes.ErrTooLarge"], apart := false, laid := [("bytes.ErrTooLarge", laid_bytes_ErrTooLarge)], narrowed := true }
def ScriptEncodesUptoSaid : Prop := scriptEncodesUptoRow.holds Tryd.pinned (OpenSpec.upto scriptEncodesSpec)

/-- 'wapentakelaw26.ScriptTotal', WHERE WHAT IT READS IS OF BULK AT MOST 1048576: true; the input reads as it did. -/
def scriptTotalUptoRow : OpenClaim := { program := "ytjipfdabkncnmaadoor", sum := "288401c3a0ab55149c41c676e46819275cdb5873f09db837820525cb96b9e2ca", func := "wapentake/wapentakelaw26.ScriptTotal", spec := "scriptTotal", unfollowed := true, recurses := true, named := ["bytes.ErrTooLarge"], apart := false, laid := [("bytes.ErrTooLarge", laid_bytes_ErrTooLarge)], narrowed := true }
def ScriptTotalUptoSaid : Prop := scriptTotalUptoRow.holds Tryd.pinned (OpenSpec.upto scriptTotalSpec)

/-- 'wapentakelaw26.ScriptBehind', WHERE WHAT IT READS IS OF BULK AT MOST 1048576: true; the input reads as it did. -/
def scriptBehindUptoRow : OpenClaim := { program := "ytjipfdabkncnmaadoor", sum := "288401c3a0ab55149c41c676e46819275cdb5873f09db837820525cb96b9e2ca", func := "wapentake/wapentakelaw26.ScriptBehind", spec := "scriptBehind", unfollowed := true, recurses := true, named := ["bytes.ErrTooLarge"], apart := false, laid := [("bytes.ErrTooLarge", laid_bytes_ErrTooLarge)], narrowed := true }
def ScriptBehindUptoSaid : Prop := scriptBehindUptoRow.holds Tryd.pinned (OpenSpec.upto scriptBehindSpec)

/-- 'wapentakelaw26.ScriptRound', WHERE WHAT IT READS IS OF BULK AT MOST 1048576: true; the input reads as it did. -/
def scriptRoundUptoRow : OpenClaim := { program := "ytjipfdabkncnmaadoor", sum := "288401c3a0ab55149c41c676e46819275cdb5873f09db837820525cb96b9e2ca", func := "wapentake/wapentakelaw26.ScriptRound", spec := "scriptRound", unfollowed := true, recurses := true, named := ["bytes.ErrTooLarge"], apart := false, laid := [("bytes.ErrTooLarge", laid_bytes_ErrTooLarge)], narrowed := true }
def ScriptRoundUptoSaid : Prop := scriptRoundUptoRow.holds Tryd.pinned (OpenSpec.upto scriptRoundSpec)

end Rows
end Go.Proofs.YtjipfdabkncnmaaDoor
