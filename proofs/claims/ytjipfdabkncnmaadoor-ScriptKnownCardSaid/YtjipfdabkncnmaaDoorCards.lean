/-
  DERIVED. GIVEN WITH THE SEED: THE CARDS: each row of YtjipfdabkncnmaaDoorRows.lean that lists a variable, with what it lists TIED to the program's text (the seventh form; the later family's looks); each row that meets fmt, with fmt's text TOLD by the authors' own Lean function (tested against real Go, not proved from fmt's source: count such statements apart). THE CARD IS WHAT COUNTS. Prove the row's statement (the work); the ties are given (YtjipfdabkncnmaaDoorTie.lean); close each card by the builder's one call (the guide's Derived/Test/ToyasCard.lean, 'card_holds'). Laid BY PROGRAM, IN A SANDBOX (cutbox-door.mjs). By AI agents, Wed Nov 11 2026. No macro, syntax, notation, axiom, sorry.
-/
import Derived.Test.YtjipfdabkncnmaaDoorRows
import GoSem.ClaimSeven
namespace Go.Proofs.YtjipfdabkncnmaaDoor
namespace Rows

/-- THE TIED CARD OF 'wapentakelaw26.ScriptKnown'. -/
def scriptKnownCard : Claim7 := { stood := { row := scriptKnownRow, standIns := [], harness := (true, "fa7fdeb4326a6fc598442a71be8fec589388a4183b103d25861aca0f1e5879eb"), looks := false }, kinds := [], alts := [], laidByText := true, laidKinds := [.sentinel], laidTests := true, laidLooks := .later }
def ScriptKnownCardSaid : Prop := Claim7.holds Tryd.pinned (.plain (OpenSpec.ofChange scriptKnownSpec)) scriptKnownCard

/-- THE TIED CARD OF 'wapentakelaw26.ScriptDecodes'. -/
def scriptDecodesCard : Claim7 := { stood := { row := scriptDecodesRow, standIns := [], harness := (true, "fa7fdeb4326a6fc598442a71be8fec589388a4183b103d25861aca0f1e5879eb"), looks := false }, kinds := [], alts := [], laidByText := true, laidKinds := [.sentinel], laidTests := true, laidLooks := .later }
def ScriptDecodesCardSaid : Prop := Claim7.holds Tryd.pinned (.plain (OpenSpec.ofChange scriptDecodesSpec)) scriptDecodesCard

/-- THE TIED CARD OF 'wapentakelaw26.ScriptEncodes'. -/
def scriptEncodesCard : Claim7 := { stood := { row := scriptEncodesRow, standIns := [], harness := (true, "fa7fdeb4326a6fc598442a71be8fec589388a4183b103d25861aca0f1e5879eb"), looks := false }, kinds := [], alts := [], laidByText := true, laidKinds := [.sentinel], laidTests := true, laidLooks := .later }
def ScriptEncodesCardSaid : Prop := Claim7.holds Tryd.pinned (.plain (OpenSpec.ofChange scriptEncodesSpec)) scriptEncodesCard

/-- THE TIED CARD OF 'wapentakelaw26.ScriptTotal'. -/
def scriptTotalCard : Claim7 := { stood := { row := scriptTotalRow, standIns := [], harness := (true, "fa7fdeb4326a6fc598442a71be8fec589388a4183b103d25861aca0f1e5879eb"), looks := false }, kinds := [], alts := [], laidByText := true, laidKinds := [.sentinel], laidTests := true, laidLooks := .later }
def ScriptTotalCardSaid : Prop := Claim7.holds Tryd.pinned (.plain (OpenSpec.ofChange scriptTotalSpec)) scriptTotalCard

/-- THE TIED CARD OF 'wapentakelaw26.ScriptBehind'. -/
def scriptBehindCard : Claim7 := { stood := { row := scriptBehindRow, standIns := [], harness := (true, "fa7fdeb4326a6fc598442a71be8fec589388a4183b103d25861aca0f1e5879eb"), looks := false }, kinds := [], alts := [], laidByText := true, laidKinds := [.sentinel], laidTests := true, laidLooks := .later }
def ScriptBehindCardSaid : Prop := Claim7.holds Tryd.pinned (.plain (OpenSpec.ofChange scriptBehindSpec)) scriptBehindCard

/-- THE TIED CARD OF 'wapentakelaw26.ScriptRound'. -/
def scriptRoundCard : Claim7 := { stood := { row := scriptRoundRow, standIns := [], harness := (true, "fa7fdeb4326a6fc598442a71be8fec589388a4183b103d25861aca0f1e5879eb"), looks := false }, kinds := [], alts := [], laidByText := true, laidKinds := [.sentinel], laidTests := true, laidLooks := .later }
def ScriptRoundCardSaid : Prop := Claim7.holds Tryd.pinned (.plain (OpenSpec.ofChange scriptRoundSpec)) scriptRoundCard

/-- THE SECOND FORM's CARD OF 'wapentakelaw26.ScriptKnown'. -/
def scriptKnownUptoCard : Claim7 := { stood := { row := scriptKnownUptoRow, standIns := [], harness := (true, "fa7fdeb4326a6fc598442a71be8fec589388a4183b103d25861aca0f1e5879eb"), looks := false }, kinds := [], alts := [], laidByText := true, laidKinds := [.sentinel], laidTests := true, laidLooks := .later }
def ScriptKnownUptoCardSaid : Prop := Claim7.holds Tryd.pinned (.plain (OpenSpec.upto scriptKnownSpec)) scriptKnownUptoCard

/-- THE SECOND FORM's CARD OF 'wapentakelaw26.ScriptDecodes'. -/
def scriptDecodesUptoCard : Claim7 := { stood := { row := scriptDecodesUptoRow, standIns := [], harness := (true, "fa7fdeb4326a6fc598442a71be8fec589388a4183b103d25861aca0f1e5879eb"), looks := false }, kinds := [], alts := [], laidByText := true, laidKinds := [.sentinel], laidTests := true, laidLooks := .later }
def ScriptDecodesUptoCardSaid : Prop := Claim7.holds Tryd.pinned (.plain (OpenSpec.upto scriptDecodesSpec)) scriptDecodesUptoCard

/-- THE SECOND FORM's CARD OF 'wapentakelaw26.ScriptEncodes'. -/
def scriptEncodesUptoCard : Claim7 := { stood := { row := scriptEncodesUptoRow, standIns := [], harness := (true, "fa7fdeb4326a6fc598442a71be8fec589388a4183b103d25861aca0f1e5879eb"), looks := false }, kinds := [], alts := [], laidByText := true, laidKinds := [.sentinel], laidTests := true, laidLooks := .later }
def ScriptEncodesUptoCardSaid : Prop := Claim7.holds Tryd.pinned (.plain (OpenSpec.upto scriptEncodesSpec)) scriptEncodesUptoCard

/-- THE SECOND FORM's CARD OF 'wapentakelaw26.ScriptTotal'. -/
def scriptTotalUptoCard : Claim7 := { stood := { row := scriptTotalUptoRow, standIns := [], harness := (true, "fa7fdeb4326a6fc598442a71be8fec589388a4183b103d25861aca0f1e5879eb"), looks := false }, kinds := [], alts := [], laidByText := true, laidKinds := [.sentinel], laidTests := true, laidLooks := .later }
def ScriptTotalUptoCardSaid : Prop := Claim7.holds Tryd.pinned (.plain (OpenSpec.upto scriptTotalSpec)) scriptTotalUptoCard

/-- THE SECOND FORM's CARD OF 'wapentakelaw26.ScriptBehind'. -/
def scriptBehindUptoCard : Claim7 := { stood := { row := scriptBehindUptoRow, standIns := [], harness := (true, "fa7fdeb4326a6fc598442a71be8fec589388a4183b103d25861aca0f1e5879eb"), looks := false }, kinds := [], alts := [], laidByText := true, laidKinds := [.sentinel], laidTests := true, laidLooks := .later }
def ScriptBehindUptoCardSaid : Prop := Claim7.holds Tryd.pinned (.plain (OpenSpec.upto scriptBehindSpec)) scriptBehindUptoCard

/-- THE SECOND FORM's CARD OF 'wapentakelaw26.ScriptRound'. -/
def scriptRoundUptoCard : Claim7 := { stood := { row := scriptRoundUptoRow, standIns := [], harness := (true, "fa7fdeb4326a6fc598442a71be8fec589388a4183b103d25861aca0f1e5879eb"), looks := false }, kinds := [], alts := [], laidByText := true, laidKinds := [.sentinel], laidTests := true, laidLooks := .later }
def ScriptRoundUptoCardSaid : Prop := Claim7.holds Tryd.pinned (.plain (OpenSpec.upto scriptRoundSpec)) scriptRoundUptoCard
end Rows
end Go.Proofs.YtjipfdabkncnmaaDoor
