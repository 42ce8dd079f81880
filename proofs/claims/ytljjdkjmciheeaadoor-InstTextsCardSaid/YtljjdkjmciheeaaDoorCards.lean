/-
  DERIVED. GIVEN WITH THE SEED: THE CARDS: each row of YtljjdkjmciheeaaDoorRows.lean that lists a variable, with what it lists TIED to the program's text (the seventh form; the later family's looks); each row that meets fmt, with fmt's text TOLD by the authors' own Lean function (tested against real Go, not proved from fmt's source: count such statements apart). THE CARD IS WHAT COUNTS. Prove the row's statement (the work); the ties are given (YtljjdkjmciheeaaDoorTie.lean); close each card by the builder's one call (the guide's Derived/Test/ToyasCard.lean, 'card_holds'). Laid BY PROGRAM, IN A SANDBOX (cutbox-door.mjs). By AI agents, Wed Nov 11 2026. No macro, syntax, notation, axiom, sorry.
-/
import Derived.Test.YtljjdkjmciheeaaDoorRows
import GoSem.ClaimSeven
namespace Go.Proofs.YtljjdkjmciheeaaDoor
namespace Rows

/-- THE TIED CARD OF 'custodianlaw.PermTexts'. -/
def permTextsCard : Claim7 := { stood := { row := permTextsRow, standIns := [], harness := (true, "2c470837ab3a795313a83326063eaf78f582005682825db8ea88c31b2dbd35d0"), looks := true }, kinds := [], alts := [], laidByText := true, laidKinds := [.data, .pinned], laidTests := true, laidLooks := .later }
def PermTextsCardSaid : Prop := Claim7.holds Tryd.pinned (.plain (OpenSpec.ofChange permTextsSpec)) permTextsCard

/-- THE TIED CARD OF 'custodianlaw.InstTexts'. -/
def instTextsCard : Claim7 := { stood := { row := instTextsRow, standIns := [], harness := (true, "2c470837ab3a795313a83326063eaf78f582005682825db8ea88c31b2dbd35d0"), looks := true }, kinds := [], alts := [], laidByText := true, laidKinds := [.data, .data, .data, .data, .listed, .data, .pinned], laidTests := true, laidLooks := .later }
def InstTextsCardSaid : Prop := Claim7.holds Tryd.pinned (.plain (OpenSpec.ofChange instTextsSpec)) instTextsCard

/-- THE TIED CARD OF 'custodianlaw.ProgTexts'. -/
def progTextsCard : Claim7 := { stood := { row := progTextsRow, standIns := [], harness := (true, "2c470837ab3a795313a83326063eaf78f582005682825db8ea88c31b2dbd35d0"), looks := true }, kinds := [], alts := [], laidByText := true, laidKinds := [.data, .data, .data, .data, .listed, .data, .pinned], laidTests := true, laidLooks := .later }
def ProgTextsCardSaid : Prop := Claim7.holds Tryd.pinned (.plain (OpenSpec.ofChange progTextsSpec)) progTextsCard

/-- THE TIED CARD OF 'custodianlaw.InstParses'. -/
def instParsesCard : Claim7 := { stood := { row := instParsesRow, standIns := [], harness := (true, "2c470837ab3a795313a83326063eaf78f582005682825db8ea88c31b2dbd35d0"), looks := true }, kinds := [], alts := [], laidByText := true, laidKinds := [.data, .data, .data, .data, .sentinel, .sentinel, .listed, .data, .pinned], laidTests := true, laidLooks := .later }
def InstParsesCardSaid : Prop := Claim7.holds Tryd.pinned (.plain (OpenSpec.ofChange instParsesSpec)) instParsesCard

/-- THE SECOND FORM's CARD OF 'custodianlaw.PermTexts'. -/
def permTextsUptoCard : Claim7 := { stood := { row := permTextsUptoRow, standIns := [], harness := (true, "2c470837ab3a795313a83326063eaf78f582005682825db8ea88c31b2dbd35d0"), looks := true }, kinds := [], alts := [], laidByText := true, laidKinds := [.data, .pinned], laidTests := true, laidLooks := .later }
def PermTextsUptoCardSaid : Prop := Claim7.holds Tryd.pinned (.plain (OpenSpec.upto permTextsSpec)) permTextsUptoCard

/-- THE SECOND FORM's CARD OF 'custodianlaw.InstTexts'. -/
def instTextsUptoCard : Claim7 := { stood := { row := instTextsUptoRow, standIns := [], harness := (true, "2c470837ab3a795313a83326063eaf78f582005682825db8ea88c31b2dbd35d0"), looks := true }, kinds := [], alts := [], laidByText := true, laidKinds := [.data, .data, .data, .data, .listed, .data, .pinned], laidTests := true, laidLooks := .later }
def InstTextsUptoCardSaid : Prop := Claim7.holds Tryd.pinned (.plain (OpenSpec.upto instTextsSpec)) instTextsUptoCard

/-- THE SECOND FORM's CARD OF 'custodianlaw.ProgTexts'. -/
def progTextsUptoCard : Claim7 := { stood := { row := progTextsUptoRow, standIns := [], harness := (true, "2c470837ab3a795313a83326063eaf78f582005682825db8ea88c31b2dbd35d0"), looks := true }, kinds := [], alts := [], laidByText := true, laidKinds := [.data, .data, .data, .data, .listed, .data, .pinned], laidTests := true, laidLooks := .later }
def ProgTextsUptoCardSaid : Prop := Claim7.holds Tryd.pinned (.plain (OpenSpec.upto progTextsSpec)) progTextsUptoCard

/-- THE SECOND FORM's CARD OF 'custodianlaw.InstParses'. -/
def instParsesUptoCard : Claim7 := { stood := { row := instParsesUptoRow, standIns := [], harness := (true, "2c470837ab3a795313a83326063eaf78f582005682825db8ea88c31b2dbd35d0"), looks := true }, kinds := [], alts := [], laidByText := true, laidKinds := [.data, .data, .data, .data, .sentinel, .sentinel, .listed, .data, .pinned], laidTests := true, laidLooks := .later }
def InstParsesUptoCardSaid : Prop := Claim7.holds Tryd.pinned (.plain (OpenSpec.upto instParsesSpec)) instParsesUptoCard
end Rows
end Go.Proofs.YtljjdkjmciheeaaDoor
