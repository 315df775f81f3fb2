/-
  DERIVED. GIVEN WITH THE SEED: THE CARDS: each row of YtebgldnlkkhejaaDoorRows.lean that lists a variable, with what it lists TIED to the program's text (the seventh form; the later family's looks); each row that meets fmt, with fmt's text TOLD by the authors' own Lean function (tested against real Go, not proved from fmt's source: count such statements apart). THE CARD IS WHAT COUNTS. Prove the row's statement (the work); the ties are given (YtebgldnlkkhejaaDoorTie.lean); close each card by the builder's one call (the guide's Derived/Test/ToyasCard.lean, 'card_holds'). Laid BY PROGRAM, IN A SANDBOX (cutbox-door.mjs). By AI agents, Wed Nov 11 2026. No macro, syntax, notation, axiom, sorry.
-/
import Derived.Test.YtebgldnlkkhejaaDoorRows
import GoSem.ClaimSeven
namespace Go.Proofs.YtebgldnlkkhejaaDoor
namespace Rows

/-- THE TIED CARD OF 'spandrellaw21.CarryNames'. -/
def carryNamesCard : Claim7 := { stood := { row := carryNamesRow, standIns := [], harness := (true, "9f57567d3024697d487ee904d17fe85f785c3bc0314a9136f0c78b7abbbf20d2"), looks := true }, kinds := [], alts := [], laidByText := true, laidKinds := [.data], laidTests := true, laidLooks := .later }
def CarryNamesCardSaid : Prop := Claim7.holds Tryd.pinned (.plain (OpenSpec.ofChange carryNamesSpec)) carryNamesCard

/-- THE TIED CARD OF 'spandrellaw04.TeleOpens'. -/
def teleOpensCard : Claim7 := { stood := { row := teleOpensRow, standIns := [], harness := (true, "9f57567d3024697d487ee904d17fe85f785c3bc0314a9136f0c78b7abbbf20d2"), looks := true }, kinds := [], alts := [], laidByText := true, laidKinds := [.data], laidTests := true, laidLooks := .later }
def TeleOpensCardSaid : Prop := Claim7.holds Tryd.pinned (.plain (OpenSpec.ofChange teleOpensSpec)) teleOpensCard

/-- THE TIED CARD OF 'spandrellaw04.TeleEnds'. -/
def teleEndsCard : Claim7 := { stood := { row := teleEndsRow, standIns := [], harness := (true, "9f57567d3024697d487ee904d17fe85f785c3bc0314a9136f0c78b7abbbf20d2"), looks := true }, kinds := [], alts := [], laidByText := true, laidKinds := [.data], laidTests := true, laidLooks := .later }
def TeleEndsCardSaid : Prop := Claim7.holds Tryd.pinned (.plain (OpenSpec.ofChange teleEndsSpec)) teleEndsCard

/-- THE TIED CARD OF 'spandrellaw21.CarryKeeps'. -/
def carryKeepsCard : Claim7 := { stood := { row := carryKeepsRow, standIns := [], harness := (true, "9f57567d3024697d487ee904d17fe85f785c3bc0314a9136f0c78b7abbbf20d2"), looks := true }, kinds := [], alts := [], laidByText := true, laidKinds := [.data], laidTests := true, laidLooks := .later }
def CarryKeepsCardSaid : Prop := Claim7.holds Tryd.pinned (.plain (OpenSpec.ofChange carryKeepsSpec)) carryKeepsCard

/-- THE SECOND FORM's CARD OF 'spandrellaw21.CarryNames'. -/
def carryNamesUptoCard : Claim7 := { stood := { row := carryNamesUptoRow, standIns := [], harness := (true, "9f57567d3024697d487ee904d17fe85f785c3bc0314a9136f0c78b7abbbf20d2"), looks := true }, kinds := [], alts := [], laidByText := true, laidKinds := [.data], laidTests := true, laidLooks := .later }
def CarryNamesUptoCardSaid : Prop := Claim7.holds Tryd.pinned (.plain (OpenSpec.upto carryNamesSpec)) carryNamesUptoCard

/-- THE SECOND FORM's CARD OF 'spandrellaw04.TeleOpens'. -/
def teleOpensUptoCard : Claim7 := { stood := { row := teleOpensUptoRow, standIns := [], harness := (true, "9f57567d3024697d487ee904d17fe85f785c3bc0314a9136f0c78b7abbbf20d2"), looks := true }, kinds := [], alts := [], laidByText := true, laidKinds := [.data], laidTests := true, laidLooks := .later }
def TeleOpensUptoCardSaid : Prop := Claim7.holds Tryd.pinned (.plain (OpenSpec.upto teleOpensSpec)) teleOpensUptoCard

/-- THE SECOND FORM's CARD OF 'spandrellaw04.TeleEnds'. -/
def teleEndsUptoCard : Claim7 := { stood := { row := teleEndsUptoRow, standIns := [], harness := (true, "9f57567d3024697d487ee904d17fe85f785c3bc0314a9136f0c78b7abbbf20d2"), looks := true }, kinds := [], alts := [], laidByText := true, laidKinds := [.data], laidTests := true, laidLooks := .later }
def TeleEndsUptoCardSaid : Prop := Claim7.holds Tryd.pinned (.plain (OpenSpec.upto teleEndsSpec)) teleEndsUptoCard

/-- THE SECOND FORM's CARD OF 'spandrellaw21.CarryKeeps'. -/
def carryKeepsUptoCard : Claim7 := { stood := { row := carryKeepsUptoRow, standIns := [], harness := (true, "9f57567d3024697d487ee904d17fe85f785c3bc0314a9136f0c78b7abbbf20d2"), looks := true }, kinds := [], alts := [], laidByText := true, laidKinds := [.data], laidTests := true, laidLooks := .later }
def CarryKeepsUptoCardSaid : Prop := Claim7.holds Tryd.pinned (.plain (OpenSpec.upto carryKeepsSpec)) carryKeepsUptoCard
end Rows
end Go.Proofs.YtebgldnlkkhejaaDoor
