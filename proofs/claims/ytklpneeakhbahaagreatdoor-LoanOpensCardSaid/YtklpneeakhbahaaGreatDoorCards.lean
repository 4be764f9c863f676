/-
  DERIVED. GIVEN WITH THE SEED: THE CARDS: each row of YtklpneeakhbahaaGreatDoorRows.lean that lists a variable, with what it lists TIED to the program's text (the seventh form; the later family's looks); each row that meets fmt, with fmt's text TOLD by the authors' own Lean function (tested against real Go, not proved from fmt's source: count such statements apart). THE CARD IS WHAT COUNTS. Prove the row's statement (the work); the ties are given (YtklpneeakhbahaaGreatDoorTie.lean); close each card by the builder's one call (the guide's Derived/Test/ToyasCard.lean, 'card_holds'). Laid BY PROGRAM, IN A SANDBOX (cutbox-door.mjs). By AI agents, Wed Nov 11 2026. No macro, syntax, notation, axiom, sorry.
-/
import Derived.Test.YtklpneeakhbahaaGreatDoorRows
import GoSem.ClaimSeven
namespace Go.Proofs.YtklpneeakhbahaaGreatDoor
namespace Rows

/-- THE TIED CARD OF 'arrearslaw14.LoanOpens'. -/
def loanOpensCard : Claim7 := { stood := { row := loanOpensRow, standIns := [], harness := (true, "0b07a737f4c0f23ee6f526b6b7d9fd1199a5207b4ef04a3699e36ffcf134e980"), looks := true }, kinds := [], alts := [], laidByText := true, laidKinds := [.data, .data], laidTests := true, laidLooks := .later }
def LoanOpensCardSaid : Prop := Claim7.holds Tryz.pinned (.plain (OpenSpec.ofChange loanOpensSpec)) loanOpensCard

/-- THE SECOND FORM's CARD OF 'arrearslaw14.LoanOpens'. -/
def loanOpensUptoCard : Claim7 := { stood := { row := loanOpensUptoRow, standIns := [], harness := (true, "0b07a737f4c0f23ee6f526b6b7d9fd1199a5207b4ef04a3699e36ffcf134e980"), looks := true }, kinds := [], alts := [], laidByText := true, laidKinds := [.data, .data], laidTests := true, laidLooks := .later }
def LoanOpensUptoCardSaid : Prop := Claim7.holds Tryz.pinned (.plain (OpenSpec.upto loanOpensSpec)) loanOpensUptoCard
end Rows
end Go.Proofs.YtklpneeakhbahaaGreatDoor
