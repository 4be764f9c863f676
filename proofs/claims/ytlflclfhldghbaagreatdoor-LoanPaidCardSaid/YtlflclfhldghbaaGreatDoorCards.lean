/-
  DERIVED. GIVEN WITH THE SEED: THE CARDS: each row of YtlflclfhldghbaaGreatDoorRows.lean that lists a variable, with what it lists TIED to the program's text (the seventh form; the later family's looks); each row that meets fmt, with fmt's text TOLD by the authors' own Lean function (tested against real Go, not proved from fmt's source: count such statements apart). THE CARD IS WHAT COUNTS. Prove the row's statement (the work); the ties are given (YtlflclfhldghbaaGreatDoorTie.lean); close each card by the builder's one call (the guide's Derived/Test/ToyasCard.lean, 'card_holds'). Laid BY PROGRAM, IN A SANDBOX (cutbox-door.mjs). By AI agents, Wed Nov 11 2026. No macro, syntax, notation, axiom, sorry.
-/
import Derived.Test.YtlflclfhldghbaaGreatDoorRows
import GoSem.ClaimSeven
namespace Go.Proofs.YtlflclfhldghbaaGreatDoor
namespace Rows

/-- THE TIED CARD OF 'arrearslaw14.LoanPaid'. -/
def loanPaidCard : Claim7 := { stood := { row := loanPaidRow, standIns := [], harness := (true, "3d221b0927a7c95bedc982b1de0f0f545bf19424b0ed2ae14bae1f53d6ab31cf"), looks := true }, kinds := [], alts := [], laidByText := true, laidKinds := [.data, .data, .data], laidTests := true, laidLooks := .later }
def LoanPaidCardSaid : Prop := Claim7.holds Tryz.pinned (.plain (OpenSpec.ofChange loanPaidSpec)) loanPaidCard

/-- THE TIED CARD OF 'arrearslaw14.LoanTakenBack'. -/
def loanTakenBackCard : Claim7 := { stood := { row := loanTakenBackRow, standIns := [], harness := (true, "3d221b0927a7c95bedc982b1de0f0f545bf19424b0ed2ae14bae1f53d6ab31cf"), looks := true }, kinds := [], alts := [], laidByText := true, laidKinds := [.data, .data, .data], laidTests := true, laidLooks := .later }
def LoanTakenBackCardSaid : Prop := Claim7.holds Tryz.pinned (.plain (OpenSpec.ofChange loanTakenBackSpec)) loanTakenBackCard

/-- THE TIED CARD OF 'arrearslaw14.LoanInterest'. -/
def loanInterestCard : Claim7 := { stood := { row := loanInterestRow, standIns := [], harness := (true, "3d221b0927a7c95bedc982b1de0f0f545bf19424b0ed2ae14bae1f53d6ab31cf"), looks := true }, kinds := [], alts := [], laidByText := true, laidKinds := [.data, .data, .data], laidTests := true, laidLooks := .later }
def LoanInterestCardSaid : Prop := Claim7.holds Tryz.pinned (.plain (OpenSpec.ofChange loanInterestSpec)) loanInterestCard

/-- THE TIED CARD OF 'arrearslaw14.LoanPolicies'. -/
def loanPoliciesCard : Claim7 := { stood := { row := loanPoliciesRow, standIns := [], harness := (true, "3d221b0927a7c95bedc982b1de0f0f545bf19424b0ed2ae14bae1f53d6ab31cf"), looks := true }, kinds := [], alts := [], laidByText := true, laidKinds := [.data, .data, .data], laidTests := true, laidLooks := .later }
def LoanPoliciesCardSaid : Prop := Claim7.holds Tryz.pinned (.plain (OpenSpec.ofChange loanPoliciesSpec)) loanPoliciesCard

/-- THE SECOND FORM's CARD OF 'arrearslaw14.LoanPaid'. -/
def loanPaidUptoCard : Claim7 := { stood := { row := loanPaidUptoRow, standIns := [], harness := (true, "3d221b0927a7c95bedc982b1de0f0f545bf19424b0ed2ae14bae1f53d6ab31cf"), looks := true }, kinds := [], alts := [], laidByText := true, laidKinds := [.data, .data, .data], laidTests := true, laidLooks := .later }
def LoanPaidUptoCardSaid : Prop := Claim7.holds Tryz.pinned (.plain (OpenSpec.upto loanPaidSpec)) loanPaidUptoCard

/-- THE SECOND FORM's CARD OF 'arrearslaw14.LoanTakenBack'. -/
def loanTakenBackUptoCard : Claim7 := { stood := { row := loanTakenBackUptoRow, standIns := [], harness := (true, "3d221b0927a7c95bedc982b1de0f0f545bf19424b0ed2ae14bae1f53d6ab31cf"), looks := true }, kinds := [], alts := [], laidByText := true, laidKinds := [.data, .data, .data], laidTests := true, laidLooks := .later }
def LoanTakenBackUptoCardSaid : Prop := Claim7.holds Tryz.pinned (.plain (OpenSpec.upto loanTakenBackSpec)) loanTakenBackUptoCard

/-- THE SECOND FORM's CARD OF 'arrearslaw14.LoanInterest'. -/
def loanInterestUptoCard : Claim7 := { stood := { row := loanInterestUptoRow, standIns := [], harness := (true, "3d221b0927a7c95bedc982b1de0f0f545bf19424b0ed2ae14bae1f53d6ab31cf"), looks := true }, kinds := [], alts := [], laidByText := true, laidKinds := [.data, .data, .data], laidTests := true, laidLooks := .later }
def LoanInterestUptoCardSaid : Prop := Claim7.holds Tryz.pinned (.plain (OpenSpec.upto loanInterestSpec)) loanInterestUptoCard

/-- THE SECOND FORM's CARD OF 'arrearslaw14.LoanPolicies'. -/
def loanPoliciesUptoCard : Claim7 := { stood := { row := loanPoliciesUptoRow, standIns := [], harness := (true, "3d221b0927a7c95bedc982b1de0f0f545bf19424b0ed2ae14bae1f53d6ab31cf"), looks := true }, kinds := [], alts := [], laidByText := true, laidKinds := [.data, .data, .data], laidTests := true, laidLooks := .later }
def LoanPoliciesUptoCardSaid : Prop := Claim7.holds Tryz.pinned (.plain (OpenSpec.upto loanPoliciesSpec)) loanPoliciesUptoCard
end Rows
end Go.Proofs.YtlflclfhldghbaaGreatDoor
