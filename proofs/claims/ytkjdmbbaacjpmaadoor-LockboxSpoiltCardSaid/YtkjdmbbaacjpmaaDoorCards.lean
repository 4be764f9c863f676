/-
  DERIVED. GIVEN WITH THE SEED: THE CARDS: each row of YtkjdmbbaacjpmaaDoorRows.lean that lists a variable, with what it lists TIED to the program's text (the seventh form; the later family's looks); each row that meets fmt, with fmt's text TOLD by the authors' own Lean function (tested against real Go, not proved from fmt's source: count such statements apart). THE CARD IS WHAT COUNTS. Prove the row's statement (the work); the ties are given (YtkjdmbbaacjpmaaDoorTie.lean); close each card by the builder's one call (the guide's Derived/Test/ToyasCard.lean, 'card_holds'). Laid BY PROGRAM, IN A SANDBOX (cutbox-door.mjs). By AI agents, Wed Nov 11 2026. No macro, syntax, notation, axiom, sorry.
-/
import Derived.Test.YtkjdmbbaacjpmaaDoorRows
import GoSem.ClaimSeven
namespace Go.Proofs.YtkjdmbbaacjpmaaDoor
namespace Rows

/-- THE TIED CARD OF 'arrearslaw20.LockboxDigits'. -/
def lockboxDigitsCard : Claim7 := { stood := { row := lockboxDigitsRow, standIns := [], harness := (true, "f0b550da7508fe136f3dd07e4a07b7b2eeeb162549e0e531a12201a00ba13714"), looks := true }, kinds := [], alts := [], laidByText := true, laidKinds := [.data, .data, .data], laidTests := true, laidLooks := .later }
def LockboxDigitsCardSaid : Prop := Claim7.holds Tryd.pinned (.plain (OpenSpec.ofChange lockboxDigitsSpec)) lockboxDigitsCard

/-- THE TIED CARD OF 'arrearslaw20.LockboxLuhn'. -/
def lockboxLuhnCard : Claim7 := { stood := { row := lockboxLuhnRow, standIns := [], harness := (true, "f0b550da7508fe136f3dd07e4a07b7b2eeeb162549e0e531a12201a00ba13714"), looks := true }, kinds := [], alts := [], laidByText := true, laidKinds := [.data, .data, .data], laidTests := true, laidLooks := .later }
def LockboxLuhnCardSaid : Prop := Claim7.holds Tryd.pinned (.plain (OpenSpec.ofChange lockboxLuhnSpec)) lockboxLuhnCard

/-- THE TIED CARD OF 'arrearslaw20.LockboxTells'. -/
def lockboxTellsCard : Claim7 := { stood := { row := lockboxTellsRow, standIns := [], harness := (true, "f0b550da7508fe136f3dd07e4a07b7b2eeeb162549e0e531a12201a00ba13714"), looks := true }, kinds := [], alts := [], laidByText := true, laidKinds := [.data, .data, .data, .data], laidTests := true, laidLooks := .later }
def LockboxTellsCardSaid : Prop := Claim7.holds Tryd.pinned (.plain (OpenSpec.ofChange lockboxTellsSpec)) lockboxTellsCard

/-- THE TIED CARD OF 'arrearslaw20.LockboxReads'. -/
def lockboxReadsCard : Claim7 := { stood := { row := lockboxReadsRow, standIns := [], harness := (true, "f0b550da7508fe136f3dd07e4a07b7b2eeeb162549e0e531a12201a00ba13714"), looks := true }, kinds := [], alts := [], laidByText := true, laidKinds := [.data, .data, .data, .handle, .data, .sentinel, .sentinel], laidTests := true, laidLooks := .later }
def LockboxReadsCardSaid : Prop := Claim7.holds Tryd.pinned (.plain (OpenSpec.ofChange lockboxReadsSpec)) lockboxReadsCard

/-- THE TIED CARD OF 'arrearslaw20.LockboxRoundTrip'. -/
def lockboxRoundTripCard : Claim7 := { stood := { row := lockboxRoundTripRow, standIns := [], harness := (true, "f0b550da7508fe136f3dd07e4a07b7b2eeeb162549e0e531a12201a00ba13714"), looks := true }, kinds := [], alts := [], laidByText := true, laidKinds := [.data, .data, .data, .handle, .data, .sentinel, .sentinel], laidTests := true, laidLooks := .later }
def LockboxRoundTripCardSaid : Prop := Claim7.holds Tryd.pinned (.plain (OpenSpec.ofChange lockboxRoundTripSpec)) lockboxRoundTripCard

/-- THE TIED CARD OF 'arrearslaw20.LockboxSpoilt'. -/
def lockboxSpoiltCard : Claim7 := { stood := { row := lockboxSpoiltRow, standIns := [], harness := (true, "f0b550da7508fe136f3dd07e4a07b7b2eeeb162549e0e531a12201a00ba13714"), looks := true }, kinds := [], alts := [], laidByText := true, laidKinds := [.data, .data, .data, .handle, .data, .sentinel, .sentinel], laidTests := true, laidLooks := .later }
def LockboxSpoiltCardSaid : Prop := Claim7.holds Tryd.pinned (.plain (OpenSpec.ofChange lockboxSpoiltSpec)) lockboxSpoiltCard

/-- THE SECOND FORM's CARD OF 'arrearslaw20.LockboxDigits'. -/
def lockboxDigitsUptoCard : Claim7 := { stood := { row := lockboxDigitsUptoRow, standIns := [], harness := (true, "f0b550da7508fe136f3dd07e4a07b7b2eeeb162549e0e531a12201a00ba13714"), looks := true }, kinds := [], alts := [], laidByText := true, laidKinds := [.data, .data, .data], laidTests := true, laidLooks := .later }
def LockboxDigitsUptoCardSaid : Prop := Claim7.holds Tryd.pinned (.plain (OpenSpec.upto lockboxDigitsSpec)) lockboxDigitsUptoCard

/-- THE SECOND FORM's CARD OF 'arrearslaw20.LockboxLuhn'. -/
def lockboxLuhnUptoCard : Claim7 := { stood := { row := lockboxLuhnUptoRow, standIns := [], harness := (true, "f0b550da7508fe136f3dd07e4a07b7b2eeeb162549e0e531a12201a00ba13714"), looks := true }, kinds := [], alts := [], laidByText := true, laidKinds := [.data, .data, .data], laidTests := true, laidLooks := .later }
def LockboxLuhnUptoCardSaid : Prop := Claim7.holds Tryd.pinned (.plain (OpenSpec.upto lockboxLuhnSpec)) lockboxLuhnUptoCard

/-- THE SECOND FORM's CARD OF 'arrearslaw20.LockboxTells'. -/
def lockboxTellsUptoCard : Claim7 := { stood := { row := lockboxTellsUptoRow, standIns := [], harness := (true, "f0b550da7508fe136f3dd07e4a07b7b2eeeb162549e0e531a12201a00ba13714"), looks := true }, kinds := [], alts := [], laidByText := true, laidKinds := [.data, .data, .data, .data], laidTests := true, laidLooks := .later }
def LockboxTellsUptoCardSaid : Prop := Claim7.holds Tryd.pinned (.plain (OpenSpec.upto lockboxTellsSpec)) lockboxTellsUptoCard

/-- THE SECOND FORM's CARD OF 'arrearslaw20.LockboxReads'. -/
def lockboxReadsUptoCard : Claim7 := { stood := { row := lockboxReadsUptoRow, standIns := [], harness := (true, "f0b550da7508fe136f3dd07e4a07b7b2eeeb162549e0e531a12201a00ba13714"), looks := true }, kinds := [], alts := [], laidByText := true, laidKinds := [.data, .data, .data, .handle, .data, .sentinel, .sentinel], laidTests := true, laidLooks := .later }
def LockboxReadsUptoCardSaid : Prop := Claim7.holds Tryd.pinned (.plain (OpenSpec.upto lockboxReadsSpec)) lockboxReadsUptoCard

/-- THE SECOND FORM's CARD OF 'arrearslaw20.LockboxRoundTrip'. -/
def lockboxRoundTripUptoCard : Claim7 := { stood := { row := lockboxRoundTripUptoRow, standIns := [], harness := (true, "f0b550da7508fe136f3dd07e4a07b7b2eeeb162549e0e531a12201a00ba13714"), looks := true }, kinds := [], alts := [], laidByText := true, laidKinds := [.data, .data, .data, .handle, .data, .sentinel, .sentinel], laidTests := true, laidLooks := .later }
def LockboxRoundTripUptoCardSaid : Prop := Claim7.holds Tryd.pinned (.plain (OpenSpec.upto lockboxRoundTripSpec)) lockboxRoundTripUptoCard

/-- THE SECOND FORM's CARD OF 'arrearslaw20.LockboxSpoilt'. -/
def lockboxSpoiltUptoCard : Claim7 := { stood := { row := lockboxSpoiltUptoRow, standIns := [], harness := (true, "f0b550da7508fe136f3dd07e4a07b7b2eeeb162549e0e531a12201a00ba13714"), looks := true }, kinds := [], alts := [], laidByText := true, laidKinds := [.data, .data, .data, .handle, .data, .sentinel, .sentinel], laidTests := true, laidLooks := .later }
def LockboxSpoiltUptoCardSaid : Prop := Claim7.holds Tryd.pinned (.plain (OpenSpec.upto lockboxSpoiltSpec)) lockboxSpoiltUptoCard
end Rows
end Go.Proofs.YtkjdmbbaacjpmaaDoor
