/-
  DERIVED. GIVEN WITH THE SEED: THE PROGRAM's TIES (one call each: nine closed facts by the kernel) AND EACH ROW's TIE, after the 31st guide's Derived/Test/Toyas{Tie, Card}.lean. No idea stands in it: it is a product of the set-up. Laid BY PROGRAM, IN A SANDBOX (cutbox-door.mjs). By AI agents, Wed Nov 11 2026. No macro, syntax, notation, axiom, sorry.
-/
import Derived.Test.YtlflclfhldghbaaGreatDoorRows
import Derived.LaidByTextLater
import Derived.SevenTiedAt
import Derived.LaidSub
import Derived.LaidOnce
namespace Go.Proofs.YtlflclfhldghbaaGreatDoor
open Go
set_option maxRecDepth 100000
theorem seatTie1 : Tryz.prog.laidByTextLater [("arrears/waterfall.orders", Rows.laid_arrears_waterfall_orders), ("arrears/ledger.sides", Rows.laid_arrears_ledger_sides), ("arrears/calendar.ahead", Rows.laid_arrears_calendar_ahead)] [.data, .data, .data] true :=
  Program.laidByTextLater_by_one 30 8 19 (by kernel_rfl) (by kernel_rfl) (by kernel_rfl) (by kernel_rfl) (by kernel_rfl) (by kernel_rfl) (fun _ _ => by kernel_rfl)
theorem noOwnUnsafe : Tryz.pinned.checked.prog.headLifts.contains "ownunsafe" = false := by kernel_rfl
theorem tie : Tryz.prog.laidByTextLater [("arrears/waterfall.orders", Rows.laid_arrears_waterfall_orders), ("arrears/ledger.sides", Rows.laid_arrears_ledger_sides), ("arrears/calendar.ahead", Rows.laid_arrears_calendar_ahead)] [.data, .data, .data] true :=
  Program.laidByTextLater.sub seatTie1 ["arrears/waterfall.orders", "arrears/ledger.sides", "arrears/calendar.ahead"] (by kernel_rfl) (by kernel_rfl)
theorem loanPaid_row_tie : Rows.loanPaidRow.laidByTextAt .later Tryz.pinned [.data, .data, .data] true :=
  OpenClaim.laidByTextAt_later rfl rfl tie noOwnUnsafe
theorem loanTakenBack_row_tie : Rows.loanTakenBackRow.laidByTextAt .later Tryz.pinned [.data, .data, .data] true :=
  OpenClaim.laidByTextAt_later rfl rfl tie noOwnUnsafe
theorem loanInterest_row_tie : Rows.loanInterestRow.laidByTextAt .later Tryz.pinned [.data, .data, .data] true :=
  OpenClaim.laidByTextAt_later rfl rfl tie noOwnUnsafe
theorem loanPolicies_row_tie : Rows.loanPoliciesRow.laidByTextAt .later Tryz.pinned [.data, .data, .data] true :=
  OpenClaim.laidByTextAt_later rfl rfl tie noOwnUnsafe
theorem loanPaidUpto_row_tie : Rows.loanPaidUptoRow.laidByTextAt .later Tryz.pinned [.data, .data, .data] true :=
  OpenClaim.laidByTextAt_later rfl rfl tie noOwnUnsafe
theorem loanTakenBackUpto_row_tie : Rows.loanTakenBackUptoRow.laidByTextAt .later Tryz.pinned [.data, .data, .data] true :=
  OpenClaim.laidByTextAt_later rfl rfl tie noOwnUnsafe
theorem loanInterestUpto_row_tie : Rows.loanInterestUptoRow.laidByTextAt .later Tryz.pinned [.data, .data, .data] true :=
  OpenClaim.laidByTextAt_later rfl rfl tie noOwnUnsafe
theorem loanPoliciesUpto_row_tie : Rows.loanPoliciesUptoRow.laidByTextAt .later Tryz.pinned [.data, .data, .data] true :=
  OpenClaim.laidByTextAt_later rfl rfl tie noOwnUnsafe
end Go.Proofs.YtlflclfhldghbaaGreatDoor
