/-
  NARROWER THAN 'FOR EVERY INPUT', by the rows' own cells (each row's printed sentence says how): LoanPaid: laid · LoanTakenBack: laid · LoanInterest: laid · LoanPolicies: laid.
  DERIVED. THE GIVEN ROWS OF THIS SEAT. 4 by the template 'for every input the law returns true; each argument reads behind the call as it read before'; 0 by the template 'total and deterministic' (their statements: YtlflclfhldghbaaGreatDoorTotals.lean).
  GIVEN WITH THE SEED: the statements are not yours to turn. If you find one false, say at which input.
  Laid BY PROGRAM, IN A SANDBOX (cutbox-rows.mjs): the forced cells as the released guide's own fill.sh prints them over the translation 960060a236dc0fca… (all of the seat's roots in one cut). By AI agents, Wed Nov 11 2026. No macro, syntax, notation, axiom, sorry.
-/
import Derived.Test.YtlflclfhldghbaaGreatDoorChecked
import GoSem.Claim
import GoSem.ClaimJoined
import GoSem.ClaimMapViews
import Derived.JoinedTies
import Derived.KernelRfl
namespace Go.Proofs.YtlflclfhldghbaaGreatDoor
/- THE CELL 'sum', in the pinned program and in every row, IS THE sha256 OF THE DUMP (.gsa) THAT YtlflclfhldghbaaGreatDoorProg.lean LOADS. Nothing in Lean hashes anything: it is a label: what it is worth is what the hold of that sum in a sandbox is worth. -/
noncomputable def Tryz.pinned : Pinned := { name := "ytlflclfhldghbaagreatdoor", sum := "960060a236dc0fca8ca430570e559ca0778338d6460807e020266d848580aa3d", checked := Tryz.checked }
namespace Rows
def none {H : Type} : Left H := { results := [], args := [] }

/- WHAT THE LISTED PACKAGE-LEVEL VARIABLES READ AS WHEN THE CALL BEGINS. Each datum BY PROGRAM (the guide's laid-datum.mjs) off the statement by which the dump's own 'gosem.cut.vars' lays the variable. In a bare row this is a premise. The card (YtlflclfhldghbaaGreatDoorCards.lean) ties it to the program's text. -/
def laid_arrears_waterfall_orders {H : Type} : DataW H := .agg [.agg [.lit (.int .i64 3), .lit (.int .i64 2), .lit (.int .i64 1)], .agg [.lit (.int .i64 3), .lit (.int .i64 1), .lit (.int .i64 2)], .agg [.lit (.int .i64 2), .lit (.int .i64 3), .lit (.int .i64 1)], .agg [.lit (.int .i64 2), .lit (.int .i64 1), .lit (.int .i64 3)], .agg [.lit (.int .i64 1), .lit (.int .i64 3), .lit (.int .i64 2)], .agg [.lit (.int .i64 1), .lit (.int .i64 2), .lit (.int .i64 3)]]
def laid_arrears_ledger_sides {H : Type} : DataW H := .agg [.lit (.int .i64 1), .lit (.int .i64 1), .lit (.int .i64 1), .lit (.int .i64 1), .lit (.int .i64 (-1)), .lit (.int .i64 (-1)), .lit (.int .i64 (-1)), .lit (.int .i64 (-1)), .lit (.int .i64 (-1)), .lit (.int .i64 1), .lit (.int .i64 (-1)), .lit (.int .i64 1)]
def laid_arrears_calendar_ahead {H : Type} : DataW H := .agg [.lit (.int .i64 0), .lit (.int .i64 31), .lit (.int .i64 59), .lit (.int .i64 90), .lit (.int .i64 120), .lit (.int .i64 151), .lit (.int .i64 181), .lit (.int .i64 212), .lit (.int .i64 243), .lit (.int .i64 273), .lit (.int .i64 304), .lit (.int .i64 334), .lit (.int .i64 365)]

/-- 'arrearslaw14.LoanPaid': WHATEVER THE INPUT: true; the input reads as it did. -/
def loanPaidSpec : ChangeSpec := { name := "loanPaid", fn := fun _ => fun
  | [d1, d2, d3, d4, d5] => { results := [.lit (.bool true)], args := [d1, d2, d3, d4, d5] }
  | _ => none }
def loanPaidRow : OpenClaim := { program := "ytlflclfhldghbaagreatdoor", sum := "960060a236dc0fca8ca430570e559ca0778338d6460807e020266d848580aa3d", func := "arrears/arrearslaw14.LoanPaid", spec := "loanPaid", inPlace := ["math/bits.Add64", "math/bits.Sub64"], unfollowed := true, recurses := true, named := ["arrears/calendar.ahead", "math/bits.divideError", "math/bits.overflowError", "arrears/ledger.sides", "arrears/waterfall.orders"], plainKeys := false, apart := false, laid := [("arrears/waterfall.orders", laid_arrears_waterfall_orders), ("arrears/ledger.sides", laid_arrears_ledger_sides), ("arrears/calendar.ahead", laid_arrears_calendar_ahead)] }
def LoanPaidSaid : Prop := loanPaidRow.holds Tryz.pinned (OpenSpec.ofChange loanPaidSpec)

/-- ITS FALSE NEIGHBOUR: 'it returns false'. Refute it at one input. -/
def loanPaidWrong : ChangeSpec := { name := "loanPaid", fn := fun _ => fun
  | [d1, d2, d3, d4, d5] => { results := [.lit (.bool false)], args := [d1, d2, d3, d4, d5] }
  | _ => none }
def LoanPaidWrongFalsely : Prop := loanPaidRow.holds Tryz.pinned (OpenSpec.ofChange loanPaidWrong)

/-- 'arrearslaw14.LoanTakenBack': WHATEVER THE INPUT: true; the input reads as it did. -/
def loanTakenBackSpec : ChangeSpec := { name := "loanTakenBack", fn := fun _ => fun
  | [d1, d2, d3, d4, d5] => { results := [.lit (.bool true)], args := [d1, d2, d3, d4, d5] }
  | _ => none }
def loanTakenBackRow : OpenClaim := { program := "ytlflclfhldghbaagreatdoor", sum := "960060a236dc0fca8ca430570e559ca0778338d6460807e020266d848580aa3d", func := "arrears/arrearslaw14.LoanTakenBack", spec := "loanTakenBack", inPlace := ["math/bits.Add64", "math/bits.Sub64"], unfollowed := true, recurses := true, named := ["arrears/calendar.ahead", "math/bits.divideError", "math/bits.overflowError", "arrears/ledger.sides", "arrears/waterfall.orders"], plainKeys := false, apart := false, laid := [("arrears/waterfall.orders", laid_arrears_waterfall_orders), ("arrears/ledger.sides", laid_arrears_ledger_sides), ("arrears/calendar.ahead", laid_arrears_calendar_ahead)] }
def LoanTakenBackSaid : Prop := loanTakenBackRow.holds Tryz.pinned (OpenSpec.ofChange loanTakenBackSpec)

/-- ITS FALSE NEIGHBOUR: 'it returns false'. Refute it at one input. -/
def loanTakenBackWrong : ChangeSpec := { name := "loanTakenBack", fn := fun _ => fun
  | [d1, d2, d3, d4, d5] => { results := [.lit (.bool false)], args := [d1, d2, d3, d4, d5] }
  | _ => none }
def LoanTakenBackWrongFalsely : Prop := loanTakenBackRow.holds Tryz.pinned (OpenSpec.ofChange loanTakenBackWrong)

/-- 'arrearslaw14.LoanInterest': WHATEVER THE INPUT: true; the input reads as it did. -/
def loanInterestSpec : ChangeSpec := { name := "loanInterest", fn := fun _ => fun
  | [d1, d2, d3, d4, d5] => { results := [.lit (.bool true)], args := [d1, d2, d3, d4, d5] }
  | _ => none }
def loanInterestRow : OpenClaim := { program := "ytlflclfhldghbaagreatdoor", sum := "960060a236dc0fca8ca430570e559ca0778338d6460807e020266d848580aa3d", func := "arrears/arrearslaw14.LoanInterest", spec := "loanInterest", inPlace := ["math/bits.Add64", "math/bits.Sub64"], unfollowed := true, recurses := true, named := ["arrears/calendar.ahead", "math/bits.divideError", "math/bits.overflowError", "arrears/ledger.sides", "arrears/waterfall.orders"], plainKeys := false, apart := false, laid := [("arrears/waterfall.orders", laid_arrears_waterfall_orders), ("arrears/ledger.sides", laid_arrears_ledger_sides), ("arrears/calendar.ahead", laid_arrears_calendar_ahead)] }
def LoanInterestSaid : Prop := loanInterestRow.holds Tryz.pinned (OpenSpec.ofChange loanInterestSpec)

/-- ITS FALSE NEIGHBOUR: 'it returns false'. Refute it at one input. -/
def loanInterestWrong : ChangeSpec := { name := "loanInterest", fn := fun _ => fun
  | [d1, d2, d3, d4, d5] => { results := [.lit (.bool false)], args := [d1, d2, d3, d4, d5] }
  | _ => none }
def LoanInterestWrongFalsely : Prop := loanInterestRow.holds Tryz.pinned (OpenSpec.ofChange loanInterestWrong)

/-- 'arrearslaw14.LoanPolicies': WHATEVER THE INPUT: true; the input reads as it did. -/
def loanPoliciesSpec : ChangeSpec := { name := "loanPolicies", fn := fun _ => fun
  | [d1, d2, d3, d4, d5, d6] => { results := [.lit (.bool true)], args := [d1, d2, d3, d4, d5, d6] }
  | _ => none }
def loanPoliciesRow : OpenClaim := { program := "ytlflclfhldghbaagreatdoor", sum := "960060a236dc0fca8ca430570e559ca0778338d6460807e020266d848580aa3d", func := "arrears/arrearslaw14.LoanPolicies", spec := "loanPolicies", inPlace := ["math/bits.Add64", "math/bits.Sub64"], unfollowed := true, recurses := true, named := ["arrears/calendar.ahead", "math/bits.divideError", "math/bits.overflowError", "arrears/ledger.sides", "arrears/waterfall.orders"], plainKeys := false, apart := false, laid := [("arrears/waterfall.orders", laid_arrears_waterfall_orders), ("arrears/ledger.sides", laid_arrears_ledger_sides), ("arrears/calendar.ahead", laid_arrears_calendar_ahead)] }
def LoanPoliciesSaid : Prop := loanPoliciesRow.holds Tryz.pinned (OpenSpec.ofChange loanPoliciesSpec)

/-- ITS FALSE NEIGHBOUR: 'it returns false'. Refute it at one input. -/
def loanPoliciesWrong : ChangeSpec := { name := "loanPolicies", fn := fun _ => fun
  | [d1, d2, d3, d4, d5, d6] => { results := [.lit (.bool false)], args := [d1, d2, d3, d4, d5, d6] }
  | _ => none }
def LoanPoliciesWrongFalsely : Prop := loanPoliciesRow.holds Tryz.pinned (OpenSpec.ofChange loanPoliciesWrong)

/- THE SECOND FORM. 'bulk': how many values and letters a reading holds, each counted each time it is reached (what is shared counts as often as it is met; a slice's spare places count too). A statement '..UptoSaid' is the law's where the arguments, and the package variables that the reading takes, are together of bulk at most 1048576: NARROWER than '..Said'. Prove '..Said' where nothing that the law and all that it calls make is longer than what came in: it says more and counts as full. Else prove '..UptoSaid'. A law counts once. -/
mutual
def uptoBulk {H : Type} : DataW H → Nat
  | .lit (.string bytes) => bytes.length + 1
  | .lit _ => 1
  | .nil => 1
  | .ptr d => uptoBulk d + 1
  | .slice elems spare => uptoBulkAll elems + uptoBulkAll spare + 1
  | .agg parts => uptoBulkAll parts + 1
  | .iface _ d => uptoBulk d + 1
  | .map entries => uptoBulkEntries entries + 1
  | .held _ => 1
def uptoBulkAll {H : Type} : List (DataW H) → Nat
  | [] => 0
  | d :: r => uptoBulk d + uptoBulkAll r
def uptoBulkEntries {H : Type} : List (Lit × DataW H) → Nat
  | [] => 0
  | x :: r => uptoBulkEntry x + uptoBulkEntries r
def uptoBulkEntry {H : Type} : Lit × DataW H → Nat
  | (.string bytes, d) => bytes.length + uptoBulk d + 1
  | (_, d) => uptoBulk d + 1
 end
def uptoSmall : (H : Type) → List (DataW H) → Bool := fun _ ds => decide (uptoBulkAll ds ≤ 1048576)
def OpenSpec.upto (s : _root_.Go.ChangeSpec) : _root_.Go.OpenSpec := { _root_.Go.OpenSpec.ofChange s with cond := some uptoSmall }

/-- 'arrearslaw14.LoanPaid', WHERE WHAT IT READS IS OF BULK AT MOST 1048576: true; the input reads as it did. -/
def loanPaidUptoRow : OpenClaim := { program := "ytlflclfhldghbaagreatdoor", sum := "960060a236dc0fca8ca430570e559ca0778338d6460807e020266d848580aa3d", func := "arrears/arrearslaw14.LoanPaid", spec := "loanPaid", inPlace := ["math/bits.Add64", "math/bits.Sub64"], unfollowed := true, recurses := true, named := ["arrears/calendar.ahead", "math/bits.divideError", "math/bits.overflowError", "arrears/ledger.sides", "arrears/waterfall.orders"], plainKeys := false, apart := false, laid := [("arrears/waterfall.orders", laid_arrears_waterfall_orders), ("arrears/ledger.sides", laid_arrears_ledger_sides), ("arrears/calendar.ahead", laid_arrears_calendar_ahead)], narrowed := true }
def LoanPaidUptoSaid : Prop := loanPaidUptoRow.holds Tryz.pinned (OpenSpec.upto loanPaidSpec)

/-- 'arrearslaw14.LoanTakenBack', WHERE WHAT IT READS IS OF BULK AT MOST 1048576: true; the input reads as it did. -/
def loanTakenBackUptoRow : OpenClaim := { program := "ytlflclfhldghbaagreatdoor", sum := "960060a236dc0fca8ca430570e559ca0778338d6460807e020266d848580aa3d", func := "arrears/arrearslaw14.LoanTakenBack", spec := "loanTakenBack", inPlace := ["math/bits.Add64", "math/bits.Sub64"], unfollowed := true, recurses := true, named := ["arrears/calendar.ahead", "math/bits.divideError", "math/bits.overflowError", "arrears/ledger.sides", "arrears/waterfall.orders"], plainKeys := false, apart := false, laid := [("arrears/waterfall.orders", laid_arrears_waterfall_orders), ("arrears/ledger.sides", laid_arrears_ledger_sides), ("arrears/calendar.ahead", laid_arrears_calendar_ahead)], narrowed := true }
def LoanTakenBackUptoSaid : Prop := loanTakenBackUptoRow.holds Tryz.pinned (OpenSpec.upto loanTakenBackSpec)

/-- 'arrearslaw14.LoanInterest', WHERE WHAT IT READS IS OF BULK AT MOST 1048576: true; the input reads as it did. -/
def loanInterestUptoRow : OpenClaim := { program := "ytlflclfhldghbaagreatdoor", sum := "960060a236dc0fca8ca430570e559ca0778338d6460807e020266d848580aa3d", func := "arrears/arrearslaw14.LoanInterest", spec := "loanInterest", inPlace := ["math/bits.Add64", "math/bits.Sub64"], unfollowed := true, recurses := true, named := ["arrears/calendar.ahead", "math/bits.divideError", "math/bits.overflowError", "arrears/ledger.sides", "arrears/waterfall.orders"], plainKeys := false, apart := false, laid := [("arrears/waterfall.orders", laid_arrears_waterfall_orders), ("arrears/ledger.sides", laid_arrears_ledger_sides), ("arrears/calendar.ahead", laid_arrears_calendar_ahead)], narrowed := true }
def LoanInterestUptoSaid : Prop := loanInterestUptoRow.holds Tryz.pinned (OpenSpec.upto loanInterestSpec)

/-- 'arrearslaw14.LoanPolicies', WHERE WHAT IT READS IS OF BULK AT MOST 1048576: true; the input reads as it did. -/
def loanPoliciesUptoRow : OpenClaim := { program := "ytlflclfhldghbaagreatdoor", sum := "960060a236dc0fca8ca430570e559ca0778338d6460807e020266d848580aa3d", func := "arrears/arrearslaw14.LoanPolicies", spec := "loanPolicies", inPlace := ["math/bits.Add64", "math/bits.Sub64"], unfollowed := true, recurses := true, named := ["arrears/calendar.ahead", "math/bits.divideError", "math/bits.overflowError", "arrears/ledger.sides", "arrears/waterfall.orders"], plainKeys := false, apart := false, laid := [("arrears/waterfall.orders", laid_arrears_waterfall_orders), ("arrears/ledger.sides", laid_arrears_ledger_sides), ("arrears/calendar.ahead", laid_arrears_calendar_ahead)], narrowed := true }
def LoanPoliciesUptoSaid : Prop := loanPoliciesUptoRow.holds Tryz.pinned (OpenSpec.upto loanPoliciesSpec)

end Rows
end Go.Proofs.YtlflclfhldghbaaGreatDoor
