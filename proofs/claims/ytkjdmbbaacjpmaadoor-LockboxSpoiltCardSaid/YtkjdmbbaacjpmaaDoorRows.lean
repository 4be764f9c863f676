/-
  NARROWER THAN 'FOR EVERY INPUT', by the rows' own cells (each row's printed sentence says how): LockboxDigits: laid · LockboxLuhn: laid · LockboxTells: laid · LockboxReads: laid · LockboxRoundTrip: laid · LockboxSpoilt: laid.
  DERIVED. THE GIVEN ROWS OF THIS SEAT. 6 by the template 'for every input the law returns true; each argument reads behind the call as it read before'; 0 by the template 'total and deterministic' (their statements: YtkjdmbbaacjpmaaDoorTotals.lean).
  GIVEN WITH THE SEED: the statements are not yours to turn. If you find one false, say at which input.
  Laid BY PROGRAM, IN A SANDBOX (cutbox-rows.mjs): the forced cells as the released guide's own fill.sh prints them over the translation 46b55d50eb1a4528… (all of the seat's roots in one cut). By AI agents, Wed Nov 11 2026. No macro, syntax, notation, axiom, sorry.
-/
import Derived.Test.YtkjdmbbaacjpmaaDoorChecked
import GoSem.Claim
import GoSem.ClaimJoined
import GoSem.ClaimMapViews
import Derived.JoinedTies
import Derived.KernelRfl
namespace Go.Proofs.YtkjdmbbaacjpmaaDoor
/- THE CELL 'sum', in the pinned program and in every row, IS THE sha256 OF THE DUMP (.gsa) THAT YtkjdmbbaacjpmaaDoorProg.lean LOADS. Nothing in Lean hashes anything: it is a label: what it is worth is what the hold of that sum in a sandbox is worth. -/
noncomputable def Tryd.pinned : Pinned := { name := "ytkjdmbbaacjpmaadoor", sum := "46b55d50eb1a45283b7e27986c5ced5ee37bdb214167269335416f81ae5356c1", checked := Tryd.checked }
namespace Rows
def none {H : Type} : Left H := { results := [], args := [] }

/- WHAT THE LISTED PACKAGE-LEVEL VARIABLES READ AS WHEN THE CALL BEGINS. Each datum BY PROGRAM (the guide's laid-datum.mjs) off the statement by which the dump's own 'gosem.cut.vars' lays the variable. In a bare row this is a premise. The card (YtkjdmbbaacjpmaaDoorCards.lean) ties it to the program's text. -/
def laid_math_bits_deBruijn32tab {H : Type} : DataW H := .agg [.lit (.int .u8 0), .lit (.int .u8 1), .lit (.int .u8 28), .lit (.int .u8 2), .lit (.int .u8 29), .lit (.int .u8 14), .lit (.int .u8 24), .lit (.int .u8 3), .lit (.int .u8 30), .lit (.int .u8 22), .lit (.int .u8 20), .lit (.int .u8 15), .lit (.int .u8 25), .lit (.int .u8 17), .lit (.int .u8 4), .lit (.int .u8 8), .lit (.int .u8 31), .lit (.int .u8 27), .lit (.int .u8 13), .lit (.int .u8 23), .lit (.int .u8 21), .lit (.int .u8 19), .lit (.int .u8 16), .lit (.int .u8 7), .lit (.int .u8 26), .lit (.int .u8 12), .lit (.int .u8 18), .lit (.int .u8 6), .lit (.int .u8 11), .lit (.int .u8 5), .lit (.int .u8 10), .lit (.int .u8 9)]
def laid_math_bits_deBruijn64tab {H : Type} : DataW H := .agg [.lit (.int .u8 0), .lit (.int .u8 1), .lit (.int .u8 56), .lit (.int .u8 2), .lit (.int .u8 57), .lit (.int .u8 49), .lit (.int .u8 28), .lit (.int .u8 3), .lit (.int .u8 61), .lit (.int .u8 58), .lit (.int .u8 42), .lit (.int .u8 50), .lit (.int .u8 38), .lit (.int .u8 29), .lit (.int .u8 17), .lit (.int .u8 4), .lit (.int .u8 62), .lit (.int .u8 47), .lit (.int .u8 59), .lit (.int .u8 36), .lit (.int .u8 45), .lit (.int .u8 43), .lit (.int .u8 51), .lit (.int .u8 22), .lit (.int .u8 53), .lit (.int .u8 39), .lit (.int .u8 33), .lit (.int .u8 30), .lit (.int .u8 24), .lit (.int .u8 18), .lit (.int .u8 12), .lit (.int .u8 5), .lit (.int .u8 63), .lit (.int .u8 55), .lit (.int .u8 48), .lit (.int .u8 27), .lit (.int .u8 60), .lit (.int .u8 41), .lit (.int .u8 37), .lit (.int .u8 16), .lit (.int .u8 46), .lit (.int .u8 35), .lit (.int .u8 44), .lit (.int .u8 21), .lit (.int .u8 52), .lit (.int .u8 32), .lit (.int .u8 23), .lit (.int .u8 11), .lit (.int .u8 54), .lit (.int .u8 26), .lit (.int .u8 40), .lit (.int .u8 15), .lit (.int .u8 34), .lit (.int .u8 20), .lit (.int .u8 31), .lit (.int .u8 10), .lit (.int .u8 25), .lit (.int .u8 14), .lit (.int .u8 19), .lit (.int .u8 9), .lit (.int .u8 13), .lit (.int .u8 8), .lit (.int .u8 7), .lit (.int .u8 6)]
def laid_internal_strconv_uint64pow10 {H : Type} : DataW H := .agg [.lit (.int .u64 1), .lit (.int .u64 10), .lit (.int .u64 100), .lit (.int .u64 1000), .lit (.int .u64 10000), .lit (.int .u64 100000), .lit (.int .u64 1000000), .lit (.int .u64 10000000), .lit (.int .u64 100000000), .lit (.int .u64 1000000000), .lit (.int .u64 10000000000), .lit (.int .u64 100000000000), .lit (.int .u64 1000000000000), .lit (.int .u64 10000000000000), .lit (.int .u64 100000000000000), .lit (.int .u64 1000000000000000), .lit (.int .u64 10000000000000000), .lit (.int .u64 100000000000000000), .lit (.int .u64 1000000000000000000), .lit (.int .u64 10000000000000000000)]
def laid_arrears_calendar_ahead {H : Type} : DataW H := .agg [.lit (.int .i64 0), .lit (.int .i64 31), .lit (.int .i64 59), .lit (.int .i64 90), .lit (.int .i64 120), .lit (.int .i64 151), .lit (.int .i64 181), .lit (.int .i64 212), .lit (.int .i64 243), .lit (.int .i64 273), .lit (.int .i64 304), .lit (.int .i64 334), .lit (.int .i64 365)]
def laid_errors_errorType {H : Type} : DataW H := .iface "internal/reflectlite.rtype" (.agg [.ptr (.lit (.string [101, 114, 114, 111, 114]))])
def laid_strconv_ErrRange {H : Type} : DataW H := .iface "*errors.errorString" (.ptr (.agg [.lit (.string [118, 97, 108, 117, 101, 32, 111, 117, 116, 32, 111, 102, 32, 114, 97, 110, 103, 101])]))
def laid_strconv_ErrSyntax {H : Type} : DataW H := .iface "*errors.errorString" (.ptr (.agg [.lit (.string [105, 110, 118, 97, 108, 105, 100, 32, 115, 121, 110, 116, 97, 120])]))

/-- 'arrearslaw20.LockboxDigits': WHATEVER THE INPUT: true; the input reads as it did. -/
def lockboxDigitsSpec : ChangeSpec := { name := "lockboxDigits", fn := fun _ => fun
  | [d1, d2] => { results := [.lit (.bool true)], args := [d1, d2] }
  | _ => none }
def lockboxDigitsRow : OpenClaim := { program := "ytkjdmbbaacjpmaadoor", sum := "46b55d50eb1a45283b7e27986c5ced5ee37bdb214167269335416f81ae5356c1", func := "arrears/arrearslaw20.LockboxDigits", spec := "lockboxDigits", named := ["internal/strconv.uint64pow10", "math/bits.deBruijn32tab", "math/bits.deBruijn64tab"], apart := false, laid := [("math/bits.deBruijn32tab", laid_math_bits_deBruijn32tab), ("math/bits.deBruijn64tab", laid_math_bits_deBruijn64tab), ("internal/strconv.uint64pow10", laid_internal_strconv_uint64pow10)] }
def LockboxDigitsSaid : Prop := lockboxDigitsRow.holds Tryd.pinned (OpenSpec.ofChange lockboxDigitsSpec)

/-- ITS FALSE NEIGHBOUR: 'it returns false'. Refute it at one input. -/
def lockboxDigitsWrong : ChangeSpec := { name := "lockboxDigits", fn := fun _ => fun
  | [d1, d2] => { results := [.lit (.bool false)], args := [d1, d2] }
  | _ => none }
def LockboxDigitsWrongFalsely : Prop := lockboxDigitsRow.holds Tryd.pinned (OpenSpec.ofChange lockboxDigitsWrong)

/-- 'arrearslaw20.LockboxLuhn': WHATEVER THE INPUT: true; the input reads as it did. -/
def lockboxLuhnSpec : ChangeSpec := { name := "lockboxLuhn", fn := fun _ => fun
  | [d1, d2, d3] => { results := [.lit (.bool true)], args := [d1, d2, d3] }
  | _ => none }
def lockboxLuhnRow : OpenClaim := { program := "ytkjdmbbaacjpmaadoor", sum := "46b55d50eb1a45283b7e27986c5ced5ee37bdb214167269335416f81ae5356c1", func := "arrears/arrearslaw20.LockboxLuhn", spec := "lockboxLuhn", named := ["internal/strconv.uint64pow10", "math/bits.deBruijn32tab", "math/bits.deBruijn64tab"], apart := false, laid := [("math/bits.deBruijn32tab", laid_math_bits_deBruijn32tab), ("math/bits.deBruijn64tab", laid_math_bits_deBruijn64tab), ("internal/strconv.uint64pow10", laid_internal_strconv_uint64pow10)] }
def LockboxLuhnSaid : Prop := lockboxLuhnRow.holds Tryd.pinned (OpenSpec.ofChange lockboxLuhnSpec)

/-- ITS FALSE NEIGHBOUR: 'it returns false'. Refute it at one input. -/
def lockboxLuhnWrong : ChangeSpec := { name := "lockboxLuhn", fn := fun _ => fun
  | [d1, d2, d3] => { results := [.lit (.bool false)], args := [d1, d2, d3] }
  | _ => none }
def LockboxLuhnWrongFalsely : Prop := lockboxLuhnRow.holds Tryd.pinned (OpenSpec.ofChange lockboxLuhnWrong)

/-- 'arrearslaw20.LockboxTells': WHATEVER THE INPUT: true; the input reads as it did. -/
def lockboxTellsSpec : ChangeSpec := { name := "lockboxTells", fn := fun _ => fun
  | [d] => { results := [.lit (.bool true)], args := [d] }
  | _ => none }
def lockboxTellsRow : OpenClaim := { program := "ytkjdmbbaacjpmaadoor", sum := "46b55d50eb1a45283b7e27986c5ced5ee37bdb214167269335416f81ae5356c1", func := "arrears/arrearslaw20.LockboxTells", spec := "lockboxTells", named := ["arrears/calendar.ahead", "internal/strconv.uint64pow10", "math/bits.deBruijn32tab", "math/bits.deBruijn64tab"], apart := false, laid := [("math/bits.deBruijn32tab", laid_math_bits_deBruijn32tab), ("math/bits.deBruijn64tab", laid_math_bits_deBruijn64tab), ("internal/strconv.uint64pow10", laid_internal_strconv_uint64pow10), ("arrears/calendar.ahead", laid_arrears_calendar_ahead)] }
def LockboxTellsSaid : Prop := lockboxTellsRow.holds Tryd.pinned (OpenSpec.ofChange lockboxTellsSpec)

/-- ITS FALSE NEIGHBOUR: 'it returns false'. Refute it at one input. -/
def lockboxTellsWrong : ChangeSpec := { name := "lockboxTells", fn := fun _ => fun
  | [d] => { results := [.lit (.bool false)], args := [d] }
  | _ => none }
def LockboxTellsWrongFalsely : Prop := lockboxTellsRow.holds Tryd.pinned (OpenSpec.ofChange lockboxTellsWrong)

/-- 'arrearslaw20.LockboxReads': WHATEVER THE INPUT: true; the input reads as it did. -/
def lockboxReadsSpec : ChangeSpec := { name := "lockboxReads", fn := fun _ => fun
  | [d] => { results := [.lit (.bool true)], args := [d] }
  | _ => none }
def lockboxReadsRow : OpenClaim := { program := "ytkjdmbbaacjpmaadoor", sum := "46b55d50eb1a45283b7e27986c5ced5ee37bdb214167269335416f81ae5356c1", func := "arrears/arrearslaw20.LockboxReads", spec := "lockboxReads", inPlace := ["internal/bytealg.IndexByte", "internal/reflectlite.ValueOf", "(internal/reflectlite.Value).Type", "(internal/reflectlite.Value).IsNil", "internal/reflectlite.TypeOf", "(internal/reflectlite.Value).Elem", "(internal/reflectlite.Value).Set"], unfollowed := true, recurses := true, named := ["strconv.ErrSyntax", "strconv.ErrRange", "internal/strconv.uint64pow10", "math/bits.deBruijn32tab", "math/bits.deBruijn64tab", "arrears/calendar.ahead", "errors.errorType"], apart := false, laid := [("math/bits.deBruijn32tab", laid_math_bits_deBruijn32tab), ("math/bits.deBruijn64tab", laid_math_bits_deBruijn64tab), ("internal/strconv.uint64pow10", laid_internal_strconv_uint64pow10), ("errors.errorType", laid_errors_errorType), ("arrears/calendar.ahead", laid_arrears_calendar_ahead), ("strconv.ErrRange", laid_strconv_ErrRange), ("strconv.ErrSyntax", laid_strconv_ErrSyntax)] }
def LockboxReadsSaid : Prop := lockboxReadsRow.holds Tryd.pinned (OpenSpec.ofChange lockboxReadsSpec)

/-- ITS FALSE NEIGHBOUR: 'it returns false'. Refute it at one input. -/
def lockboxReadsWrong : ChangeSpec := { name := "lockboxReads", fn := fun _ => fun
  | [d] => { results := [.lit (.bool false)], args := [d] }
  | _ => none }
def LockboxReadsWrongFalsely : Prop := lockboxReadsRow.holds Tryd.pinned (OpenSpec.ofChange lockboxReadsWrong)

/-- 'arrearslaw20.LockboxRoundTrip': WHATEVER THE INPUT: true; the input reads as it did. -/
def lockboxRoundTripSpec : ChangeSpec := { name := "lockboxRoundTrip", fn := fun _ => fun
  | [d1, d2] => { results := [.lit (.bool true)], args := [d1, d2] }
  | _ => none }
def lockboxRoundTripRow : OpenClaim := { program := "ytkjdmbbaacjpmaadoor", sum := "46b55d50eb1a45283b7e27986c5ced5ee37bdb214167269335416f81ae5356c1", func := "arrears/arrearslaw20.LockboxRoundTrip", spec := "lockboxRoundTrip", inPlace := ["internal/bytealg.IndexByte", "internal/reflectlite.ValueOf", "(internal/reflectlite.Value).Type", "(internal/reflectlite.Value).IsNil", "internal/reflectlite.TypeOf", "(internal/reflectlite.Value).Elem", "(internal/reflectlite.Value).Set"], unfollowed := true, recurses := true, named := ["arrears/calendar.ahead", "internal/strconv.uint64pow10", "math/bits.deBruijn32tab", "math/bits.deBruijn64tab", "strconv.ErrSyntax", "strconv.ErrRange", "errors.errorType"], apart := false, laid := [("math/bits.deBruijn32tab", laid_math_bits_deBruijn32tab), ("math/bits.deBruijn64tab", laid_math_bits_deBruijn64tab), ("internal/strconv.uint64pow10", laid_internal_strconv_uint64pow10), ("errors.errorType", laid_errors_errorType), ("arrears/calendar.ahead", laid_arrears_calendar_ahead), ("strconv.ErrRange", laid_strconv_ErrRange), ("strconv.ErrSyntax", laid_strconv_ErrSyntax)] }
def LockboxRoundTripSaid : Prop := lockboxRoundTripRow.holds Tryd.pinned (OpenSpec.ofChange lockboxRoundTripSpec)

/-- ITS FALSE NEIGHBOUR: 'it returns false'. Refute it at one input. -/
def lockboxRoundTripWrong : ChangeSpec := { name := "lockboxRoundTrip", fn := fun _ => fun
  | [d1, d2] => { results := [.lit (.bool false)], args := [d1, d2] }
  | _ => none }
def LockboxRoundTripWrongFalsely : Prop := lockboxRoundTripRow.holds Tryd.pinned (OpenSpec.ofChange lockboxRoundTripWrong)

/-- 'arrearslaw20.LockboxSpoilt': WHATEVER THE INPUT: true; the input reads as it did. -/
def lockboxSpoiltSpec : ChangeSpec := { name := "lockboxSpoilt", fn := fun _ => fun
  | [d1, d2, d3] => { results := [.lit (.bool true)], args := [d1, d2, d3] }
  | _ => none }
def lockboxSpoiltRow : OpenClaim := { program := "ytkjdmbbaacjpmaadoor", sum := "46b55d50eb1a45283b7e27986c5ced5ee37bdb214167269335416f81ae5356c1", func := "arrears/arrearslaw20.LockboxSpoilt", spec := "lockboxSpoilt", inPlace := ["internal/bytealg.IndexByte", "internal/reflectlite.ValueOf", "(internal/reflectlite.Value).Type", "(internal/reflectlite.Value).IsNil", "internal/reflectlite.TypeOf", "(internal/reflectlite.Value).Elem", "(internal/reflectlite.Value).Set"], unfollowed := true, recurses := true, named := ["arrears/calendar.ahead", "internal/strconv.uint64pow10", "math/bits.deBruijn32tab", "math/bits.deBruijn64tab", "strconv.ErrSyntax", "strconv.ErrRange", "errors.errorType"], apart := false, laid := [("math/bits.deBruijn32tab", laid_math_bits_deBruijn32tab), ("math/bits.deBruijn64tab", laid_math_bits_deBruijn64tab), ("internal/strconv.uint64pow10", laid_internal_strconv_uint64pow10), ("errors.errorType", laid_errors_errorType), ("arrears/calendar.ahead", laid_arrears_calendar_ahead), ("strconv.ErrRange", laid_strconv_ErrRange), ("strconv.ErrSyntax", laid_strconv_ErrSyntax)] }
def LockboxSpoiltSaid : Prop := lockboxSpoiltRow.holds Tryd.pinned (OpenSpec.ofChange lockboxSpoiltSpec)

/-- ITS FALSE NEIGHBOUR: 'it returns false'. Refute it at one input. -/
def lockboxSpoiltWrong : ChangeSpec := { name := "lockboxSpoilt", fn := fun _ => fun
  | [d1, d2, d3] => { results := [.lit (.bool false)], args := [d1, d2, d3] }
  | _ => none }
def LockboxSpoiltWrongFalsely : Prop := lockboxSpoiltRow.holds Tryd.pinned (OpenSpec.ofChange lockboxSpoiltWrong)

/- THE SECOND FORM. 'bulk': how many values and letters a reading holds, each counted each time it is reached (what is shared counts as often as it is met; a slice's spare places count too). A statement '..UptoSaid' is the law's where the arguments, and the package variables that the reading takes, are together of bulk at most 1048576: NARROWER than '..Said'. Prove '..Said' where nothing that the law and all that it calls make is longer than what came in: it says more and counts as full. Else prove '..UptoSaid'. A law counts once. -/
mutual
def uptoBulk {H : Type} : DataW H → Nat
  | .lit (.string bytes) => bytes.length + 1
  | .lit _ => 1
  | .nil => 1
  | .ptr d => uptoBulk d + 1
  | .slice elems spare => uptoBulkAll elems + uptoBulkAll spare + 1
  | .agg parts => uptoBulkAll parts + 1
  | .iface _ d => uptoBulk d + 1
  | .map entries => uptoBulkEntries entries + 1
  | .held _ => 1
def uptoBulkAll {H : Type} : List (DataW H) → Nat
  | [] => 0
  | d :: r => uptoBulk d + uptoBulkAll r
def uptoBulkEntries {H : Type} : List (Lit × DataW H) → Nat
  | [] => 0
  | x :: r => uptoBulkEntry x + uptoBulkEntries r
def uptoBulkEntry {H : Type} : Lit × DataW H → Nat
  | (.string bytes, d) => bytes.length + uptoBulk d + 1
  | (_, d) => uptoBulk d + 1
 end
def uptoSmall : (H : Type) → List (DataW H) → Bool := fun _ ds => decide (uptoBulkAll ds ≤ 1048576)
def OpenSpec.upto (s : _root_.Go.ChangeSpec) : _root_.Go.OpenSpec := { _root_.Go.OpenSpec.ofChange s with cond := some uptoSmall }

/-- 'arrearslaw20.LockboxDigits', WHERE WHAT IT READS IS OF BULK AT MOST 1048576: true; the input reads as it did. -/
def lockboxDigitsUptoRow : OpenClaim := { program := "ytkjdmbbaacjpmaadoor", sum := "46b55d50eb1a45283b7e27986c5ced5ee37bdb214167269335416f81ae5356c1", func := "arrears/arrearslaw20.LockboxDigits", spec := "lockboxDigits", named := ["internal/strconv.uint64pow10", "math/bits.deBruijn32tab", "math/bits.deBruijn64tab"], apart := false, laid := [("math/bits.deBruijn32tab", laid_math_bits_deBruijn32tab), ("math/bits.deBruijn64tab", laid_math_bits_deBruijn64tab), ("internal/strconv.uint64pow10", laid_internal_strconv_uint64pow10)], narrowed := true }
def LockboxDigitsUptoSaid : Prop := lockboxDigitsUptoRow.holds Tryd.pinned (OpenSpec.upto lockboxDigitsSpec)

/-- 'arrearslaw20.LockboxLuhn', WHERE WHAT IT READS IS OF BULK AT MOST 1048576: true; the input reads as it did. -/
def lockboxLuhnUptoRow : OpenClaim := { program := "ytkjdmbbaacjpmaadoor", sum := "46b55d50eb1a45283b7e27986c5ced5ee37bdb214167269335416f81ae5356c1", func := "arrears/arrearslaw20.LockboxLuhn", spec := "lockboxLuhn", named := ["internal/strconv.uint64pow10", "math/bits.deBruijn32tab", "math/bits.deBruijn64tab"], apart := false, laid := [("math/bits.deBruijn32tab", laid_math_bits_deBruijn32tab), ("math/bits.deBruijn64tab", laid_math_bits_deBruijn64tab), ("internal/strconv.uint64pow10", laid_internal_strconv_uint64pow10)], narrowed := true }
def LockboxLuhnUptoSaid : Prop := lockboxLuhnUptoRow.holds Tryd.pinned (OpenSpec.upto lockboxLuhnSpec)

/-- 'arrearslaw20.LockboxTells', WHERE WHAT IT READS IS OF BULK AT MOST 1048576: true; the input reads as it did. -/
def lockboxTellsUptoRow : OpenClaim := { program := "ytkjdmbbaacjpmaadoor", sum := "46b55d50eb1a45283b7e27986c5ced5ee37bdb214167269335416f81ae5356c1", func := "arrears/arrearslaw20.LockboxTells", spec := "lockboxTells", named := ["arrears/calendar.ahead", "internal/strconv.uint64pow10", "math/bits.deBruijn32tab", "math/bits.deBruijn64tab"], apart := false, laid := [("math/bits.deBruijn32tab", laid_math_bits_deBruijn32tab), ("math/bits.deBruijn64tab", laid_math_bits_deBruijn64tab), ("internal/strconv.uint64pow10", laid_internal_strconv_uint64pow10), ("arrears/calendar.ahead", laid_arrears_calendar_ahead)], narrowed := true }
def LockboxTellsUptoSaid : Prop := lockboxTellsUptoRow.holds Tryd.pinned (OpenSpec.upto lockboxTellsSpec)

/-- 'arrearslaw20.LockboxReads', WHERE WHAT IT READS IS OF BULK AT MOST 1048576: true; the input reads as it did. -/
def lockboxReadsUptoRow : OpenClaim := { program := "ytkjdmbbaacjpmaadoor", sum := "46b55d50eb1a45283b7e27986c5ced5ee37bdb214167269335416f81ae5356c1", func := "arrears/arrearslaw20.LockboxReads", spec := "lockboxReads", inPlace := ["internal/bytealg.IndexByte", "internal/reflectlite.ValueOf", "(internal/reflectlite.Value).Type", "(internal/reflectlite.Value).IsNil", "internal/reflectlite.TypeOf", "(internal/reflectlite.Value).Elem", "(internal/reflectlite.Value).Set"], unfollowed := true, recurses := true, named := ["strconv.ErrSyntax", "strconv.ErrRange", "internal/strconv.uint64pow10", "math/bits.deBruijn32tab", "math/bits.deBruijn64tab", "arrears/calendar.ahead", "errors.errorType"], apart := false, laid := [("math/bits.deBruijn32tab", laid_math_bits_deBruijn32tab), ("math/bits.deBruijn64tab", laid_math_bits_deBruijn64tab), ("internal/strconv.uint64pow10", laid_internal_strconv_uint64pow10), ("errors.errorType", laid_errors_errorType), ("arrears/calendar.ahead", laid_arrears_calendar_ahead), ("strconv.ErrRange", laid_strconv_ErrRange), ("strconv.ErrSyntax", laid_strconv_ErrSyntax)], narrowed := true }
def LockboxReadsUptoSaid : Prop := lockboxReadsUptoRow.holds Tryd.pinned (OpenSpec.upto lockboxReadsSpec)

/-- 'arrearslaw20.LockboxRoundTrip', WHERE WHAT IT READS IS OF BULK AT MOST 1048576: true; the input reads as it did. -/
def lockboxRoundTripUptoRow : OpenClaim := { program := "ytkjdmbbaacjpmaadoor", sum := "46b55d50eb1a45283b7e27986c5ced5ee37bdb214167269335416f81ae5356c1", func := "arrears/arrearslaw20.LockboxRoundTrip", spec := "lockboxRoundTrip", inPlace := ["internal/bytealg.IndexByte", "internal/reflectlite.ValueOf", "(internal/reflectlite.Value).Type", "(internal/reflectlite.Value).IsNil", "internal/reflectlite.TypeOf", "(internal/reflectlite.Value).Elem", "(internal/reflectlite.Value).Set"], unfollowed := true, recurses := true, named := ["arrears/calendar.ahead", "internal/strconv.uint64pow10", "math/bits.deBruijn32tab", "math/bits.deBruijn64tab", "strconv.ErrSyntax", "strconv.ErrRange", "errors.errorType"], apart := false, laid := [("math/bits.deBruijn32tab", laid_math_bits_deBruijn32tab), ("math/bits.deBruijn64tab", laid_math_bits_deBruijn64tab), ("internal/strconv.uint64pow10", laid_internal_strconv_uint64pow10), ("errors.errorType", laid_errors_errorType), ("arrears/calendar.ahead", laid_arrears_calendar_ahead), ("strconv.ErrRange", laid_strconv_ErrRange), ("strconv.ErrSyntax", laid_strconv_ErrSyntax)], narrowed := true }
def LockboxRoundTripUptoSaid : Prop := lockboxRoundTripUptoRow.holds Tryd.pinned (OpenSpec.upto lockboxRoundTripSpec)

/-- 'arrearslaw20.LockboxSpoilt', WHERE WHAT IT READS IS OF BULK AT MOST 1048576: true; the input reads as it did. -/
def lockboxSpoiltUptoRow : OpenClaim := { program := "ytkjdmbbaacjpmaadoor", sum := "46b55d50eb1a45283b7e27986c5ced5ee37bdb214167269335416f81ae5356c1", func := "arrears/arrearslaw20.LockboxSpoilt", spec := "lockboxSpoilt", inPlace := ["internal/bytealg.IndexByte", "internal/reflectlite.ValueOf", "(internal/reflectlite.Value).Type", "(internal/reflectlite.Value).IsNil", "internal/reflectlite.TypeOf", "(internal/reflectlite.Value).Elem", "(internal/reflectlite.Value).Set"], unfollowed := true, recurses := true, named := ["arrears/calendar.ahead", "internal/strconv.uint64pow10", "math/bits.deBruijn32tab", "math/bits.deBruijn64tab", "strconv.ErrSyntax", "strconv.ErrRange", "errors.errorType"], apart := false, laid := [("math/bits.deBruijn32tab", laid_math_bits_deBruijn32tab), ("math/bits.deBruijn64tab", laid_math_bits_deBruijn64tab), ("internal/strconv.uint64pow10", laid_internal_strconv_uint64pow10), ("errors.errorType", laid_errors_errorType), ("arrears/calendar.ahead", laid_arrears_calendar_ahead), ("strconv.ErrRange", laid_strconv_ErrRange), ("strconv.ErrSyntax", laid_strconv_ErrSyntax)], narrowed := true }
def LockboxSpoiltUptoSaid : Prop := lockboxSpoiltUptoRow.holds Tryd.pinned (OpenSpec.upto lockboxSpoiltSpec)

end Rows
end Go.Proofs.YtkjdmbbaacjpmaaDoor
