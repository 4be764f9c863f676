/- What the listed tables give a walk. Conditions: the row's own 'laid' cell. -/
import Derived.Test.YtkjdmbbaacjpmaaDoorRows
import Derived.Test.YtkjdmbbaacjpmaaDoorWalkCheck
import Derived.LaidSub
import Derived.LaidLaws
import Derived.Lib.LaidTab
namespace Go.Proofs.YtkjdmbbaacjpmaaDoor.Digits
open Go.RowKit

theorem tab_of_laid {W : World} {l : List (String × DataW Unit)} (h : laidMet Tryd.prog (("internal/strconv.uint64pow10", Rows.laid_internal_strconv_uint64pow10) :: l) W) : Tab W :=
  Lib.tabIs_of_head (zs := Lib.pow10Tab) (g := 2) (by kernel_rfl) (by kernel_rfl) Tryd.underlying142 Tryd.underlying133 (by kernel_rfl) (by kernel_rfl) h
theorem tab_of_row {W : World} (h : laidMet Tryd.prog Rows.lockboxDigitsRow.laid W) : Tab W :=
  tab_of_laid (l := []) (h.filter fun x => x.1 == "internal/strconv.uint64pow10")
end Go.Proofs.YtkjdmbbaacjpmaaDoor.Digits
