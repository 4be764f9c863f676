-- Texts of this claim, joined and cut down to what it uses (a program of this session).
import Derived.Test.YtklpneeakhbahaaGreatDoorV4
import Derived.Test.YtklpneeakhbahaaGreatDoorProg
import Derived.KernelRfl
section
set_option linter.unusedVariables false
set_option maxRecDepth 100000
set_option linter.unusedSimpArgs false
namespace Go.Proofs.YtklpneeakhbahaaGreatDoor.Fs
open Go Go.Proofs.YtklpneeakhbahaaGreatDoor.Ls
noncomputable def C_yearLen : Cx TT := cxB tbl28 Go.Proofs.Tryz.f106.ntmps [] [] [] []
noncomputable def k_yearLen (a : g_yearLen.args.ty) (h : tysO TT g_yearLen.hp) : Nat := 0
noncomputable def F_yearLen : g_yearLen.args.ty → tysO TT g_yearLen.hp → Res TT g_yearLen := fun a h => bodyG C_yearLen g_yearLen Go.Proofs.Tryz.f106 [] (k_yearLen a h) a h
theorem F_yearLen_ok : FOK prog globs 106 g_yearLen F_yearLen :=
  bodyG_sound (cx := C_yearLen) mix (cxB_ok tbl28_ok _ _ _ _ _) (f := 106) (fn := Go.Proofs.Tryz.f106) (by kernel_rfl) (by kernel_rfl) (by kernel_rfl) (by kernel_rfl) _
theorem F_yearLen_eq (y : Int) : F_yearLen (y, ()) () =
  let x0 := (bif ((y.tmod (4 : Int)) == 0) then (bif ((y.tmod (100 : Int)) != 0) then true else true) else true)
  (bif (bif ((y.tmod (4 : Int)) == 0) then (bif ((y.tmod (100 : Int)) != 0) then true else ((y.tmod (400 : Int)) == 0)) else false) then ⟨x0, false, (366 : Int), (), ()⟩ else ⟨x0, false, (365 : Int), (), ()⟩) := by kernel_rfl
noncomputable def tbl29 : List (Ent TT) := ⟨106, g_yearLen, F_yearLen⟩ :: tbl28
theorem tbl29_ok : TblOK prog globs tbl29 := tbl_cons (by kernel_rfl) F_yearLen_ok tbl28_ok
noncomputable def C_lenOf : Cx TT := cxB tbl29 Go.Proofs.Tryz.f107.ntmps [] [] [] []
noncomputable def k_lenOf (a : g_lenOf.args.ty) (h : tysO TT g_lenOf.hp) : Nat := 0
noncomputable def F_lenOf : g_lenOf.args.ty → tysO TT g_lenOf.hp → Res TT g_lenOf := fun a h => bodyG C_lenOf g_lenOf Go.Proofs.Tryz.f107 [] (k_lenOf a h) a h
theorem F_lenOf_ok : FOK prog globs 107 g_lenOf F_lenOf :=
  bodyG_sound (cx := C_lenOf) mix (cxB_ok tbl29_ok _ _ _ _ _) (f := 107) (fn := Go.Proofs.Tryz.f107) (by kernel_rfl) (by kernel_rfl) (by kernel_rfl) (by kernel_rfl) _
theorem F_lenOf_eq (y : Int) (m : Int) : F_lenOf (y, m, ()) () =
  let x0 := (bif ((y.tmod (4 : Int)) == 0) then (bif ((y.tmod (100 : Int)) != 0) then true else true) else true)
  let x1 := (bif (m == 4) then true else (bif (m == 6) then true else (bif (m == 9) then true else true)))
  (bif (m == 2) then (bif (bif ((y.tmod (4 : Int)) == 0) then (bif ((y.tmod (100 : Int)) != 0) then true else ((y.tmod (400 : Int)) == 0)) else false) then ⟨x0, false, (29 : Int), (), ()⟩ else ⟨x0, false, (28 : Int), (), ()⟩) else (bif (bif (m == 4) then true else (bif (m == 6) then true else (bif (m == 9) then true else (m == 11)))) then ⟨x1, false, (30 : Int), (), ()⟩ else ⟨x1, false, (31 : Int), (), ()⟩)) := by kernel_rfl
noncomputable def tbl30 : List (Ent TT) := ⟨107, g_lenOf, F_lenOf⟩ :: tbl29
theorem tbl30_ok : TblOK prog globs tbl30 := tbl_cons (by kernel_rfl) F_lenOf_ok tbl29_ok
noncomputable def C_rMonthLen : Cx TT := cxB tbl30 Go.Proofs.Tryz.f128.ntmps [] [] [] []
noncomputable def k_rMonthLen (a : g_rMonthLen.args.ty) (h : tysO TT g_rMonthLen.hp) : Nat := 0
noncomputable def F_rMonthLen : g_rMonthLen.args.ty → tysO TT g_rMonthLen.hp → Res TT g_rMonthLen := fun a h => bodyG C_rMonthLen g_rMonthLen Go.Proofs.Tryz.f128 [] (k_rMonthLen a h) a h
theorem F_rMonthLen_ok : FOK prog globs 128 g_rMonthLen F_rMonthLen :=
  bodyG_sound (cx := C_rMonthLen) mix (cxB_ok tbl30_ok _ _ _ _ _) (f := 128) (fn := Go.Proofs.Tryz.f128) (by kernel_rfl) (by kernel_rfl) (by kernel_rfl) (by kernel_rfl) _
theorem F_rMonthLen_eq (year : Int) (month : Int) : F_rMonthLen (year, month, ()) () =
  let x0 := (bif decide (year < 1) then true else (bif decide (year > 9999) then true else (bif decide (month < 1) then true else true)))
  (bif (bif decide (year < 1) then true else (bif decide (year > 9999) then true else (bif decide (month < 1) then true else decide (month > 12)))) then ⟨x0, false, (0 : Int), (), ()⟩ else ⟨(x0 && (F_lenOf (year, month, ()) ()).ok), false, ((F_lenOf (year, month, ()) ()).ret : Int), (), ()⟩) := by kernel_rfl
noncomputable def tbl31 : List (Ent TT) := ⟨128, g_rMonthLen, F_rMonthLen⟩ :: tbl30
theorem tbl31_ok : TblOK prog globs tbl31 := tbl_cons (by kernel_rfl) F_rMonthLen_ok tbl30_ok
noncomputable def C_rNumber : Cx TT := cxB tbl31 Go.Proofs.Tryz.f108.ntmps [(7, s_rNumber_7), (11, s_rNumber_11)] [] [] []
noncomputable def k_rNumber (a : g_rNumber.args.ty) (h : tysO TT g_rNumber.hp) : Nat := 1000
noncomputable def F_rNumber : g_rNumber.args.ty → tysO TT g_rNumber.hp → Res TT g_rNumber := fun a h => bodyG C_rNumber g_rNumber Go.Proofs.Tryz.f108 [] (k_rNumber a h) a h
theorem F_rNumber_ok : FOK prog globs 108 g_rNumber F_rNumber :=
  bodyG_sound (cx := C_rNumber) mix (cxB_ok tbl31_ok _ _ _ _ _) (f := 108) (fn := Go.Proofs.Tryz.f108) (by kernel_rfl) (by kernel_rfl) (by kernel_rfl) (by kernel_rfl) _
noncomputable def L_rNumber_7 (k : Nat) (v : s_rNumber_7.ty TT) : Res TT g_rNumber := loopG C_rNumber g_rNumber Go.Proofs.Tryz.f108 [] k (todoF Go.Proofs.Tryz.f108 7) (SS.st s_rNumber_7 0 v)
noncomputable def L_rNumber_11 (k : Nat) (v : s_rNumber_11.ty TT) : Res TT g_rNumber := loopG C_rNumber g_rNumber Go.Proofs.Tryz.f108 [] k (todoF Go.Proofs.Tryz.f108 11) (SS.st s_rNumber_11 0 v)
theorem F_rNumber_eq (d : T77) : F_rNumber (d, ()) () =
  let x0 := (bif decide (d.2.2.1 < 1) then true else (F_rMonthLen (d.1, d.2.1, ()) ()).ok)
  let x1 := (L_rNumber_7 (k_rNumber (d, ()) ()) (((), (IntKind.i64.wrap ((IntKind.i64.wrap ((IntKind.i64.wrap (d.1 - 1)).tdiv (400 : Int))) * 146097)), (IntKind.i64.wrap ((IntKind.i64.wrap (400 * (IntKind.i64.wrap ((IntKind.i64.wrap (d.1 - 1)).tdiv (400 : Int))))) + 1)), ()), d, ()))
  (bif (bif decide (d.2.2.1 < 1) then true else decide (d.2.2.1 > ((F_rMonthLen (d.1, d.2.1, ()) ()).ret : Int))) then ⟨x0, false, ((0 : Int), false, ()), (), ()⟩ else ⟨(x0 && x1.ok), x1.pan, x1.ret, x1.out, x1.pv⟩) := by kernel_rfl
theorem L_rNumber_7_eq (k : Nat) (n : Int) (y : Int) (d : T77) : L_rNumber_7 (k + 1) (((), n, y, ()), (d, ())) =
  let x0 := (L_rNumber_7 k (((), (IntKind.i64.wrap (n + ((F_yearLen (y, ()) ()).ret : Int))), (IntKind.i64.wrap (y + 1)), ()), d, ()))
  (bif decide (y < d.1) then ⟨((F_yearLen (y, ()) ()).ok && x0.ok), x0.pan, x0.ret, x0.out, x0.pv⟩ else (L_rNumber_11 k (((), n, (1 : Int), ()), d, ()))) := by kernel_rfl
theorem L_rNumber_11_eq (k : Nat) (n : Int) (m : Int) (d : T77) : L_rNumber_11 (k + 1) (((), n, m, ()), (d, ())) =
  let x0 := (L_rNumber_11 k (((), (IntKind.i64.wrap (n + ((F_lenOf (d.1, m, ()) ()).ret : Int))), (IntKind.i64.wrap (m + 1)), ()), d, ()))
  (bif decide (m < d.2.1) then ⟨((F_lenOf (d.1, m, ()) ()).ok && x0.ok), x0.pan, x0.ret, x0.out, x0.pv⟩ else ⟨true, false, ((IntKind.i64.wrap (n + d.2.2.1)), true, ()), (), ()⟩) := by kernel_rfl
noncomputable def tbl32 : List (Ent TT) := ⟨108, g_rNumber, F_rNumber⟩ :: tbl31
theorem tbl32_ok : TblOK prog globs tbl32 := tbl_cons (by kernel_rfl) F_rNumber_ok tbl31_ok
noncomputable def C_rCivil : Cx TT := cxB tbl32 Go.Proofs.Tryz.f65.ntmps [(7, s_rCivil_7), (11, s_rCivil_11)] [] [] []
noncomputable def k_rCivil (a : g_rCivil.args.ty) (h : tysO TT g_rCivil.hp) : Nat := 1000
noncomputable def F_rCivil : g_rCivil.args.ty → tysO TT g_rCivil.hp → Res TT g_rCivil := fun a h => bodyG C_rCivil g_rCivil Go.Proofs.Tryz.f65 [] (k_rCivil a h) a h
theorem F_rCivil_ok : FOK prog globs 65 g_rCivil F_rCivil :=
  bodyG_sound (cx := C_rCivil) mix (cxB_ok tbl32_ok _ _ _ _ _) (f := 65) (fn := Go.Proofs.Tryz.f65) (by kernel_rfl) (by kernel_rfl) (by kernel_rfl) (by kernel_rfl) _
noncomputable def L_rCivil_7 (k : Nat) (v : s_rCivil_7.ty TT) : Res TT g_rCivil := loopG C_rCivil g_rCivil Go.Proofs.Tryz.f65 [] k (todoF Go.Proofs.Tryz.f65 7) (SS.st s_rCivil_7 0 v)
noncomputable def L_rCivil_11 (k : Nat) (v : s_rCivil_11.ty TT) : Res TT g_rCivil := loopG C_rCivil g_rCivil Go.Proofs.Tryz.f65 [] k (todoF Go.Proofs.Tryz.f65 11) (SS.st s_rCivil_11 0 v)
theorem F_rCivil_eq (day : Int) : F_rCivil (day, ()) () =
  let x0 := (L_rCivil_7 (k_rCivil (day, ()) ()) (((), (IntKind.i64.wrap (day - (IntKind.i64.wrap ((IntKind.i64.wrap ((IntKind.i64.wrap (day - 1)).tdiv (146097 : Int))) * 146097)))), (IntKind.i64.wrap ((IntKind.i64.wrap (400 * (IntKind.i64.wrap ((IntKind.i64.wrap (day - 1)).tdiv (146097 : Int))))) + 1)), ()), ((0 : Int), (0 : Int), (0 : Int), ()), ()))
  (bif (!(bif decide (day ≥ 1) then decide (day ≤ 3652059) else false)) then ⟨(bif decide (day ≥ 1) then true else true), false, (((0 : Int), (0 : Int), (0 : Int), ()), false, ()), (), ()⟩ else ⟨((bif decide (day ≥ 1) then true else true) && x0.ok), x0.pan, x0.ret, x0.out, x0.pv⟩) := by kernel_rfl
theorem L_rCivil_7_eq (k : Nat) (left : Int) (y : Int) (t2 : T77) : L_rCivil_7 (k + 1) (((), left, y, ()), (t2, ())) =
  let x0 := (L_rCivil_7 k (((), (IntKind.i64.wrap (left - ((F_yearLen (y, ()) ()).ret : Int))), (IntKind.i64.wrap (y + 1)), ()), t2, ()))
  let x1 := (L_rCivil_11 k (((), left, y, (1 : Int), ()), t2, ()))
  (bif decide (left > ((F_yearLen (y, ()) ()).ret : Int)) then ⟨(((F_yearLen (y, ()) ()).ok && (F_yearLen (y, ()) ()).ok) && x0.ok), x0.pan, x0.ret, x0.out, x0.pv⟩ else ⟨((F_yearLen (y, ()) ()).ok && x1.ok), x1.pan, x1.ret, x1.out, x1.pv⟩) := by kernel_rfl
theorem L_rCivil_11_eq (k : Nat) (left : Int) (y : Int) (m : Int) (t2 : T77) : L_rCivil_11 (k + 1) (((), left, y, m, ()), (t2, ())) =
  let x0 := (L_rCivil_11 k (((), (IntKind.i64.wrap (left - ((F_lenOf (y, m, ()) ()).ret : Int))), y, (IntKind.i64.wrap (m + 1)), ()), t2, ()))
  (bif decide (left > ((F_lenOf (y, m, ()) ()).ret : Int)) then ⟨(((F_lenOf (y, m, ()) ()).ok && (F_lenOf (y, m, ()) ()).ok) && x0.ok), x0.pan, x0.ret, x0.out, x0.pv⟩ else ⟨(F_lenOf (y, m, ()) ()).ok, false, ((y, m, left, ()), true, ()), (), ()⟩) := by kernel_rfl
noncomputable def tbl33 : List (Ent TT) := ⟨65, g_rCivil, F_rCivil⟩ :: tbl32
theorem tbl33_ok : TblOK prog globs tbl33 := tbl_cons (by kernel_rfl) F_rCivil_ok tbl32_ok
noncomputable def C_rWeekday : Cx TT := cxB tbl33 Go.Proofs.Tryz.f132.ntmps [] [] [] []
noncomputable def k_rWeekday (a : g_rWeekday.args.ty) (h : tysO TT g_rWeekday.hp) : Nat := 0
noncomputable def F_rWeekday : g_rWeekday.args.ty → tysO TT g_rWeekday.hp → Res TT g_rWeekday := fun a h => bodyG C_rWeekday g_rWeekday Go.Proofs.Tryz.f132 [] (k_rWeekday a h) a h
theorem F_rWeekday_ok : FOK prog globs 132 g_rWeekday F_rWeekday :=
  bodyG_sound (cx := C_rWeekday) mix (cxB_ok tbl33_ok _ _ _ _ _) (f := 132) (fn := Go.Proofs.Tryz.f132) (by kernel_rfl) (by kernel_rfl) (by kernel_rfl) (by kernel_rfl) _
theorem F_rWeekday_eq (day : Int) : F_rWeekday (day, ()) () =
  (bif (!(bif decide (day ≥ 1) then decide (day ≤ 3652059) else false)) then ⟨(bif decide (day ≥ 1) then true else true), false, ((0 : Int), false, ()), (), ()⟩ else ⟨(bif decide (day ≥ 1) then true else true), false, ((IntKind.i64.wrap (((IntKind.i64.wrap (day - 1)).tmod (7 : Int)) + 1)), true, ()), (), ()⟩) := by kernel_rfl
noncomputable def tbl34 : List (Ent TT) := ⟨132, g_rWeekday, F_rWeekday⟩ :: tbl33
theorem tbl34_ok : TblOK prog globs tbl34 := tbl_cons (by kernel_rfl) F_rWeekday_ok tbl33_ok
noncomputable def C_rBusiness : Cx TT := cxB tbl34 Go.Proofs.Tryz.f129.ntmps [(6, s_rBusiness_6)] [] [] []
noncomputable def k_rBusiness (a : g_rBusiness.args.ty) (h : tysO TT g_rBusiness.hp) : Nat := h.1.length + 2
noncomputable def F_rBusiness : g_rBusiness.args.ty → tysO TT g_rBusiness.hp → Res TT g_rBusiness := fun a h => bodyG C_rBusiness g_rBusiness Go.Proofs.Tryz.f129 [] (k_rBusiness a h) a h
theorem F_rBusiness_ok : FOK prog globs 129 g_rBusiness F_rBusiness :=
  bodyG_sound (cx := C_rBusiness) mix (cxB_ok tbl34_ok _ _ _ _ _) (f := 129) (fn := Go.Proofs.Tryz.f129) (by kernel_rfl) (by kernel_rfl) (by kernel_rfl) (by kernel_rfl) _
noncomputable def L_rBusiness_6 (k : Nat) (v : s_rBusiness_6.ty TT) : Res TT g_rBusiness := loopG C_rBusiness g_rBusiness Go.Proofs.Tryz.f129 [] k (todoF Go.Proofs.Tryz.f129 6) (SS.st s_rBusiness_6 0 v)
theorem F_rBusiness_eq (day : Int) (holidays : List Int) : F_rBusiness (day, (), ()) (holidays, ()) =
  let x0 := (bif (!(((F_rWeekday (day, ()) ()).ret : Int × Bool × Unit).2).1) then (F_rWeekday (day, ()) ()).ok else (F_rWeekday (day, ()) ()).ok)
  let x1 := (L_rBusiness_6 (k_rBusiness (day, (), ()) (holidays, ())) ((day, (), (0 : Int), ()), holidays, ()))
  (bif (bif (!(((F_rWeekday (day, ()) ()).ret : Int × Bool × Unit).2).1) then true else decide (((F_rWeekday (day, ()) ()).ret : Int × Bool × Unit).1 > 5)) then ⟨x0, false, false, ((), ()), ()⟩ else ⟨(x0 && x1.ok), x1.pan, x1.ret, x1.out, x1.pv⟩) := by kernel_rfl
theorem L_rBusiness_6_eq (k : Nat) (day : Int) (i : Int) (holidays : List Int) : L_rBusiness_6 (k + 1) ((day, (), i, ()), (holidays, ())) =
  let x0 := ((decide (0 ≤ i) && decide (i < ((holidays.length : Nat) : Int))) && (Nat.blt i.toNat holidays.length))
  let x1 := (L_rBusiness_6 k ((day, (), (IntKind.i64.wrap (i + 1)), ()), holidays, ()))
  (bif decide (i < ((holidays.length : Nat) : Int)) then (bif ((holidays.getD i.toNat (0 : Int)) == day) then ⟨x0, false, false, ((), ()), ()⟩ else ⟨(x0 && x1.ok), x1.pan, x1.ret, x1.out, x1.pv⟩) else ⟨true, false, true, ((), ()), ()⟩) := by kernel_rfl
noncomputable def tbl35 : List (Ent TT) := ⟨129, g_rBusiness, F_rBusiness⟩ :: tbl34
theorem tbl35_ok : TblOK prog globs tbl35 := tbl_cons (by kernel_rfl) F_rBusiness_ok tbl34_ok
noncomputable def C_sought : Cx TT := cxB tbl35 Go.Proofs.Tryz.f109.ntmps [(3, s_sought_3)] [] [] []
noncomputable def k_sought (a : g_sought.args.ty) (h : tysO TT g_sought.hp) : Nat := 200
noncomputable def F_sought : g_sought.args.ty → tysO TT g_sought.hp → Res TT g_sought := fun a h => bodyG C_sought g_sought Go.Proofs.Tryz.f109 [] (k_sought a h) a h
theorem F_sought_ok : FOK prog globs 109 g_sought F_sought :=
  bodyG_sound (cx := C_sought) mix (cxB_ok tbl35_ok _ _ _ _ _) (f := 109) (fn := Go.Proofs.Tryz.f109) (by kernel_rfl) (by kernel_rfl) (by kernel_rfl) (by kernel_rfl) _
noncomputable def L_sought_3 (k : Nat) (v : s_sought_3.ty TT) : Res TT g_sought := loopG C_sought g_sought Go.Proofs.Tryz.f109 [] k (todoF Go.Proofs.Tryz.f109 3) (SS.st s_sought_3 0 v)
theorem F_sought_eq (day : Int) (step : Int) (holidays : List Int) : F_sought (day, (), step, ()) (holidays, ()) =
  (L_sought_3 (k_sought (day, (), step, ()) (holidays, ())) ((day, (), step, (0 : Int), ()), holidays, ())) := by kernel_rfl
theorem L_sought_3_eq (k : Nat) (day : Int) (step : Int) (k_ : Int) (holidays : List Int) : L_sought_3 (k + 1) ((day, (), step, k_, ()), (holidays, ())) =
  let x0 := (F_rBusiness ((IntKind.i64.wrap (day + (IntKind.i64.wrap (k_ * step)))), (), ()) (holidays, ()))
  let x1 := x0.ok
  let x2 := (L_sought_3 k ((day, (), step, (IntKind.i64.wrap (k_ + 1)), ()), holidays, ()))
  (bif decide (k_ ≤ 10) then (bif (x0.ret : Bool) then ⟨x1, false, ((IntKind.i64.wrap (day + (IntKind.i64.wrap (k_ * step)))), true, ()), ((), ()), ()⟩ else ⟨(x1 && x2.ok), x2.pan, x2.ret, x2.out, x2.pv⟩) else ⟨true, false, ((0 : Int), false, ()), ((), ()), ()⟩) := by kernel_rfl
noncomputable def tbl36 : List (Ent TT) := ⟨109, g_sought, F_sought⟩ :: tbl35
theorem tbl36_ok : TblOK prog globs tbl36 := tbl_cons (by kernel_rfl) F_sought_ok tbl35_ok
noncomputable def C_rAddMonths : Cx TT := cxB tbl36 Go.Proofs.Tryz.f66.ntmps [] [] [] []
noncomputable def k_rAddMonths (a : g_rAddMonths.args.ty) (h : tysO TT g_rAddMonths.hp) : Nat := 0
noncomputable def F_rAddMonths : g_rAddMonths.args.ty → tysO TT g_rAddMonths.hp → Res TT g_rAddMonths := fun a h => bodyG C_rAddMonths g_rAddMonths Go.Proofs.Tryz.f66 [] (k_rAddMonths a h) a h
theorem F_rAddMonths_ok : FOK prog globs 66 g_rAddMonths F_rAddMonths :=
  bodyG_sound (cx := C_rAddMonths) mix (cxB_ok tbl36_ok _ _ _ _ _) (f := 66) (fn := Go.Proofs.Tryz.f66) (by kernel_rfl) (by kernel_rfl) (by kernel_rfl) (by kernel_rfl) _
theorem F_rAddMonths_eq (day : Int) (months : Int) (anchor : Int) : F_rAddMonths (day, months, anchor, ()) () =
  let x0 := (bif (!(bif decide (day ≥ 1) then decide (day ≤ 3652059) else false)) then (bif decide (day ≥ 1) then true else true) else (bif decide (anchor < 1) then (bif decide (day ≥ 1) then true else true) else (bif decide (anchor > 31) then (bif decide (day ≥ 1) then true else true) else (bif decide (months < (-119987)) then (bif decide (day ≥ 1) then true else true) else (bif decide (day ≥ 1) then true else true)))))
  let x1 := (IntKind.i64.wrap ((IntKind.i64.wrap ((IntKind.i64.wrap ((IntKind.i64.wrap (12 * (IntKind.i64.wrap ((((F_rCivil (day, ()) ()).ret : (Int × Int × Int × Unit) × Bool × Unit).1).1 - 1)))) + ((((F_rCivil (day, ()) ()).ret : (Int × Int × Int × Unit) × Bool × Unit).1).2).1)) - 1)) + months))
  let x2 := decide (x1 < 0)
  let x3 := (x0 && (F_rCivil (day, ()) ()).ok)
  let x4 := (bif x2 then x3 else x3)
  let x5 := (IntKind.i64.wrap ((IntKind.i64.wrap (x1.tdiv (12 : Int))) + 1))
  let x6 := (IntKind.i64.wrap ((x1.tmod (12 : Int)) + 1))
  let x7 := (F_lenOf (x5, x6, ()) ())
  let x8 := (x7.ret : Int)
  let x9 := decide (anchor < x8)
  let x10 := (x4 && x7.ok)
  let x11 := (F_rNumber ((x5, x6, (bif x9 then anchor else x8), ()), ()) ())
  (bif (bif (!(bif decide (day ≥ 1) then decide (day ≤ 3652059) else false)) then true else (bif decide (anchor < 1) then true else (bif decide (anchor > 31) then true else (bif decide (months < (-119987)) then true else decide (months > 119987))))) then ⟨x0, false, ((0 : Int), false, ()), (), ()⟩ else (bif (bif x2 then true else decide (x1 ≥ 119988)) then ⟨x4, false, ((0 : Int), false, ()), (), ()⟩ else ⟨((bif x9 then x10 else x10) && x11.ok), false, ((x11.ret : Int × Bool × Unit).1, true, ()), (), ()⟩)) := by kernel_rfl
noncomputable def tbl37 : List (Ent TT) := ⟨66, g_rAddMonths, F_rAddMonths⟩ :: tbl36
theorem tbl37_ok : TblOK prog globs tbl37 := tbl_cons (by kernel_rfl) F_rAddMonths_ok tbl36_ok
noncomputable def C_rAdjust : Cx TT := cxB tbl37 Go.Proofs.Tryz.f67.ntmps [] [] [] []
noncomputable def k_rAdjust (a : g_rAdjust.args.ty) (h : tysO TT g_rAdjust.hp) : Nat := 0
noncomputable def F_rAdjust : g_rAdjust.args.ty → tysO TT g_rAdjust.hp → Res TT g_rAdjust := fun a h => bodyG C_rAdjust g_rAdjust Go.Proofs.Tryz.f67 [] (k_rAdjust a h) a h
theorem F_rAdjust_ok : FOK prog globs 67 g_rAdjust F_rAdjust :=
  bodyG_sound (cx := C_rAdjust) mix (cxB_ok tbl37_ok _ _ _ _ _) (f := 67) (fn := Go.Proofs.Tryz.f67) (by kernel_rfl) (by kernel_rfl) (by kernel_rfl) (by kernel_rfl) _
theorem F_rAdjust_eq (day : Int) (rule : Int) (holidays : List Int) : F_rAdjust (day, (), rule, ()) (holidays, ()) =
  let x0 := (⟨(bif decide (day ≥ 1) then true else true), false, ((0 : Int), false, ()), ((), ()), ()⟩ : Res TT g_rAdjust)
  let x1 := ((bif decide (day ≥ 1) then true else true) && (F_sought (day, (), (1 : Int), ()) (holidays, ())).ok)
  let x2 := ((F_sought (day, (), (1 : Int), ()) (holidays, ())).ret : Int × Bool × Unit)
  let x3 := (F_sought (day, (), (-1 : Int), ()) (holidays, ())).ok
  let x4 := ((F_sought (day, (), (-1 : Int), ()) (holidays, ())).ret : Int × Bool × Unit)
  let x5 := x2.1
  let x6 := (F_rCivil (x5, ()) ())
  let x7 := ((x1 && (F_rCivil (day, ()) ()).ok) && x6.ok)
  (bif (!(bif decide (day ≥ 1) then decide (day ≤ 3652059) else false)) then x0 else (bif (rule == 0) then ⟨(bif decide (day ≥ 1) then true else true), false, (day, true, ()), ((), ()), ()⟩ else (bif (rule == 1) then ⟨x1, false, x2, ((), ()), ()⟩ else (bif (rule == 2) then ⟨((bif decide (day ≥ 1) then true else true) && x3), false, x4, ((), ()), ()⟩ else (bif (rule == 3) then (bif x2.2.1 then (bif (((((F_rCivil (day, ()) ()).ret : (Int × Int × Int × Unit) × Bool × Unit).1).2).1 == (((x6.ret : (Int × Int × Int × Unit) × Bool × Unit).1).2).1) then ⟨x7, false, (x5, true, ()), ((), ()), ()⟩ else ⟨(x7 && x3), false, x4, ((), ()), ()⟩) else ⟨(x1 && x3), false, x4, ((), ()), ()⟩) else x0))))) := by kernel_rfl
noncomputable def tbl38 : List (Ent TT) := ⟨67, g_rAdjust, F_rAdjust⟩ :: tbl37
theorem tbl38_ok : TblOK prog globs tbl38 := tbl_cons (by kernel_rfl) F_rAdjust_ok tbl37_ok
noncomputable def C_rmonth : Cx TT := cxB tbl38 Go.Proofs.Tryz.f44.ntmps [] [] [] []
noncomputable def k_rmonth (a : g_rmonth.args.ty) (h : tysO TT g_rmonth.hp) : Nat := 0
noncomputable def F_rmonth : g_rmonth.args.ty → tysO TT g_rmonth.hp → Res TT g_rmonth := fun a h => bodyG C_rmonth g_rmonth Go.Proofs.Tryz.f44 [] (k_rmonth a h) a h
theorem F_rmonth_ok : FOK prog globs 44 g_rmonth F_rmonth :=
  bodyG_sound (cx := C_rmonth) mix (cxB_ok tbl38_ok _ _ _ _ _) (f := 44) (fn := Go.Proofs.Tryz.f44) (by kernel_rfl) (by kernel_rfl) (by kernel_rfl) (by kernel_rfl) _
theorem F_rmonth_eq (balance : Int) (rate : Int) : F_rmonth (balance, rate, ()) () =
  let x0 := (IntKind.i64.wrap (2 * ((IntKind.i64.wrap ((balance.tmod (120000 : Int)) * rate)).tmod (120000 : Int))))
  let x1 := decide (x0 > 120000)
  let x2 := (x0 == 120000)
  let x3 := (IntKind.i64.wrap ((IntKind.i64.wrap ((IntKind.i64.wrap (balance.tdiv (120000 : Int))) * rate)) + (IntKind.i64.wrap ((IntKind.i64.wrap ((balance.tmod (120000 : Int)) * rate)).tdiv (120000 : Int)))))
  let x4 := (bif x1 then true else (bif x2 then ((x3.tmod (2 : Int)) == 1) else false))
  let x5 := (bif x1 then true else (bif x2 then true else true))
  ⟨(bif x4 then x5 else x5), false, (bif x4 then (IntKind.i64.wrap (x3 + 1)) else x3), (), ()⟩ := by kernel_rfl
noncomputable def tbl39 : List (Ent TT) := ⟨44, g_rmonth, F_rmonth⟩ :: tbl38
theorem tbl39_ok : TblOK prog globs tbl39 := tbl_cons (by kernel_rfl) F_rmonth_ok tbl38_ok
noncomputable def C_paysOff : Cx TT := cxB tbl39 Go.Proofs.Tryz.f64.ntmps [(3, s_paysOff_3)] [] [] []
noncomputable def k_paysOff (a : g_paysOff.args.ty) (h : tysO TT g_paysOff.hp) : Nat := a.2.2.2.1.toNat + 2
noncomputable def F_paysOff : g_paysOff.args.ty → tysO TT g_paysOff.hp → Res TT g_paysOff := fun a h => bodyG C_paysOff g_paysOff Go.Proofs.Tryz.f64 [] (k_paysOff a h) a h
theorem F_paysOff_ok : FOK prog globs 64 g_paysOff F_paysOff :=
  bodyG_sound (cx := C_paysOff) mix (cxB_ok tbl39_ok _ _ _ _ _) (f := 64) (fn := Go.Proofs.Tryz.f64) (by kernel_rfl) (by kernel_rfl) (by kernel_rfl) (by kernel_rfl) _
noncomputable def L_paysOff_3 (k : Nat) (v : s_paysOff_3.ty TT) : Res TT g_paysOff := loopG C_paysOff g_paysOff Go.Proofs.Tryz.f64 [] k (todoF Go.Proofs.Tryz.f64 3) (SS.st s_paysOff_3 0 v)
theorem F_paysOff_eq (payment : Int) (balance : Int) (rate : Int) (count : Int) : F_paysOff (payment, balance, rate, count, ()) () =
  (L_paysOff_3 (k_paysOff (payment, balance, rate, count, ()) ()) ((payment, balance, rate, count, (0 : Int), ()), ())) := by kernel_rfl
theorem L_paysOff_3_eq (k : Nat) (payment : Int) (balance : Int) (rate : Int) (count : Int) (k_ : Int) : L_paysOff_3 (k + 1) ((payment, balance, rate, count, k_, ()), ()) =
  let x0 := (IntKind.i64.wrap (payment - ((F_rmonth (balance, rate, ()) ()).ret : Int)))
  let x1 := (L_paysOff_3 k ((payment, (IntKind.i64.wrap (balance - x0)), rate, count, (IntKind.i64.wrap (k_ + 1)), ()), ()))
  (bif decide (k_ < count) then (bif decide (payment ≤ ((F_rmonth (balance, rate, ()) ()).ret : Int)) then ⟨(F_rmonth (balance, rate, ()) ()).ok, false, false, (), ()⟩ else (bif decide (x0 ≥ balance) then ⟨(F_rmonth (balance, rate, ()) ()).ok, false, true, (), ()⟩ else ⟨((F_rmonth (balance, rate, ()) ()).ok && x1.ok), x1.pan, x1.ret, x1.out, x1.pv⟩)) else ⟨true, false, false, (), ()⟩) := by kernel_rfl
noncomputable def tbl40 : List (Ent TT) := ⟨64, g_paysOff, F_paysOff⟩ :: tbl39
theorem tbl40_ok : TblOK prog globs tbl40 := tbl_cons (by kernel_rfl) F_paysOff_ok tbl39_ok
noncomputable def C_rLevel : Cx TT := cxB tbl40 Go.Proofs.Tryz.f43.ntmps [(8, s_rLevel_8)] [] [] []
noncomputable def k_rLevel (a : g_rLevel.args.ty) (h : tysO TT g_rLevel.hp) : Nat := 200
noncomputable def F_rLevel : g_rLevel.args.ty → tysO TT g_rLevel.hp → Res TT g_rLevel := fun a h => bodyG C_rLevel g_rLevel Go.Proofs.Tryz.f43 [] (k_rLevel a h) a h
theorem F_rLevel_ok : FOK prog globs 43 g_rLevel F_rLevel :=
  bodyG_sound (cx := C_rLevel) mix (cxB_ok tbl40_ok _ _ _ _ _) (f := 43) (fn := Go.Proofs.Tryz.f43) (by kernel_rfl) (by kernel_rfl) (by kernel_rfl) (by kernel_rfl) _
noncomputable def L_rLevel_8 (k : Nat) (v : s_rLevel_8.ty TT) : Res TT g_rLevel := loopG C_rLevel g_rLevel Go.Proofs.Tryz.f43 [] k (todoF Go.Proofs.Tryz.f43 8) (SS.st s_rLevel_8 0 v)
theorem F_rLevel_eq (principal : Int) (rate : Int) (count : Int) : F_rLevel (principal, rate, count, ()) () =
  let x0 := (bif decide (principal < 1) then true else (bif (!(bif decide (rate ≥ 0) then decide (rate ≤ 100000) else false)) then (bif decide (rate ≥ 0) then true else true) else (bif decide (count < 1) then (bif decide (rate ≥ 0) then true else true) else (bif decide (rate ≥ 0) then true else true))))
  let x1 := (x0 && (F_paysOff ((9223372036854775807 : Int), principal, rate, count, ()) ()).ok)
  let x2 := (L_rLevel_8 (k_rLevel (principal, rate, count, ()) ()) ((principal, rate, count, (9223372036854775807 : Int), (4611686018427387904 : Int), ()), ()))
  (bif (bif decide (principal < 1) then true else (bif (!(bif decide (rate ≥ 0) then decide (rate ≤ 100000) else false)) then true else (bif decide (count < 1) then true else decide (count > 120)))) then ⟨x0, false, ((0 : Int), false, ()), (), ()⟩ else (bif (!((F_paysOff ((9223372036854775807 : Int), principal, rate, count, ()) ()).ret : Bool)) then ⟨x1, false, ((0 : Int), false, ()), (), ()⟩ else ⟨(x1 && x2.ok), x2.pan, x2.ret, x2.out, x2.pv⟩)) := by kernel_rfl
theorem L_rLevel_8_eq (k : Nat) (principal : Int) (rate : Int) (count : Int) (p : Int) (step : Int) : L_rLevel_8 (k + 1) ((principal, rate, count, p, step, ()), ()) =
  let x0 := (F_paysOff ((IntKind.i64.wrap (p - step)), principal, rate, count, ()) ())
  let x1 := (bif decide (p > step) then (x0.ret : Bool) else false)
  let x2 := (bif decide (p > step) then x0.ok else true)
  let x3 := (L_rLevel_8 k ((principal, rate, count, (bif x1 then (IntKind.i64.wrap (p - step)) else p), (IntKind.i64.wrap (step.tdiv (2 : Int))), ()), ()))
  (bif decide (step > 0) then ⟨((bif x1 then x2 else x2) && x3.ok), x3.pan, x3.ret, x3.out, x3.pv⟩ else ⟨true, false, (p, true, ()), (), ()⟩) := by kernel_rfl
noncomputable def tbl41 : List (Ent TT) := ⟨43, g_rLevel, F_rLevel⟩ :: tbl40
theorem tbl41_ok : TblOK prog globs tbl41 := tbl_cons (by kernel_rfl) F_rLevel_ok tbl40_ok
noncomputable def C_rValid : Cx TT := cxB tbl41 Go.Proofs.Tryz.f42.ntmps [] [] [] []
noncomputable def k_rValid (a : g_rValid.args.ty) (h : tysO TT g_rValid.hp) : Nat := 0
noncomputable def F_rValid : g_rValid.args.ty → tysO TT g_rValid.hp → Res TT g_rValid := fun a h => bodyG C_rValid g_rValid Go.Proofs.Tryz.f42 [] (k_rValid a h) a h
theorem F_rValid_ok : FOK prog globs 42 g_rValid F_rValid :=
  bodyG_sound (cx := C_rValid) mix (cxB_ok tbl41_ok _ _ _ _ _) (f := 42) (fn := Go.Proofs.Tryz.f42) (by kernel_rfl) (by kernel_rfl) (by kernel_rfl) (by kernel_rfl) _
theorem F_rValid_eq (t : T25) : F_rValid (t, ()) () =
  let x0 := (bif decide (t.1 < 0) then true else (bif decide (t.1 > 2) then true else (bif decide (t.2.1 < 1) then true else (bif decide (t.2.1 > 10000000000000) then true else (bif decide (t.2.2.1 ≥ 0) then true else true)))))
  let x1 := (bif decide (t.2.2.2.1 < 1) then x0 else (bif decide (t.2.2.2.1 > 120) then x0 else (bif decide (t.2.2.2.2.1 < 1) then x0 else x0)))
  (bif (bif decide (t.1 < 0) then true else (bif decide (t.1 > 2) then true else (bif decide (t.2.1 < 1) then true else (bif decide (t.2.1 > 10000000000000) then true else (!(bif decide (t.2.2.1 ≥ 0) then decide (t.2.2.1 ≤ 100000) else false)))))) then ⟨x0, false, false, (), ()⟩ else (bif (bif decide (t.2.2.2.1 < 1) then true else (bif decide (t.2.2.2.1 > 120) then true else (bif decide (t.2.2.2.2.1 < 1) then true else decide (t.2.2.2.2.1 > 3652059)))) then ⟨x1, false, false, (), ()⟩ else ⟨(bif decide (t.2.2.2.2.2.1 ≥ 0) then x1 else x1), false, (bif decide (t.2.2.2.2.2.1 ≥ 0) then decide (t.2.2.2.2.2.1 ≤ 3) else false), (), ()⟩)) := by kernel_rfl
noncomputable def tbl42 : List (Ent TT) := ⟨42, g_rValid, F_rValid⟩ :: tbl41
theorem tbl42_ok : TblOK prog globs tbl42 := tbl_cons (by kernel_rfl) F_rValid_ok tbl41_ok
noncomputable def C_rpart : Cx TT := cxB tbl42 Go.Proofs.Tryz.f45.ntmps [] [] [] []
noncomputable def k_rpart (a : g_rpart.args.ty) (h : tysO TT g_rpart.hp) : Nat := 0
noncomputable def F_rpart : g_rpart.args.ty → tysO TT g_rpart.hp → Res TT g_rpart := fun a h => bodyG C_rpart g_rpart Go.Proofs.Tryz.f45 [] (k_rpart a h) a h
theorem F_rpart_ok : FOK prog globs 45 g_rpart F_rpart :=
  bodyG_sound (cx := C_rpart) mix (cxB_ok tbl42_ok _ _ _ _ _) (f := 45) (fn := Go.Proofs.Tryz.f45) (by kernel_rfl) (by kernel_rfl) (by kernel_rfl) (by kernel_rfl) _
theorem F_rpart_eq (t : T25) (payment : Int) (k_ : Int) (balance : Int) (interest : Int) : F_rpart (t, payment, k_, balance, interest, ()) () =
  (bif (t.1 == 0) then (bif decide ((IntKind.i64.wrap (payment - interest)) < balance) then ⟨true, false, (IntKind.i64.wrap (payment - interest)), (), ()⟩ else ⟨true, false, balance, (), ()⟩) else (bif (t.1 == 1) then (bif decide (k_ ≤ (IntKind.i64.wrap (t.2.1 - (IntKind.i64.wrap ((IntKind.i64.wrap (t.2.1.tdiv t.2.2.2.1)) * t.2.2.2.1))))) then ⟨(t.2.2.2.1 != 0), false, (IntKind.i64.wrap ((IntKind.i64.wrap (t.2.1.tdiv t.2.2.2.1)) + 1)), (), ()⟩ else ⟨(t.2.2.2.1 != 0), false, (IntKind.i64.wrap (t.2.1.tdiv t.2.2.2.1)), (), ()⟩) else (bif decide (k_ < t.2.2.2.1) then ⟨true, false, (0 : Int), (), ()⟩ else ⟨true, false, balance, (), ()⟩))) := by kernel_rfl
noncomputable def tbl43 : List (Ent TT) := ⟨45, g_rpart, F_rpart⟩ :: tbl42
theorem tbl43_ok : TblOK prog globs tbl43 := tbl_cons (by kernel_rfl) F_rpart_ok tbl42_ok
noncomputable def C_rDue : Cx TT := cxB tbl43 Go.Proofs.Tryz.f46.ntmps [] [] [] []
noncomputable def k_rDue (a : g_rDue.args.ty) (h : tysO TT g_rDue.hp) : Nat := 0
noncomputable def F_rDue : g_rDue.args.ty → tysO TT g_rDue.hp → Res TT g_rDue := fun a h => bodyG C_rDue g_rDue Go.Proofs.Tryz.f46 [] (k_rDue a h) a h
theorem F_rDue_ok : FOK prog globs 46 g_rDue F_rDue :=
  bodyG_sound (cx := C_rDue) mix (cxB_ok tbl43_ok _ _ _ _ _) (f := 46) (fn := Go.Proofs.Tryz.f46) (by kernel_rfl) (by kernel_rfl) (by kernel_rfl) (by kernel_rfl) _
theorem F_rDue_eq (t : T25) (k_ : Int) (holidays : List Int) : F_rDue (t, (), k_, ()) (holidays, ()) =
  let x0 := (F_rAddMonths (t.2.2.2.2.1, k_, ((((F_rCivil (t.2.2.2.2.1, ()) ()).ret : (Int × Int × Int × Unit) × Bool × Unit).1).2).2) ())
  let x1 := (x0.ret : Int × Bool × Unit)
  let x2 := ((F_rCivil (t.2.2.2.2.1, ()) ()).ok && x0.ok)
  let x3 := (F_rAdjust (x1.1, (), t.2.2.2.2.2) (holidays, ()))
  (bif (!x1.2.1) then ⟨x2, false, ((0 : Int), false, ()), ((), ()), ()⟩ else ⟨(x2 && x3.ok), false, x3.ret, ((), ()), ()⟩) := by kernel_rfl
noncomputable def tbl44 : List (Ent TT) := ⟨46, g_rDue, F_rDue⟩ :: tbl43
theorem tbl44_ok : TblOK prog globs tbl44 := tbl_cons (by kernel_rfl) F_rDue_ok tbl43_ok
noncomputable def C_rPlan : Cx TT := cxB tbl44 Go.Proofs.Tryz.f20.ntmps [(8, s_rPlan_8)] [] [] []
noncomputable def k_rPlan (a : g_rPlan.args.ty) (h : tysO TT g_rPlan.hp) : Nat := a.1.2.2.2.1.toNat + 2
noncomputable def F_rPlan : g_rPlan.args.ty → tysO TT g_rPlan.hp → Res TT g_rPlan := fun a h => bodyG C_rPlan g_rPlan Go.Proofs.Tryz.f20 [] (k_rPlan a h) a h
theorem F_rPlan_ok : FOK prog globs 20 g_rPlan F_rPlan :=
  bodyG_sound (cx := C_rPlan) mix (cxB_ok tbl44_ok _ _ _ _ _) (f := 20) (fn := Go.Proofs.Tryz.f20) (by kernel_rfl) (by kernel_rfl) (by kernel_rfl) (by kernel_rfl) _
noncomputable def L_rPlan_8 (k : Nat) (v : s_rPlan_8.ty TT) : Res TT g_rPlan := loopG C_rPlan g_rPlan Go.Proofs.Tryz.f20 [] k (todoF Go.Proofs.Tryz.f20 8) (SS.st s_rPlan_8 0 v)
theorem F_rPlan_eq (t : T25) (holidays : List Int) : F_rPlan (t, (), ()) (holidays, ()) =
  let x0 := (bif (!((F_rValid (t, ()) ()).ret : Bool)) then (F_rValid (t, ()) ()).ok else (F_rValid (t, ()) ()).ok)
  let x1 := (F_rLevel (t.2.1, t.2.2.1, t.2.2.2.1, ()) ())
  let x2 := (L_rPlan_8 (k_rPlan (t, (), ()) (holidays, ())) (((), (), (x1.ret : Int × Bool × Unit).1, (), t.2.1, (1 : Int), ()), holidays, t, ([] : List (Int × Int × Int × Bool × Unit)), ()))
  (bif (bif (!((F_rValid (t, ()) ()).ret : Bool)) then true else decide (((holidays.length : Nat) : Int) > 64)) then ⟨x0, false, ((), false, ()), ((), ([] : List (Int × Int × Int × Bool × Unit)), ()), ()⟩ else ⟨((x0 && x1.ok) && x2.ok), x2.pan, x2.ret, x2.out, x2.pv⟩) := by kernel_rfl
theorem L_rPlan_8_eq (k : Nat) (payment : Int) (balance : Int) (k_ : Int) (holidays : List Int) (t : T25) (plan : List T99) : L_rPlan_8 (k + 1) (((), (), payment, (), balance, k_, ()), (holidays, t, plan, ())) =
  let x0 := decide (((F_rmonth (balance, t.2.2.1, ()) ()).ret : Int) > 0)
  let x1 := (F_rpart (t, payment, k_, balance, ((F_rmonth (balance, t.2.2.1, ()) ()).ret : Int), ()) ())
  let x2 := (x1.ret : Int)
  let x3 := ((F_rDue (t, (), k_, ()) (holidays, ())).ret : Int × Bool × Unit)
  let x4 := ((F_rmonth (balance, t.2.2.1, ()) ()).ok && x1.ok)
  let x5 := (bif decide (balance > 0) then (bif x0 then x4 else x4) else x4)
  let x6 := (x5 && (F_rDue (t, (), k_, ()) (holidays, ())).ok)
  let x7 := [(x3.1, ((F_rmonth (balance, t.2.2.1, ()) ()).ret : Int), x2, false, ())]
  let x8 := (L_rPlan_8 k (((), (), payment, (), (IntKind.i64.wrap (balance - x2)), (IntKind.i64.wrap (k_ + 1)), ()), holidays, t, (plan ++ x7), ()))
  let x9 := (L_rPlan_8 k (((), (), payment, (), balance, (IntKind.i64.wrap (k_ + 1)), ()), holidays, t, plan, ()))
  (bif decide (k_ ≤ t.2.2.2.1) then (bif (bif decide (balance > 0) then (bif x0 then true else decide (x2 > 0)) else false) then (bif (!x3.2.1) then ⟨x6, false, ((), false, ()), ((), ([] : List (Int × Int × Int × Bool × Unit)), ()), ()⟩ else ⟨((x6 && (Nat.ble ((plan.length + x7.length) * 32) 140737488355328)) && x8.ok), x8.pan, x8.ret, x8.out, x8.pv⟩) else ⟨(x5 && x9.ok), x9.pan, x9.ret, x9.out, x9.pv⟩) else ⟨true, false, ((), true, ()), ((), plan, ()), ()⟩) := by kernel_rfl
noncomputable def tbl45 : List (Ent TT) := ⟨20, g_rPlan, F_rPlan⟩ :: tbl44
theorem tbl45_ok : TblOK prog globs tbl45 := tbl_cons (by kernel_rfl) F_rPlan_ok tbl44_ok
end Go.Proofs.YtklpneeakhbahaaGreatDoor.Fs
end
section
set_option linter.unusedVariables false
set_option maxRecDepth 100000
set_option linter.unusedSimpArgs false
namespace Go.Proofs.YtklpneeakhbahaaGreatDoor.Fs
open Go Go.Proofs.YtklpneeakhbahaaGreatDoor.Ls
noncomputable def C_holidays : Cx TT := cxB tbl45 Go.Proofs.Tryz.f104.ntmps [(5, s_holidays_5)] [] [] []
noncomputable def k_holidays (a : g_holidays.args.ty) (h : tysO TT g_holidays.hp) : Nat := h.1.length + 2
noncomputable def F_holidays : g_holidays.args.ty → tysO TT g_holidays.hp → Res TT g_holidays := fun a h => bodyG C_holidays g_holidays Go.Proofs.Tryz.f104 [] (k_holidays a h) a h
theorem F_holidays_ok : FOK prog globs 104 g_holidays F_holidays :=
  bodyG_sound (cx := C_holidays) mix (cxB_ok tbl45_ok _ _ _ _ _) (f := 104) (fn := Go.Proofs.Tryz.f104) (by kernel_rfl) (by kernel_rfl) (by kernel_rfl) (by kernel_rfl) _
noncomputable def L_holidays_5 (k : Nat) (v : s_holidays_5.ty TT) : Res TT g_holidays := loopG C_holidays g_holidays Go.Proofs.Tryz.f104 [] k (todoF Go.Proofs.Tryz.f104 5) (SS.st s_holidays_5 0 v)
theorem F_holidays_eq (l : List Int) : F_holidays ((), ()) (l, ()) =
  (bif decide (((l.length : Nat) : Int) > 64) then ⟨true, false, false, ((), ()), ()⟩ else (L_holidays_5 (k_holidays ((), ()) (l, ())) (((), (0 : Int), ()), l, ()))) := by kernel_rfl
theorem L_holidays_5_eq (k : Nat) (i : Int) (l : List Int) : L_holidays_5 (k + 1) (((), i, ()), (l, ())) =
  let x0 := ((decide (0 ≤ i) && decide (i < ((l.length : Nat) : Int))) && (Nat.blt i.toNat l.length))
  let x1 := ((x0 && (decide (0 ≤ i) && decide (i < ((l.length : Nat) : Int)))) && (Nat.blt i.toNat l.length))
  let x2 := (bif decide ((l.getD i.toNat (0 : Int)) < 1) then x0 else (bif decide ((l.getD i.toNat (0 : Int)) > 3652059) then x1 else (bif decide (i > 0) then ((((x1 && (decide (0 ≤ i) && decide (i < ((l.length : Nat) : Int)))) && (Nat.blt i.toNat l.length)) && (decide (0 ≤ (IntKind.i64.wrap (i - 1))) && decide ((IntKind.i64.wrap (i - 1)) < ((l.length : Nat) : Int)))) && (Nat.blt ((IntKind.i64.wrap (i - 1)).toNat) l.length)) else x1)))
  let x3 := (L_holidays_5 k (((), (IntKind.i64.wrap (i + 1)), ()), l, ()))
  (bif decide (i < ((l.length : Nat) : Int)) then (bif (bif decide ((l.getD i.toNat (0 : Int)) < 1) then true else (bif decide ((l.getD i.toNat (0 : Int)) > 3652059) then true else (bif decide (i > 0) then decide ((l.getD i.toNat (0 : Int)) ≤ (l.getD ((IntKind.i64.wrap (i - 1)).toNat) (0 : Int))) else false))) then ⟨x2, false, false, ((), ()), ()⟩ else ⟨(x2 && x3.ok), x3.pan, x3.ret, x3.out, x3.pv⟩) else ⟨true, false, true, ((), ()), ()⟩) := by kernel_rfl
noncomputable def tbl46 : List (Ent TT) := ⟨104, g_holidays, F_holidays⟩ :: tbl45
theorem tbl46_ok : TblOK prog globs tbl46 := tbl_cons (by kernel_rfl) F_holidays_ok tbl45_ok
noncomputable def C_pmay : Cx TT := cxB tbl46 Go.Proofs.Tryz.f62.ntmps [] [] [] []
noncomputable def k_pmay (a : g_pmay.args.ty) (h : tysO TT g_pmay.hp) : Nat := 0
noncomputable def F_pmay : g_pmay.args.ty → tysO TT g_pmay.hp → Res TT g_pmay := fun a h => bodyG C_pmay g_pmay Go.Proofs.Tryz.f62 [] (k_pmay a h) a h
theorem F_pmay_ok : FOK prog globs 62 g_pmay F_pmay :=
  bodyG_sound (cx := C_pmay) mix (cxB_ok tbl46_ok _ _ _ _ _) (f := 62) (fn := Go.Proofs.Tryz.f62) (by kernel_rfl) (by kernel_rfl) (by kernel_rfl) (by kernel_rfl) _
theorem F_pmay_eq (p : T23) (field : Int) (p_0 : List Int) : F_pmay (p, field, ()) (p_0, ()) =
  let x0 := decide (p.2.2.2.2.2.2.1 ≥ p.2.2.2.2.2.1)
  let x1 := decide (p.2.2.2.2.2.2.2.1 ≥ 0)
  let x2 := decide (p.2.2.2.2.2.2.2.2.1 ≥ 0)
  let x3 := decide (p.2.2.2.2.2.2.2.2.2.1 ≥ 0)
  let x4 := p.2.2.2.2.2.2.2.2.2.2.1
  let x5 := decide (x4 ≥ 1)
  let x6 := p.2.2.2.2.2.2.2.2.2.2.2
  let x7 := x6.1
  let x8 := decide (x7 ≥ 0)
  let x9 := x6.2
  let x10 := x9.1
  let x11 := decide (x10 ≥ 0)
  let x12 := x9.2
  let x13 := x12.1
  let x14 := decide (x13 ≥ 0)
  let x15 := x12.2
  let x16 := x15.1
  let x17 := decide (x16 ≥ 1)
  let x18 := x15.2
  let x19 := x18.1
  let x20 := decide (x19 ≥ x16)
  let x21 := x18.2.1
  let x22 := decide (x21 ≥ 0)
  (bif (field == 1) then ⟨(bif decide (p.1 ≥ 1) then true else true), false, (bif decide (p.1 ≥ 1) then decide (p.1 ≤ 3652059) else false), ((), ()), ()⟩ else (bif (field == 2) then ⟨(bif decide (p.2.1 ≥ 0) then true else true), false, (bif decide (p.2.1 ≥ 0) then decide (p.2.1 ≤ 30) else false), ((), ()), ()⟩ else (bif (field == 3) then ⟨(bif decide (p.2.2.1 > p.2.1) then true else true), false, (bif decide (p.2.2.1 > p.2.1) then decide (p.2.2.1 ≤ 365) else false), ((), ()), ()⟩ else (bif (field == 4) then ⟨(bif decide (p.2.2.2.1 ≥ 1) then true else true), false, (bif decide (p.2.2.2.1 ≥ 1) then decide (p.2.2.2.1 ≤ 365) else false), ((), ()), ()⟩ else (bif (field == 5) then ⟨(bif decide (p.2.2.2.2.1 ≥ 0) then true else true), false, (bif decide (p.2.2.2.2.1 ≥ 0) then decide (p.2.2.2.2.1 ≤ 10000) else false), ((), ()), ()⟩ else (bif (field == 6) then ⟨(bif decide (p.2.2.2.2.2.1 ≥ 0) then true else true), false, (bif decide (p.2.2.2.2.2.1 ≥ 0) then decide (p.2.2.2.2.2.1 ≤ 1000000000) else false), ((), ()), ()⟩ else (bif (field == 7) then ⟨(bif x0 then true else true), false, (bif x0 then decide (p.2.2.2.2.2.2.1 ≤ 1000000000) else false), ((), ()), ()⟩ else (bif (field == 8) then ⟨(bif x1 then true else true), false, (bif x1 then decide (p.2.2.2.2.2.2.2.1 ≤ 1000000000) else false), ((), ()), ()⟩ else (bif (field == 9) then ⟨(bif x2 then true else true), false, (bif x2 then decide (p.2.2.2.2.2.2.2.2.1 ≤ 1000000000) else false), ((), ()), ()⟩ else (bif (field == 10) then ⟨(bif x3 then true else true), false, (bif x3 then decide (p.2.2.2.2.2.2.2.2.2.1 ≤ 8) else false), ((), ()), ()⟩ else (bif (field == 11) then ⟨(bif x5 then true else true), false, (bif x5 then decide (x4 ≤ 60) else false), ((), ()), ()⟩ else (bif (field == 12) then ⟨(bif x8 then true else true), false, (bif x8 then decide (x7 ≤ 4) else false), ((), ()), ()⟩ else (bif (field == 13) then ⟨(bif x11 then true else true), false, (bif x11 then decide (x10 ≤ 5) else false), ((), ()), ()⟩ else (bif (field == 14) then ⟨(bif x14 then true else true), false, (bif x14 then decide (x13 ≤ 3) else false), ((), ()), ()⟩ else (bif (field == 15) then ⟨(bif x17 then true else true), false, (bif x17 then decide (x16 ≤ 64) else false), ((), ()), ()⟩ else (bif (field == 16) then ⟨(bif x20 then true else true), false, (bif x20 then decide (x19 ≤ 64) else false), ((), ()), ()⟩ else (bif (field == 17) then ⟨(bif x22 then true else true), false, (bif x22 then decide (x21 ≤ 1000) else false), ((), ()), ()⟩ else ⟨(F_holidays ((), ()) (p_0, ())).ok, false, ((F_holidays ((), ()) (p_0, ())).ret : Bool), ((), ()), ()⟩))))))))))))))))) := by kernel_rfl
noncomputable def tbl47 : List (Ent TT) := ⟨62, g_pmay, F_pmay⟩ :: tbl46
theorem tbl47_ok : TblOK prog globs tbl47 := tbl_cons (by kernel_rfl) F_pmay_ok tbl46_ok
noncomputable def C_rCheck : Cx TT := cxB tbl47 Go.Proofs.Tryz.f40.ntmps [] [] [] [6]
noncomputable def k_rCheck (a : g_rCheck.args.ty) (h : tysO TT g_rCheck.hp) : Nat := 0
noncomputable def F_rCheck : g_rCheck.args.ty → tysO TT g_rCheck.hp → Res TT g_rCheck := fun a h => bodyG C_rCheck g_rCheck Go.Proofs.Tryz.f40 [3] (k_rCheck a h + 19) a h
theorem F_rCheck_ok : FOK prog globs 40 g_rCheck F_rCheck :=
  bodyG_sound (cx := C_rCheck) mix (cxB_ok tbl47_ok _ _ _ _ _) (f := 40) (fn := Go.Proofs.Tryz.f40) (by kernel_rfl) (by kernel_rfl) (by kernel_rfl) (by kernel_rfl) _
theorem F_rCheck_eq (p : T23) (p_0 : List Int) : F_rCheck (p, ()) (p_0, ()) =
  let x0 := (F_pmay (p, (IntKind.i64.wrap ((1 : Int) + (1 : Int))), ()) (p_0, ()))
  let x1 := ((F_pmay (p, (1 : Int), ()) (p_0, ())).ok && x0.ok)
  let x2 := (F_pmay (p, (IntKind.i64.wrap ((IntKind.i64.wrap ((1 : Int) + (1 : Int))) + 1)), ()) (p_0, ()))
  let x3 := (x1 && x2.ok)
  let x4 := (IntKind.i64.wrap ((IntKind.i64.wrap ((IntKind.i64.wrap ((1 : Int) + (1 : Int))) + 1)) + 1))
  let x5 := (F_pmay (p, x4, ()) (p_0, ()))
  let x6 := (x3 && x5.ok)
  let x7 := (IntKind.i64.wrap (x4 + 1))
  let x8 := (F_pmay (p, x7, ()) (p_0, ()))
  let x9 := (x6 && x8.ok)
  let x10 := (IntKind.i64.wrap (x7 + 1))
  let x11 := (F_pmay (p, x10, ()) (p_0, ()))
  let x12 := (x9 && x11.ok)
  let x13 := (IntKind.i64.wrap (x10 + 1))
  let x14 := (F_pmay (p, x13, ()) (p_0, ()))
  let x15 := (x12 && x14.ok)
  let x16 := (IntKind.i64.wrap (x13 + 1))
  let x17 := (F_pmay (p, x16, ()) (p_0, ()))
  let x18 := (x15 && x17.ok)
  let x19 := (IntKind.i64.wrap (x16 + 1))
  let x20 := (F_pmay (p, x19, ()) (p_0, ()))
  let x21 := (x18 && x20.ok)
  let x22 := (IntKind.i64.wrap (x19 + 1))
  let x23 := (F_pmay (p, x22, ()) (p_0, ()))
  let x24 := (x21 && x23.ok)
  let x25 := (IntKind.i64.wrap (x22 + 1))
  let x26 := (F_pmay (p, x25, ()) (p_0, ()))
  let x27 := (x24 && x26.ok)
  let x28 := (IntKind.i64.wrap (x25 + 1))
  let x29 := (F_pmay (p, x28, ()) (p_0, ()))
  let x30 := (x27 && x29.ok)
  let x31 := (IntKind.i64.wrap (x28 + 1))
  let x32 := (F_pmay (p, x31, ()) (p_0, ()))
  let x33 := (x30 && x32.ok)
  let x34 := (IntKind.i64.wrap (x31 + 1))
  let x35 := (F_pmay (p, x34, ()) (p_0, ()))
  let x36 := (x33 && x35.ok)
  let x37 := (IntKind.i64.wrap (x34 + 1))
  let x38 := (F_pmay (p, x37, ()) (p_0, ()))
  let x39 := (x36 && x38.ok)
  let x40 := (IntKind.i64.wrap (x37 + 1))
  let x41 := (F_pmay (p, x40, ()) (p_0, ()))
  let x42 := (x39 && x41.ok)
  let x43 := (IntKind.i64.wrap (x40 + 1))
  let x44 := (F_pmay (p, x43, ()) (p_0, ()))
  let x45 := (x42 && x44.ok)
  let x46 := (F_pmay (p, (IntKind.i64.wrap (x43 + 1)), ()) (p_0, ()))
  let x47 := (x45 && x46.ok)
  (bif (!((F_pmay (p, (1 : Int), ()) (p_0, ())).ret : Bool)) then ⟨(F_pmay (p, (1 : Int), ()) (p_0, ())).ok, false, ((120 : Int), (1 : Int), ()), ((), ()), ()⟩ else (bif (!(x0.ret : Bool)) then ⟨x1, false, ((120 : Int), (IntKind.i64.wrap ((1 : Int) + (1 : Int))), ()), ((), ()), ()⟩ else (bif (!(x2.ret : Bool)) then ⟨x3, false, ((120 : Int), (IntKind.i64.wrap ((IntKind.i64.wrap ((1 : Int) + (1 : Int))) + 1)), ()), ((), ()), ()⟩ else (bif (!(x5.ret : Bool)) then ⟨x6, false, ((120 : Int), x4, ()), ((), ()), ()⟩ else (bif (!(x8.ret : Bool)) then ⟨x9, false, ((120 : Int), x7, ()), ((), ()), ()⟩ else (bif (!(x11.ret : Bool)) then ⟨x12, false, ((120 : Int), x10, ()), ((), ()), ()⟩ else (bif (!(x14.ret : Bool)) then ⟨x15, false, ((120 : Int), x13, ()), ((), ()), ()⟩ else (bif (!(x17.ret : Bool)) then ⟨x18, false, ((120 : Int), x16, ()), ((), ()), ()⟩ else (bif (!(x20.ret : Bool)) then ⟨x21, false, ((120 : Int), x19, ()), ((), ()), ()⟩ else (bif (!(x23.ret : Bool)) then ⟨x24, false, ((120 : Int), x22, ()), ((), ()), ()⟩ else (bif (!(x26.ret : Bool)) then ⟨x27, false, ((120 : Int), x25, ()), ((), ()), ()⟩ else (bif (!(x29.ret : Bool)) then ⟨x30, false, ((120 : Int), x28, ()), ((), ()), ()⟩ else (bif (!(x32.ret : Bool)) then ⟨x33, false, ((120 : Int), x31, ()), ((), ()), ()⟩ else (bif (!(x35.ret : Bool)) then ⟨x36, false, ((120 : Int), x34, ()), ((), ()), ()⟩ else (bif (!(x38.ret : Bool)) then ⟨x39, false, ((120 : Int), x37, ()), ((), ()), ()⟩ else (bif (!(x41.ret : Bool)) then ⟨x42, false, ((120 : Int), x40, ()), ((), ()), ()⟩ else (bif (!(x44.ret : Bool)) then ⟨x45, false, ((120 : Int), x43, ()), ((), ()), ()⟩ else (bif (!(x46.ret : Bool)) then ⟨x47, false, ((120 : Int), (IntKind.i64.wrap (x43 + 1)), ()), ((), ()), ()⟩ else ⟨x47, false, ((0 : Int), (0 : Int), ()), ((), ()), ()⟩)))))))))))))))))) := by kernel_rfl
noncomputable def tbl48 : List (Ent TT) := ⟨40, g_rCheck, F_rCheck⟩ :: tbl47
theorem tbl48_ok : TblOK prog globs tbl48 := tbl_cons (by kernel_rfl) F_rCheck_ok tbl47_ok
noncomputable def C_wrong : Cx TT := cxB tbl48 Go.Proofs.Tryz.f19.ntmps [] [] [] []
noncomputable def k_wrong (a : g_wrong.args.ty) (h : tysO TT g_wrong.hp) : Nat := 0
noncomputable def F_wrong : g_wrong.args.ty → tysO TT g_wrong.hp → Res TT g_wrong := fun a h => bodyG C_wrong g_wrong Go.Proofs.Tryz.f19 [] (k_wrong a h) a h
theorem F_wrong_ok : FOK prog globs 19 g_wrong F_wrong :=
  bodyG_sound (cx := C_wrong) mix (cxB_ok tbl48_ok _ _ _ _ _) (f := 19) (fn := Go.Proofs.Tryz.f19) (by kernel_rfl) (by kernel_rfl) (by kernel_rfl) (by kernel_rfl) _
theorem F_wrong_eq (t : T25) : F_wrong (t, ()) () =
  let x0 := (bif decide (t.1 < 0) then true else (bif decide (t.1 > 2) then true else (bif decide (t.2.1 < 1) then true else (bif decide (t.2.1 > 10000000000000) then true else (bif decide (t.2.2.1 < 0) then true else true)))))
  (bif (bif decide (t.1 < 0) then true else (bif decide (t.1 > 2) then true else (bif decide (t.2.1 < 1) then true else (bif decide (t.2.1 > 10000000000000) then true else (bif decide (t.2.2.1 < 0) then true else decide (t.2.2.1 > 100000)))))) then ⟨x0, false, true, (), ()⟩ else ⟨(bif decide (t.2.2.2.1 < 1) then x0 else (bif decide (t.2.2.2.1 > 120) then x0 else (bif decide (t.2.2.2.2.1 < 1) then x0 else (bif decide (t.2.2.2.2.1 > 3652059) then x0 else (bif decide (t.2.2.2.2.2.1 < 0) then x0 else x0))))), false, (bif decide (t.2.2.2.1 < 1) then true else (bif decide (t.2.2.2.1 > 120) then true else (bif decide (t.2.2.2.2.1 < 1) then true else (bif decide (t.2.2.2.2.1 > 3652059) then true else (bif decide (t.2.2.2.2.2.1 < 0) then true else decide (t.2.2.2.2.2.1 > 3)))))), (), ()⟩) := by kernel_rfl
noncomputable def tbl49 : List (Ent TT) := ⟨19, g_wrong, F_wrong⟩ :: tbl48
theorem tbl49_ok : TblOK prog globs tbl49 := tbl_cons (by kernel_rfl) F_wrong_ok tbl48_ok
noncomputable def C_copied : Cx TT := cxB tbl49 Go.Proofs.Tryz.f41.ntmps [(4, s_copied_4)] [] [] []
noncomputable def k_copied (a : g_copied.args.ty) (h : tysO TT g_copied.hp) : Nat := h.1.length + 2
noncomputable def F_copied : g_copied.args.ty → tysO TT g_copied.hp → Res TT g_copied := fun a h => bodyG C_copied g_copied Go.Proofs.Tryz.f41 [] (k_copied a h) a h
theorem F_copied_ok : FOK prog globs 41 g_copied F_copied :=
  bodyG_sound (cx := C_copied) mix (cxB_ok tbl49_ok _ _ _ _ _) (f := 41) (fn := Go.Proofs.Tryz.f41) (by kernel_rfl) (by kernel_rfl) (by kernel_rfl) (by kernel_rfl) _
noncomputable def L_copied_4 (k : Nat) (v : s_copied_4.ty TT) : Res TT g_copied := loopG C_copied g_copied Go.Proofs.Tryz.f41 [] k (todoF Go.Proofs.Tryz.f41 4) (SS.st s_copied_4 0 v)
theorem F_copied_eq (l : T36) (l_0 : List T99) : F_copied (l, ()) (l_0, ()) =
  (L_copied_4 (k_copied (l, ()) (l_0, ())) (((), (), (), (0 : Int), ()), l_0, l, ((0 : Int), ((0 : Int), (0 : Int), (0 : Int), (0 : Int), (0 : Int), (0 : Int), ()), (), (((0 : Int), (0 : Int), (0 : Int), (0 : Int), (0 : Int), (0 : Int), (0 : Int), (0 : Int), (0 : Int), (0 : Int), (0 : Int), (0 : Int), ()), ()), ((0 : Int), false, (0 : Int), (0 : Int), (0 : Int), (0 : Int), (0 : Int), (0 : Int), (0 : Int), (0 : Int), (0 : Int), (0 : Int), (0 : Int), (0 : Int), (0 : Int), ()), (0 : Int), (0 : Int), (0 : Int), ((0 : Int), (0 : Int), (0 : Int), (0 : Int), (0 : Int), ()), false, (0 : Int), (0 : Int), ()), ([] : List (Int × Int × Int × Bool × Unit)), ([] : List (Int × Int × Int × Bool × Unit)), ())) := by kernel_rfl
theorem L_copied_4_eq (k : Nat) (i : Int) (l_0 : List T99) (l : T36) (t2 : T36) (rows : List T99) (t2_r : List T99) : L_copied_4 (k + 1) (((), (), (), i, ()), (l_0, l, t2, rows, t2_r, ())) =
  let x0 := [(l_0.getD i.toNat ((0 : Int), (0 : Int), (0 : Int), false, ()))]
  let x1 := (L_copied_4 k (((), (), (), (IntKind.i64.wrap (i + 1)), ()), l_0, l, t2, (rows ++ x0), t2_r, ()))
  (bif decide (i < ((l_0.length : Nat) : Int)) then ⟨((((decide (0 ≤ i) && decide (i < ((l_0.length : Nat) : Int))) && (Nat.blt i.toNat l_0.length)) && (Nat.ble ((rows.length + x0.length) * 32) 140737488355328)) && x1.ok), x1.pan, x1.ret, x1.out, x1.pv⟩ else ⟨true, false, l, ((), rows, ()), ()⟩) := by kernel_rfl
noncomputable def tbl50 : List (Ent TT) := ⟨41, g_copied, F_copied⟩ :: tbl49
theorem tbl50_ok : TblOK prog globs tbl50 := tbl_cons (by kernel_rfl) F_copied_ok tbl49_ok
end Go.Proofs.YtklpneeakhbahaaGreatDoor.Fs
end
section
set_option linter.unusedVariables false
set_option maxRecDepth 100000
set_option linter.unusedSimpArgs false
namespace Go.Proofs.YtklpneeakhbahaaGreatDoor.Fs
open Go Go.Proofs.YtklpneeakhbahaaGreatDoor.Ls
noncomputable def C_rsum : Cx TT := cxB tbl50 Go.Proofs.Tryz.f69.ntmps [(4, s_rsum_4)] [] [] []
noncomputable def k_rsum (a : g_rsum.args.ty) (h : tysO TT g_rsum.hp) : Nat := h.1.length + 2
noncomputable def F_rsum : g_rsum.args.ty → tysO TT g_rsum.hp → Res TT g_rsum := fun a h => bodyG C_rsum g_rsum Go.Proofs.Tryz.f69 [] (k_rsum a h) a h
theorem F_rsum_ok : FOK prog globs 69 g_rsum F_rsum :=
  bodyG_sound (cx := C_rsum) mix (cxB_ok tbl50_ok _ _ _ _ _) (f := 69) (fn := Go.Proofs.Tryz.f69) (by kernel_rfl) (by kernel_rfl) (by kernel_rfl) (by kernel_rfl) _
noncomputable def L_rsum_4 (k : Nat) (v : s_rsum_4.ty TT) : Res TT g_rsum := loopG C_rsum g_rsum Go.Proofs.Tryz.f69 [] k (todoF Go.Proofs.Tryz.f69 4) (SS.st s_rsum_4 0 v)
theorem F_rsum_eq (list : List Int) : F_rsum ((), ()) (list, ()) =
  (L_rsum_4 (k_rsum ((), ()) (list, ())) (((), (0 : Int), (0 : Int), (0 : Int), ()), list, ())) := by kernel_rfl
theorem L_rsum_4_eq (k : Nat) (h_ : Int) (l : Int) (i : Int) (list : List Int) : L_rsum_4 (k + 1) (((), h_, l, i, ()), (list, ())) =
  let x0 := ((list.getD i.toNat (0 : Int)).fdiv (2 ^ (min ((32 : Int).toNat) 64)))
  let x1 := (L_rsum_4 k (((), (IntKind.i64.wrap (h_ + x0)), (IntKind.i64.wrap (l + (IntKind.i64.wrap ((list.getD i.toNat (0 : Int)) - (IntKind.i64.wrap (x0 * 4294967296)))))), (IntKind.i64.wrap (i + 1)), ()), list, ()))
  let x2 := (IntKind.i64.wrap (h_ + (l.fdiv (2 ^ (min ((32 : Int).toNat) 64)))))
  let x3 := decide (x2 < (-2147483648))
  let x4 := (bif x3 then true else decide (x2 > 2147483647))
  let x5 := (bif x3 then true else true)
  (bif decide (i < ((list.length : Nat) : Int)) then ⟨(((((((decide (0 ≤ i) && decide (i < ((list.length : Nat) : Int))) && (Nat.blt i.toNat list.length)) && true) && (decide (0 ≤ i) && decide (i < ((list.length : Nat) : Int)))) && (Nat.blt i.toNat list.length)) && true) && x1.ok), x1.pan, x1.ret, x1.out, x1.pv⟩ else ⟨(bif x4 then x5 else x5), false, ((bif x4 then (0 : Int) else (IntKind.i64.wrap ((IntKind.i64.wrap (x2 * 4294967296)) + (IntKind.i64.wrap (l - (IntKind.i64.wrap ((l.fdiv (2 ^ (min ((32 : Int).toNat) 64))) * 4294967296))))))), (bif x4 then false else true), ()), ((), ()), ()⟩) := by kernel_rfl
noncomputable def tbl51 : List (Ent TT) := ⟨69, g_rsum, F_rsum⟩ :: tbl50
theorem tbl51_ok : TblOK prog globs tbl51 := tbl_cons (by kernel_rfl) F_rsum_ok tbl50_ok
noncomputable def C_moves : Cx TT := cxB tbl51 Go.Proofs.Tryz.f70.ntmps [(5, s_moves_5)] [] [28, 43] []
noncomputable def k_moves (a : g_moves.args.ty) (h : tysO TT g_moves.hp) : Nat := h.1.length + 2
noncomputable def F_moves : g_moves.args.ty → tysO TT g_moves.hp → Res TT g_moves := fun a h => bodyG C_moves g_moves Go.Proofs.Tryz.f70 [] (k_moves a h) a h
theorem F_moves_ok : FOK prog globs 70 g_moves F_moves :=
  bodyG_sound (cx := C_moves) mix (cxB_ok tbl51_ok _ _ _ _ _) (f := 70) (fn := Go.Proofs.Tryz.f70) (by kernel_rfl) (by kernel_rfl) (by kernel_rfl) (by kernel_rfl) _
noncomputable def L_moves_5 (k : Nat) (v : s_moves_5.ty TT) : Res TT g_moves := loopG C_moves g_moves Go.Proofs.Tryz.f70 [] k (todoF Go.Proofs.Tryz.f70 5) (SS.st s_moves_5 0 v)
theorem F_moves_eq (b : T30) (account : Int) (entries : List T56) : F_moves (b, (), account, ()) (entries, ()) =
  let x0 := b.1.2.2.2.2.2.2.2.2.2.2
  let x1 := [b.1.1, b.1.2.1, b.1.2.2.1, b.1.2.2.2.1, b.1.2.2.2.2.1, b.1.2.2.2.2.2.1, b.1.2.2.2.2.2.2.1, b.1.2.2.2.2.2.2.2.1, b.1.2.2.2.2.2.2.2.2.1, b.1.2.2.2.2.2.2.2.2.2.1, x0.1, x0.2.1]
  let x2 := [(x1.getD account.toNat (0 : Int))]
  let x3 := (L_moves_5 (k_moves (b, (), account, ()) (entries, ())) (((), account, (), (0 : Int), ()), entries, (([] : List Int) ++ x2), ()))
  ⟨((((decide (0 ≤ account) && decide (account < ((12 : Nat) : Int))) && (Nat.blt account.toNat x1.length)) && (Nat.ble ((([] : List Int).length + x2.length) * 8) 140737488355328)) && x3.ok), x3.pan, x3.ret, x3.out, x3.pv⟩ := by kernel_rfl
theorem L_moves_5_eq (k : Nat) (account : Int) (i : Int) (entries : List T56) (l : List Int) : L_moves_5 (k + 1) (((), account, (), i, ()), (entries, l, ())) =
  let x0 := (entries.getD i.toNat ((0 : Int), (0 : Int), (0 : Int), ())).2
  let x1 := (x0.1 == account)
  let x2 := ((((decide (0 ≤ i) && decide (i < ((entries.length : Nat) : Int))) && (Nat.blt i.toNat entries.length)) && (decide (0 ≤ i) && decide (i < ((entries.length : Nat) : Int)))) && (Nat.blt i.toNat entries.length))
  let x3 := x0.2.1
  let x4 := [x3]
  let x5 := (((x2 && (Nat.ble ((l.length + x4.length) * 8) 140737488355328)) && (decide (0 ≤ i) && decide (i < ((entries.length : Nat) : Int)))) && (Nat.blt i.toNat entries.length))
  let x6 := (l ++ x4)
  let x7 := [(IntKind.i64.wrap (0 - x3))]
  let x8 := x7.length
  let x9 := (L_moves_5 k (((), account, (), (IntKind.i64.wrap (i + 1)), ()), entries, (x6 ++ x7), ()))
  let x10 := (L_moves_5 k (((), account, (), (IntKind.i64.wrap (i + 1)), ()), entries, x6, ()))
  let x11 := (L_moves_5 k (((), account, (), (IntKind.i64.wrap (i + 1)), ()), entries, (l ++ x7), ()))
  let x12 := (L_moves_5 k (((), account, (), (IntKind.i64.wrap (i + 1)), ()), entries, l, ()))
  (bif decide (i < ((entries.length : Nat) : Int)) then (bif ((entries.getD i.toNat ((0 : Int), (0 : Int), (0 : Int), ())).1 == account) then (bif x1 then ⟨((((x5 && (decide (0 ≤ i) && decide (i < ((entries.length : Nat) : Int)))) && (Nat.blt i.toNat entries.length)) && (Nat.ble ((x6.length + x8) * 8) 140737488355328)) && x9.ok), x9.pan, x9.ret, x9.out, x9.pv⟩ else ⟨(x5 && x10.ok), x10.pan, x10.ret, x10.out, x10.pv⟩) else (bif x1 then ⟨((((x2 && (decide (0 ≤ i) && decide (i < ((entries.length : Nat) : Int)))) && (Nat.blt i.toNat entries.length)) && (Nat.ble ((l.length + x8) * 8) 140737488355328)) && x11.ok), x11.pan, x11.ret, x11.out, x11.pv⟩ else ⟨(x2 && x12.ok), x12.pan, x12.ret, x12.out, x12.pv⟩)) else ⟨true, false, (), ((), l, ()), ()⟩) := by kernel_rfl
noncomputable def tbl52 : List (Ent TT) := ⟨70, g_moves, F_moves⟩ :: tbl51
theorem tbl52_ok : TblOK prog globs tbl52 := tbl_cons (by kernel_rfl) F_moves_ok tbl51_ok
noncomputable def C_rpost : Cx TT := cxB tbl52 Go.Proofs.Tryz.f47.ntmps [(3, s_rpost_3), (10, s_rpost_10), (17, s_rpost_17)] [] [] []
noncomputable def k_rpost (a : g_rpost.args.ty) (h : tysO TT g_rpost.hp) : Nat := h.1.length + 40
noncomputable def F_rpost : g_rpost.args.ty → tysO TT g_rpost.hp → Res TT g_rpost := fun a h => bodyG C_rpost g_rpost Go.Proofs.Tryz.f47 [] (k_rpost a h) a h
theorem F_rpost_ok : FOK prog globs 47 g_rpost F_rpost :=
  bodyG_sound (cx := C_rpost) mix (cxB_ok tbl52_ok _ _ _ _ _) (f := 47) (fn := Go.Proofs.Tryz.f47) (by kernel_rfl) (by kernel_rfl) (by kernel_rfl) (by kernel_rfl) _
noncomputable def L_rpost_3 (k : Nat) (v : s_rpost_3.ty TT) : Res TT g_rpost := loopG C_rpost g_rpost Go.Proofs.Tryz.f47 [] k (todoF Go.Proofs.Tryz.f47 3) (SS.st s_rpost_3 0 v)
noncomputable def L_rpost_10 (k : Nat) (v : s_rpost_10.ty TT) : Res TT g_rpost := loopG C_rpost g_rpost Go.Proofs.Tryz.f47 [] k (todoF Go.Proofs.Tryz.f47 10) (SS.st s_rpost_10 0 v)
noncomputable def L_rpost_17 (k : Nat) (v : s_rpost_17.ty TT) : Res TT g_rpost := loopG C_rpost g_rpost Go.Proofs.Tryz.f47 [] k (todoF Go.Proofs.Tryz.f47 17) (SS.st s_rpost_17 0 v)
theorem F_rpost_eq (b : T30) (entries : List T56) : F_rpost (b, (), ()) (entries, ()) =
  let x0 := b.1.2.2.2.2.2.2.2.2.2.2
  (L_rpost_3 (k_rpost (b, (), ()) (entries, ())) (((), (), (), (0 : Int), ()), entries, [b.1.1, b.1.2.1, b.1.2.2.1, b.1.2.2.2.1, b.1.2.2.2.2.1, b.1.2.2.2.2.2.1, b.1.2.2.2.2.2.2.1, b.1.2.2.2.2.2.2.2.1, b.1.2.2.2.2.2.2.2.2.1, b.1.2.2.2.2.2.2.2.2.2.1, x0.1, x0.2.1], [(0 : Int), (0 : Int), (0 : Int), (0 : Int), (0 : Int), (0 : Int), (0 : Int), (0 : Int), (0 : Int), (0 : Int), (0 : Int), (0 : Int)], ())) := by kernel_rfl
theorem L_rpost_3_eq (k : Nat) (i : Int) (entries : List T56) (b_r : List Int) (t4_r : List Int) : L_rpost_3 (k + 1) (((), (), (), i, ()), (entries, b_r, t4_r, ())) =
  let x0 := (entries.getD i.toNat ((0 : Int), (0 : Int), (0 : Int), ())).1
  let x1 := decide (x0 ≥ 0)
  let x2 := (!(bif x1 then decide (x0 < 12) else false))
  let x3 := (entries.getD i.toNat ((0 : Int), (0 : Int), (0 : Int), ())).2
  let x4 := x3.1
  let x5 := decide (x4 ≥ 0)
  let x6 := (!(bif x5 then decide (x4 < 12) else false))
  let x7 := (bif x2 then true else (bif x6 then true else (x0 == x4)))
  let x8 := decide (x3.2.1 < 1)
  let x9 := (bif x7 then (80 : Int) else (bif x8 then (4 : Int) else (0 : Int)))
  let x10 := (bif x1 then true else true)
  let x11 := (x10 && (bif x5 then true else true))
  let x12 := (((decide (0 ≤ i) && decide (i < ((entries.length : Nat) : Int))) && (Nat.blt i.toNat entries.length)) && (bif x2 then x10 else (bif x6 then x11 else x11)))
  let x13 := (bif x7 then x12 else (bif x8 then x12 else x12))
  let x14 := [(b_r.getD 0 (0 : Int)), (b_r.getD 1 (0 : Int)), (b_r.getD 2 (0 : Int)), (b_r.getD 3 (0 : Int)), (b_r.getD 4 (0 : Int)), (b_r.getD 5 (0 : Int)), (b_r.getD 6 (0 : Int)), (b_r.getD 7 (0 : Int)), (b_r.getD 8 (0 : Int)), (b_r.getD 9 (0 : Int)), (b_r.getD 10 (0 : Int)), (b_r.getD 11 (0 : Int))]
  let x15 := x14.length
  let x16 := (L_rpost_3 k (((), (), (), (IntKind.i64.wrap (i + 1)), ()), entries, b_r, t4_r, ()))
  (bif decide (i < ((entries.length : Nat) : Int)) then (bif (x9 != 0) then ⟨(((x13 && (Nat.beq b_r.length (12 / 1))) && (Nat.beq t4_r.length x15)) && (Nat.beq x15 (12 / 1))), false, ((((x14.getD 0 (0 : Int)), (x14.getD 1 (0 : Int)), (x14.getD 2 (0 : Int)), (x14.getD 3 (0 : Int)), (x14.getD 4 (0 : Int)), (x14.getD 5 (0 : Int)), (x14.getD 6 (0 : Int)), (x14.getD 7 (0 : Int)), (x14.getD 8 (0 : Int)), (x14.getD 9 (0 : Int)), (x14.getD 10 (0 : Int)), (x14.getD 11 (0 : Int)), ()), ()), x9, ()), ((), ()), ()⟩ else ⟨(x13 && x16.ok), x16.pan, x16.ret, x16.out, x16.pv⟩) else (L_rpost_10 k (((), (), (), (), (0 : Int), ()), entries, b_r, t4_r, [(0 : Int), (0 : Int), (0 : Int), (0 : Int), (0 : Int), (0 : Int), (0 : Int), (0 : Int), (0 : Int), (0 : Int), (0 : Int), (0 : Int)], ()))) := by kernel_rfl
theorem L_rpost_10_eq (k : Nat) (a_ : Int) (entries : List T56) (b_r : List Int) (t4_r : List Int) (c_r : List Int) : L_rpost_10 (k + 1) (((), (), (), (), a_, ()), (entries, b_r, t4_r, c_r, ())) =
  let x0 := (F_moves ((((b_r.getD 0 (0 : Int)), (b_r.getD 1 (0 : Int)), (b_r.getD 2 (0 : Int)), (b_r.getD 3 (0 : Int)), (b_r.getD 4 (0 : Int)), (b_r.getD 5 (0 : Int)), (b_r.getD 6 (0 : Int)), (b_r.getD 7 (0 : Int)), (b_r.getD 8 (0 : Int)), (b_r.getD 9 (0 : Int)), (b_r.getD 10 (0 : Int)), (b_r.getD 11 (0 : Int)), ()), ()), (), a_, ()) (entries, ()))
  let x1 := (F_rsum ((), ()) ((x0.out : Unit × (List Int) × Unit).2))
  let x2 := (x1.ret : Int × Bool × Unit)
  let x3 := (!x2.2.1)
  let x4 := x2.1
  let x5 := (((Nat.beq b_r.length (12 / 1)) && x0.ok) && x1.ok)
  let x6 := (bif x3 then x5 else x5)
  let x7 := [(b_r.getD 0 (0 : Int)), (b_r.getD 1 (0 : Int)), (b_r.getD 2 (0 : Int)), (b_r.getD 3 (0 : Int)), (b_r.getD 4 (0 : Int)), (b_r.getD 5 (0 : Int)), (b_r.getD 6 (0 : Int)), (b_r.getD 7 (0 : Int)), (b_r.getD 8 (0 : Int)), (b_r.getD 9 (0 : Int)), (b_r.getD 10 (0 : Int)), (b_r.getD 11 (0 : Int))]
  let x8 := x7.length
  let x9 := (L_rpost_10 k (((), (), (), (), (IntKind.i64.wrap (a_ + 1)), ()), entries, b_r, t4_r, (c_r.set a_.toNat x4), ()))
  (bif decide (a_ < 12) then (bif (bif x3 then true else (x4 == (-9223372036854775808))) then ⟨(((x6 && (Nat.beq b_r.length (12 / 1))) && (Nat.beq t4_r.length x8)) && (Nat.beq x8 (12 / 1))), false, ((((x7.getD 0 (0 : Int)), (x7.getD 1 (0 : Int)), (x7.getD 2 (0 : Int)), (x7.getD 3 (0 : Int)), (x7.getD 4 (0 : Int)), (x7.getD 5 (0 : Int)), (x7.getD 6 (0 : Int)), (x7.getD 7 (0 : Int)), (x7.getD 8 (0 : Int)), (x7.getD 9 (0 : Int)), (x7.getD 10 (0 : Int)), (x7.getD 11 (0 : Int)), ()), ()), (3 : Int), ()), ((), ()), ()⟩ else ⟨(((x6 && (decide (0 ≤ a_) && decide (a_ < ((12 : Nat) : Int)))) && (Nat.blt a_.toNat c_r.length)) && x9.ok), x9.pan, x9.ret, x9.out, x9.pv⟩) else (L_rpost_17 k (((), (), (), (0 : Int), ()), entries, b_r, t4_r, c_r, ()))) := by kernel_rfl
theorem L_rpost_17_eq (k : Nat) (a_ : Int) (entries : List T56) (b_r : List Int) (t4_r : List Int) (c_r : List Int) : L_rpost_17 (k + 1) (((), (), (), a_, ()), (entries, b_r, t4_r, c_r, ())) =
  let x0 := (bif (a_ == 0) then true else (bif (a_ == 1) then true else (bif (a_ == 2) then true else (bif (a_ == 3) then true else (bif (a_ == 9) then true else (a_ == 11))))))
  let x1 := (bif x0 then true else false)
  let x2 := (bif (a_ == 0) then true else (bif (a_ == 1) then true else (bif (a_ == 2) then true else (bif (a_ == 3) then true else (bif (a_ == 9) then true else true)))))
  let x3 := (((decide (0 ≤ a_) && decide (a_ < ((12 : Nat) : Int))) && (Nat.blt a_.toNat c_r.length)) && (bif x0 then x2 else x2))
  let x4 := (bif x1 then x3 else x3)
  let x5 := [(b_r.getD 0 (0 : Int)), (b_r.getD 1 (0 : Int)), (b_r.getD 2 (0 : Int)), (b_r.getD 3 (0 : Int)), (b_r.getD 4 (0 : Int)), (b_r.getD 5 (0 : Int)), (b_r.getD 6 (0 : Int)), (b_r.getD 7 (0 : Int)), (b_r.getD 8 (0 : Int)), (b_r.getD 9 (0 : Int)), (b_r.getD 10 (0 : Int)), (b_r.getD 11 (0 : Int))]
  let x6 := x5.length
  let x7 := (L_rpost_17 k (((), (), (), (IntKind.i64.wrap (a_ + 1)), ()), entries, b_r, t4_r, c_r, ()))
  let x8 := [(c_r.getD 0 (0 : Int)), (c_r.getD 1 (0 : Int)), (c_r.getD 2 (0 : Int)), (c_r.getD 3 (0 : Int)), (c_r.getD 4 (0 : Int)), (c_r.getD 5 (0 : Int)), (c_r.getD 6 (0 : Int)), (c_r.getD 7 (0 : Int)), (c_r.getD 8 (0 : Int)), (c_r.getD 9 (0 : Int)), (c_r.getD 10 (0 : Int)), (c_r.getD 11 (0 : Int))]
  let x9 := x8.length
  (bif decide (a_ < 12) then (bif (bif x1 then (!decide ((c_r.getD a_.toNat (0 : Int)) ≥ 0)) else (!decide ((c_r.getD a_.toNat (0 : Int)) ≤ 0))) then ⟨(((x4 && (Nat.beq b_r.length (12 / 1))) && (Nat.beq t4_r.length x6)) && (Nat.beq x6 (12 / 1))), false, ((((x5.getD 0 (0 : Int)), (x5.getD 1 (0 : Int)), (x5.getD 2 (0 : Int)), (x5.getD 3 (0 : Int)), (x5.getD 4 (0 : Int)), (x5.getD 5 (0 : Int)), (x5.getD 6 (0 : Int)), (x5.getD 7 (0 : Int)), (x5.getD 8 (0 : Int)), (x5.getD 9 (0 : Int)), (x5.getD 10 (0 : Int)), (x5.getD 11 (0 : Int)), ()), ()), (81 : Int), ()), ((), ()), ()⟩ else ⟨(x4 && x7.ok), x7.pan, x7.ret, x7.out, x7.pv⟩) else ⟨(((Nat.beq c_r.length (12 / 1)) && (Nat.beq t4_r.length x9)) && (Nat.beq x9 (12 / 1))), false, ((((x8.getD 0 (0 : Int)), (x8.getD 1 (0 : Int)), (x8.getD 2 (0 : Int)), (x8.getD 3 (0 : Int)), (x8.getD 4 (0 : Int)), (x8.getD 5 (0 : Int)), (x8.getD 6 (0 : Int)), (x8.getD 7 (0 : Int)), (x8.getD 8 (0 : Int)), (x8.getD 9 (0 : Int)), (x8.getD 10 (0 : Int)), (x8.getD 11 (0 : Int)), ()), ()), (0 : Int), ()), ((), ()), ()⟩) := by kernel_rfl
noncomputable def tbl53 : List (Ent TT) := ⟨47, g_rpost, F_rpost⟩ :: tbl52
theorem tbl53_ok : TblOK prog globs tbl53 := tbl_cons (by kernel_rfl) F_rpost_ok tbl52_ok
noncomputable def C_rfail : Cx TT := cxB tbl53 Go.Proofs.Tryz.f18.ntmps [] [] [12] []
noncomputable def k_rfail (a : g_rfail.args.ty) (h : tysO TT g_rfail.hp) : Nat := 0
noncomputable def F_rfail : g_rfail.args.ty → tysO TT g_rfail.hp → Res TT g_rfail := fun a h => bodyG C_rfail g_rfail Go.Proofs.Tryz.f18 [] (k_rfail a h) a h
theorem F_rfail_ok : FOK prog globs 18 g_rfail F_rfail :=
  bodyG_sound (cx := C_rfail) mix (cxB_ok tbl53_ok _ _ _ _ _) (f := 18) (fn := Go.Proofs.Tryz.f18) (by kernel_rfl) (by kernel_rfl) (by kernel_rfl) (by kernel_rfl) _
theorem F_rfail_eq (w : T62) (met : Bool) (e : Int) (w_0 : List Int) (w_1 : List T99) (w_2 : List T60) : F_rfail (w, met, e, ()) (w_0, w_1, w_2, ()) =
  (bif (bif (w.2.2.2.2.1 == 0) then met else false) then ⟨(bif (w.2.2.2.2.1 == 0) then true else true), false, (w.1, w.2.1, w.2.2.1, (), e, ()), ((), (), (), ()), ()⟩ else ⟨(bif (w.2.2.2.2.1 == 0) then true else true), false, w, ((), (), (), ()), ()⟩) := by kernel_rfl
noncomputable def tbl54 : List (Ent TT) := ⟨18, g_rfail, F_rfail⟩ :: tbl53
theorem tbl54_ok : TblOK prog globs tbl54 := tbl_cons (by kernel_rfl) F_rfail_ok tbl53_ok
noncomputable def C_rposted : Cx TT := cxB tbl54 Go.Proofs.Tryz.f22.ntmps [] [] [9] []
noncomputable def k_rposted (a : g_rposted.args.ty) (h : tysO TT g_rposted.hp) : Nat := 0
noncomputable def F_rposted : g_rposted.args.ty → tysO TT g_rposted.hp → Res TT g_rposted := fun a h => bodyG C_rposted g_rposted Go.Proofs.Tryz.f22 [] (k_rposted a h) a h
theorem F_rposted_ok : FOK prog globs 22 g_rposted F_rposted :=
  bodyG_sound (cx := C_rposted) mix (cxB_ok tbl54_ok _ _ _ _ _) (f := 22) (fn := Go.Proofs.Tryz.f22) (by kernel_rfl) (by kernel_rfl) (by kernel_rfl) (by kernel_rfl) _
theorem F_rposted_eq (w : T62) (w_0 : List Int) (w_1 : List T99) (w_2 : List T60) (list : List T56) : F_rposted (w, (), ()) (w_0, w_1, w_2, list, ()) =
  let x0 := (F_rpost (w.2.1.2.2.2.1, (), ()) (list, ()))
  let x1 := (x0.ret : ((Int × Int × Int × Int × Int × Int × Int × Int × Int × Int × Int × Int × Unit) × Unit) × Int × Unit)
  let x2 := x1.1.1
  let x3 := x2.2
  let x4 := x3.2
  let x5 := x4.2
  let x6 := x5.2
  let x7 := x6.2
  let x8 := x7.2
  let x9 := x8.2
  let x10 := x9.2
  let x11 := x10.2
  let x12 := x11.2
  let x13 := [x2.1, x3.1, x4.1, x5.1, x6.1, x7.1, x8.1, x9.1, x10.1, x11.1, x12.1, x12.2.1]
  let x14 := x13.length
  (bif (w.2.2.2.2.1 != 0) then ⟨true, false, w, ((), (), (), (), ()), ()⟩ else ⟨((x0.ok && (Nat.beq (([(0 : Int), (0 : Int), (0 : Int), (0 : Int), (0 : Int), (0 : Int), (0 : Int), (0 : Int), (0 : Int), (0 : Int), (0 : Int), (0 : Int)]).length) x14)) && (Nat.beq x14 (12 / 1))), false, (w.1, (w.2.1.1, w.2.1.2.1, (), (((x13.getD 0 (0 : Int)), (x13.getD 1 (0 : Int)), (x13.getD 2 (0 : Int)), (x13.getD 3 (0 : Int)), (x13.getD 4 (0 : Int)), (x13.getD 5 (0 : Int)), (x13.getD 6 (0 : Int)), (x13.getD 7 (0 : Int)), (x13.getD 8 (0 : Int)), (x13.getD 9 (0 : Int)), (x13.getD 10 (0 : Int)), (x13.getD 11 (0 : Int)), ()), ()), w.2.1.2.2.2.2), w.2.2.1, (), x1.2), ((), (), (), (), ()), ()⟩) := by kernel_rfl
noncomputable def tbl55 : List (Ent TT) := ⟨22, g_rposted, F_rposted⟩ :: tbl54
theorem tbl55_ok : TblOK prog globs tbl55 := tbl_cons (by kernel_rfl) F_rposted_ok tbl54_ok
end Go.Proofs.YtklpneeakhbahaaGreatDoor.Fs
end
section
set_option linter.unusedVariables false
set_option maxRecDepth 100000
set_option linter.unusedSimpArgs false
namespace Go.Proofs.YtklpneeakhbahaaGreatDoor.Fs
open Go Go.Proofs.YtklpneeakhbahaaGreatDoor.Ls
noncomputable def C_rOpen : Cx TT := cxB tbl55 Go.Proofs.Tryz.f7.ntmps [] [] [1000002, 1000007, 1000008] []
noncomputable def k_rOpen (a : g_rOpen.args.ty) (h : tysO TT g_rOpen.hp) : Nat := 0
noncomputable def F_rOpen : g_rOpen.args.ty → tysO TT g_rOpen.hp → Res TT g_rOpen := fun a h => bodyG C_rOpen g_rOpen Go.Proofs.Tryz.f7 [] (k_rOpen a h) a h
theorem F_rOpen_ok : FOK prog globs 7 g_rOpen F_rOpen :=
  bodyG_sound (cx := C_rOpen) mix (cxB_ok tbl55_ok _ _ _ _ _) (f := 7) (fn := Go.Proofs.Tryz.f7) (by kernel_rfl) (by kernel_rfl) (by kernel_rfl) (by kernel_rfl) _
theorem F_rOpen_eq (p : T23) (id : Int) (t : T25) (p_0 : List Int) : F_rOpen (p, id, t, ()) (p_0, ()) =
  let x0 := (F_copied (((0 : Int), ((0 : Int), (0 : Int), (0 : Int), (0 : Int), (0 : Int), (0 : Int), ()), (), (((0 : Int), (0 : Int), (0 : Int), (0 : Int), (0 : Int), (0 : Int), (0 : Int), (0 : Int), (0 : Int), (0 : Int), (0 : Int), (0 : Int), ()), ()), ((0 : Int), false, (0 : Int), (0 : Int), (0 : Int), (0 : Int), (0 : Int), (0 : Int), (0 : Int), (0 : Int), (0 : Int), (0 : Int), (0 : Int), (0 : Int), (0 : Int), ()), (0 : Int), (0 : Int), (0 : Int), ((0 : Int), (0 : Int), (0 : Int), (0 : Int), (0 : Int), ()), false, (0 : Int), (0 : Int), ()), ()) (([] : List (Int × Int × Int × Bool × Unit)), ()))
  let x1 := (x0.ret : Int × (Int × Int × Int × Int × Int × Int × Unit) × Unit × ((Int × Int × Int × Int × Int × Int × Int × Int × Int × Int × Int × Int × Unit) × Unit) × (Int × Bool × Int × Int × Int × Int × Int × Int × Int × Int × Int × Int × Int × Int × Int × Unit) × Int × Int × Int × (Int × Int × Int × Int × Int × Unit) × Bool × Int × Int × Unit)
  let x2 := ((x0.out : Unit × (List (Int × Int × Int × Bool × Unit)) × Unit).2).1
  let x3 := (F_rfail ((p, x1, ((0 : Int), (0 : Int), (0 : Int), (0 : Int), (0 : Int), ()), (), ((F_rCheck (p, ()) (p_0, ())).ret : Int × Int × Unit).1, ()), true, (2 : Int), ()) (p_0, x2, ([] : List (Int × Int × Int × Int × Int × Bool × Unit)), ()))
  let x4 := (F_rfail ((x3.ret : (Int × Int × Int × Int × Int × Int × Int × Int × Int × Int × Int × Int × Int × Int × Int × Int × Int × Unit × Unit) × (Int × (Int × Int × Int × Int × Int × Int × Unit) × Unit × ((Int × Int × Int × Int × Int × Int × Int × Int × Int × Int × Int × Int × Unit) × Unit) × (Int × Bool × Int × Int × Int × Int × Int × Int × Int × Int × Int × Int × Int × Int × Int × Unit) × Int × Int × Int × (Int × Int × Int × Int × Int × Unit) × Bool × Int × Int × Unit) × (Int × Int × Int × Int × Int × Unit) × Unit × Int × Unit), ((F_wrong (t, ()) ()).ret : Bool), (140 : Int), ()) (p_0, x2, ([] : List (Int × Int × Int × Int × Int × Bool × Unit)), ()))
  let x5 := (F_rfail ((x4.ret : (Int × Int × Int × Int × Int × Int × Int × Int × Int × Int × Int × Int × Int × Int × Int × Int × Int × Unit × Unit) × (Int × (Int × Int × Int × Int × Int × Int × Unit) × Unit × ((Int × Int × Int × Int × Int × Int × Int × Int × Int × Int × Int × Int × Unit) × Unit) × (Int × Bool × Int × Int × Int × Int × Int × Int × Int × Int × Int × Int × Int × Int × Int × Unit) × Int × Int × Int × (Int × Int × Int × Int × Int × Unit) × Bool × Int × Int × Unit) × (Int × Int × Int × Int × Int × Unit) × Unit × Int × Unit), (!(((F_rPlan (t, (), ()) (p_0, ())).ret : Unit × Bool × Unit).2).1), (141 : Int), ()) (p_0, x2, ([] : List (Int × Int × Int × Int × Int × Bool × Unit)), ()))
  let x6 := (x5.ret : (Int × Int × Int × Int × Int × Int × Int × Int × Int × Int × Int × Int × Int × Int × Int × Int × Int × Unit × Unit) × (Int × (Int × Int × Int × Int × Int × Int × Unit) × Unit × ((Int × Int × Int × Int × Int × Int × Int × Int × Int × Int × Int × Int × Unit) × Unit) × (Int × Bool × Int × Int × Int × Int × Int × Int × Int × Int × Int × Int × Int × Int × Int × Unit) × Int × Int × Int × (Int × Int × Int × Int × Int × Unit) × Bool × Int × Int × Unit) × (Int × Int × Int × Int × Int × Unit) × Unit × Int × Unit)
  let x7 := (((F_rPlan (t, (), ()) (p_0, ())).out : Unit × (List (Int × Int × Int × Bool × Unit)) × Unit).2).1
  let x8 := (F_rposted ((x6.1, (id, t, (), (((0 : Int), (0 : Int), (0 : Int), (0 : Int), (0 : Int), (0 : Int), (0 : Int), (0 : Int), (0 : Int), (0 : Int), (0 : Int), (0 : Int), ()), ()), ((1 : Int), false, (0 : Int), (0 : Int), (0 : Int), (0 : Int), (0 : Int), (0 : Int), (0 : Int), (0 : Int), (0 : Int), (0 : Int), (0 : Int), (0 : Int), (0 : Int), ()), t.2.2.2.2.1, (0 : Int), (0 : Int), ((0 : Int), (0 : Int), (0 : Int), (0 : Int), (0 : Int), ()), false, (0 : Int), (0 : Int), ()), x6.2.2), (), ()) (p_0, x7, ([] : List (Int × Int × Int × Int × Int × Bool × Unit)), ([] : List (Int × Int × Int × Unit)), ()))
  let x9 := (x8.ret : (Int × Int × Int × Int × Int × Int × Int × Int × Int × Int × Int × Int × Int × Int × Int × Int × Int × Unit × Unit) × (Int × (Int × Int × Int × Int × Int × Int × Unit) × Unit × ((Int × Int × Int × Int × Int × Int × Int × Int × Int × Int × Int × Int × Unit) × Unit) × (Int × Bool × Int × Int × Int × Int × Int × Int × Int × Int × Int × Int × Int × Int × Int × Unit) × Int × Int × Int × (Int × Int × Int × Int × Int × Unit) × Bool × Int × Int × Unit) × (Int × Int × Int × Int × Int × Unit) × Unit × Int × Unit).2
  let x10 := x9.2
  let x11 := x10.2
  let x12 := x0.ok
  let x13 := ((F_rCheck (p, ()) (p_0, ())).ok && x12)
  let x14 := ((((((x13 && x3.ok) && (F_wrong (t, ()) ()).ok) && x4.ok) && (F_rPlan (t, (), ()) (p_0, ())).ok) && x5.ok) && true)
  let x15 := ((x14 && true) && x8.ok)
  let x16 := (F_rposted ((x6.1, (id, t, (), (((0 : Int), (0 : Int), (0 : Int), (0 : Int), (0 : Int), (0 : Int), (0 : Int), (0 : Int), (0 : Int), (0 : Int), (0 : Int), (0 : Int), ()), ()), ((1 : Int), false, (0 : Int), (0 : Int), (0 : Int), (0 : Int), (0 : Int), (0 : Int), (0 : Int), (0 : Int), (0 : Int), (0 : Int), (0 : Int), (0 : Int), (0 : Int), ()), t.2.2.2.2.1, (0 : Int), (0 : Int), ((0 : Int), (0 : Int), (0 : Int), (0 : Int), (0 : Int), ()), false, (0 : Int), (0 : Int), ()), x6.2.2), (), ()) (p_0, x7, ([] : List (Int × Int × Int × Int × Int × Bool × Unit)), (([] : List (Int × Int × Int × Unit)) ++ [((1 : Int), (6 : Int), t.2.1, ())]), ()))
  let x17 := (x16.ret : (Int × Int × Int × Int × Int × Int × Int × Int × Int × Int × Int × Int × Int × Int × Int × Int × Int × Unit × Unit) × (Int × (Int × Int × Int × Int × Int × Int × Unit) × Unit × ((Int × Int × Int × Int × Int × Int × Int × Int × Int × Int × Int × Int × Unit) × Unit) × (Int × Bool × Int × Int × Int × Int × Int × Int × Int × Int × Int × Int × Int × Int × Int × Unit) × Int × Int × Int × (Int × Int × Int × Int × Int × Unit) × Bool × Int × Int × Unit) × (Int × Int × Int × Int × Int × Unit) × Unit × Int × Unit).2
  let x18 := x17.2
  let x19 := x18.2
  let x20 := (Nat.ble ((([] : List (Int × Int × Int × Unit)).length + ([((1 : Int), (6 : Int), t.2.1, ())]).length) * 24) 140737488355328)
  let x21 := ((x14 && x20) && x16.ok)
  let x22 := (F_rfail ((p, x1, ((0 : Int), (0 : Int), (0 : Int), (0 : Int), (0 : Int), ()), (), ((F_rCheck (p, ()) (p_0, ())).ret : Int × Int × Unit).1, ()), decide (id > 999999), (2 : Int), ()) (p_0, x2, ([] : List (Int × Int × Int × Int × Int × Bool × Unit)), ()))
  let x23 := (F_rfail ((x22.ret : (Int × Int × Int × Int × Int × Int × Int × Int × Int × Int × Int × Int × Int × Int × Int × Int × Int × Unit × Unit) × (Int × (Int × Int × Int × Int × Int × Int × Unit) × Unit × ((Int × Int × Int × Int × Int × Int × Int × Int × Int × Int × Int × Int × Unit) × Unit) × (Int × Bool × Int × Int × Int × Int × Int × Int × Int × Int × Int × Int × Int × Int × Int × Unit) × Int × Int × Int × (Int × Int × Int × Int × Int × Unit) × Bool × Int × Int × Unit) × (Int × Int × Int × Int × Int × Unit) × Unit × Int × Unit), ((F_wrong (t, ()) ()).ret : Bool), (140 : Int), ()) (p_0, x2, ([] : List (Int × Int × Int × Int × Int × Bool × Unit)), ()))
  let x24 := (F_rfail ((x23.ret : (Int × Int × Int × Int × Int × Int × Int × Int × Int × Int × Int × Int × Int × Int × Int × Int × Int × Unit × Unit) × (Int × (Int × Int × Int × Int × Int × Int × Unit) × Unit × ((Int × Int × Int × Int × Int × Int × Int × Int × Int × Int × Int × Int × Unit) × Unit) × (Int × Bool × Int × Int × Int × Int × Int × Int × Int × Int × Int × Int × Int × Int × Int × Unit) × Int × Int × Int × (Int × Int × Int × Int × Int × Unit) × Bool × Int × Int × Unit) × (Int × Int × Int × Int × Int × Unit) × Unit × Int × Unit), (!(((F_rPlan (t, (), ()) (p_0, ())).ret : Unit × Bool × Unit).2).1), (141 : Int), ()) (p_0, x2, ([] : List (Int × Int × Int × Int × Int × Bool × Unit)), ()))
  let x25 := (x24.ret : (Int × Int × Int × Int × Int × Int × Int × Int × Int × Int × Int × Int × Int × Int × Int × Int × Int × Unit × Unit) × (Int × (Int × Int × Int × Int × Int × Int × Unit) × Unit × ((Int × Int × Int × Int × Int × Int × Int × Int × Int × Int × Int × Int × Unit) × Unit) × (Int × Bool × Int × Int × Int × Int × Int × Int × Int × Int × Int × Int × Int × Int × Int × Unit) × Int × Int × Int × (Int × Int × Int × Int × Int × Unit) × Bool × Int × Int × Unit) × (Int × Int × Int × Int × Int × Unit) × Unit × Int × Unit)
  let x26 := (F_rposted ((x25.1, (id, t, (), (((0 : Int), (0 : Int), (0 : Int), (0 : Int), (0 : Int), (0 : Int), (0 : Int), (0 : Int), (0 : Int), (0 : Int), (0 : Int), (0 : Int), ()), ()), ((1 : Int), false, (0 : Int), (0 : Int), (0 : Int), (0 : Int), (0 : Int), (0 : Int), (0 : Int), (0 : Int), (0 : Int), (0 : Int), (0 : Int), (0 : Int), (0 : Int), ()), t.2.2.2.2.1, (0 : Int), (0 : Int), ((0 : Int), (0 : Int), (0 : Int), (0 : Int), (0 : Int), ()), false, (0 : Int), (0 : Int), ()), x25.2.2), (), ()) (p_0, x7, ([] : List (Int × Int × Int × Int × Int × Bool × Unit)), ([] : List (Int × Int × Int × Unit)), ()))
  let x27 := (x26.ret : (Int × Int × Int × Int × Int × Int × Int × Int × Int × Int × Int × Int × Int × Int × Int × Int × Int × Unit × Unit) × (Int × (Int × Int × Int × Int × Int × Int × Unit) × Unit × ((Int × Int × Int × Int × Int × Int × Int × Int × Int × Int × Int × Int × Unit) × Unit) × (Int × Bool × Int × Int × Int × Int × Int × Int × Int × Int × Int × Int × Int × Int × Int × Unit) × Int × Int × Int × (Int × Int × Int × Int × Int × Unit) × Bool × Int × Int × Unit) × (Int × Int × Int × Int × Int × Unit) × Unit × Int × Unit).2
  let x28 := x27.2
  let x29 := x28.2
  let x30 := ((((((x13 && x22.ok) && (F_wrong (t, ()) ()).ok) && x23.ok) && (F_rPlan (t, (), ()) (p_0, ())).ok) && x24.ok) && true)
  let x31 := ((x30 && true) && x26.ok)
  let x32 := (F_rposted ((x25.1, (id, t, (), (((0 : Int), (0 : Int), (0 : Int), (0 : Int), (0 : Int), (0 : Int), (0 : Int), (0 : Int), (0 : Int), (0 : Int), (0 : Int), (0 : Int), ()), ()), ((1 : Int), false, (0 : Int), (0 : Int), (0 : Int), (0 : Int), (0 : Int), (0 : Int), (0 : Int), (0 : Int), (0 : Int), (0 : Int), (0 : Int), (0 : Int), (0 : Int), ()), t.2.2.2.2.1, (0 : Int), (0 : Int), ((0 : Int), (0 : Int), (0 : Int), (0 : Int), (0 : Int), ()), false, (0 : Int), (0 : Int), ()), x25.2.2), (), ()) (p_0, x7, ([] : List (Int × Int × Int × Int × Int × Bool × Unit)), (([] : List (Int × Int × Int × Unit)) ++ [((1 : Int), (6 : Int), t.2.1, ())]), ()))
  let x33 := (x32.ret : (Int × Int × Int × Int × Int × Int × Int × Int × Int × Int × Int × Int × Int × Int × Int × Int × Int × Unit × Unit) × (Int × (Int × Int × Int × Int × Int × Int × Unit) × Unit × ((Int × Int × Int × Int × Int × Int × Int × Int × Int × Int × Int × Int × Unit) × Unit) × (Int × Bool × Int × Int × Int × Int × Int × Int × Int × Int × Int × Int × Int × Int × Int × Unit) × Int × Int × Int × (Int × Int × Int × Int × Int × Unit) × Bool × Int × Int × Unit) × (Int × Int × Int × Int × Int × Unit) × Unit × Int × Unit).2
  let x34 := x33.2
  let x35 := x34.2
  let x36 := ((x30 && x20) && x32.ok)
  (bif decide (id < 1) then (bif (t.2.1 == 0) then (bif (x11.2.1 != 0) then ⟨(x15 && x12), false, (x1, ((0 : Int), (0 : Int), (0 : Int), (0 : Int), (0 : Int), ()), x11), ((), x2, ([] : List (Int × Int × Int × Int × Int × Bool × Unit)), ()), ()⟩ else ⟨(x15 && true), false, (x9.1, x10.1, (), (0 : Int), ()), ((), x7, ([] : List (Int × Int × Int × Int × Int × Bool × Unit)), ()), ()⟩) else (bif (x19.2.1 != 0) then ⟨(x21 && x12), false, (x1, ((0 : Int), (0 : Int), (0 : Int), (0 : Int), (0 : Int), ()), x19), ((), x2, ([] : List (Int × Int × Int × Int × Int × Bool × Unit)), ()), ()⟩ else ⟨(x21 && true), false, (x17.1, x18.1, (), (0 : Int), ()), ((), x7, ([] : List (Int × Int × Int × Int × Int × Bool × Unit)), ()), ()⟩)) else (bif (t.2.1 == 0) then (bif (x29.2.1 != 0) then ⟨(x31 && x12), false, (x1, ((0 : Int), (0 : Int), (0 : Int), (0 : Int), (0 : Int), ()), x29), ((), x2, ([] : List (Int × Int × Int × Int × Int × Bool × Unit)), ()), ()⟩ else ⟨(x31 && true), false, (x27.1, x28.1, (), (0 : Int), ()), ((), x7, ([] : List (Int × Int × Int × Int × Int × Bool × Unit)), ()), ()⟩) else (bif (x35.2.1 != 0) then ⟨(x36 && x12), false, (x1, ((0 : Int), (0 : Int), (0 : Int), (0 : Int), (0 : Int), ()), x35), ((), x2, ([] : List (Int × Int × Int × Int × Int × Bool × Unit)), ()), ()⟩ else ⟨(x36 && true), false, (x33.1, x34.1, (), (0 : Int), ()), ((), x7, ([] : List (Int × Int × Int × Int × Int × Bool × Unit)), ()), ()⟩))) := by kernel_rfl
noncomputable def tbl56 : List (Ent TT) := ⟨7, g_rOpen, F_rOpen⟩ :: tbl55
theorem tbl56_ok : TblOK prog globs tbl56 := tbl_cons (by kernel_rfl) F_rOpen_ok tbl55_ok
end Go.Proofs.YtklpneeakhbahaaGreatDoor.Fs
end
section
set_option linter.unusedVariables false
set_option maxRecDepth 100000
set_option linter.unusedSimpArgs false
namespace Go.Proofs.YtklpneeakhbahaaGreatDoor.Fs
open Go Go.Proofs.YtklpneeakhbahaaGreatDoor.Ls
noncomputable def C_own : Cx TT := cxB tbl56 Go.Proofs.Tryz.f4.ntmps [] [] [] []
noncomputable def k_own (a : g_own.args.ty) (h : tysO TT g_own.hp) : Nat := 0
noncomputable def F_own : g_own.args.ty → tysO TT g_own.hp → Res TT g_own := fun a h => bodyG C_own g_own Go.Proofs.Tryz.f4 [] (k_own a h) a h
theorem F_own_ok : FOK prog globs 4 g_own F_own :=
  bodyG_sound (cx := C_own) mix (cxB_ok tbl56_ok _ _ _ _ _) (f := 4) (fn := Go.Proofs.Tryz.f4) (by kernel_rfl) (by kernel_rfl) (by kernel_rfl) (by kernel_rfl) _
theorem F_own_eq (p : T23) (p_0 : List Int) : F_own (p, ()) (p_0, ()) =
  let x0 := p.2.2.2.2.2.2.2.2.2.2.2
  let x1 := x0.2
  let x2 := x1.2
  let x3 := x2.2
  let x4 := x3.2
  ⟨(((Nat.ble ((([] : List Int).length + p_0.length) * 8) 140737488355328) && (Nat.ble (((([] : List Int) ++ p_0).length + ([(-44 : Int)]).length) * 8) 140737488355328)) && (decide (0 ≤ ((0 : Nat) : Int)) && (decide (((0 : Nat) : Int) ≤ ((p_0.length : Nat) : Int)) && decide (((p_0.length : Nat) : Int) ≤ ((((([] : List Int) ++ p_0) ++ [(-44 : Int)]).length : Nat) : Int))))), false, (p.1, p.2.1, p.2.2.1, p.2.2.2.1, p.2.2.2.2.1, p.2.2.2.2.2.1, p.2.2.2.2.2.2.1, p.2.2.2.2.2.2.2.1, p.2.2.2.2.2.2.2.2.1, p.2.2.2.2.2.2.2.2.2.1, p.2.2.2.2.2.2.2.2.2.2.1, x0.1, x1.1, x2.1, x3.1, x4.1, x4.2.1, (((0 : Nat) : Int).toNat, (((p_0.length : Nat) : Int).toNat - ((0 : Nat) : Int).toNat), (((([] : List Int) ++ p_0) ++ [(-44 : Int)]).length - ((0 : Nat) : Int).toNat)), ()), ((), ((([] : List Int) ++ p_0) ++ [(-44 : Int)]), ()), ()⟩ := by kernel_rfl
noncomputable def tbl57 : List (Ent TT) := ⟨4, g_own, F_own⟩ :: tbl56
theorem tbl57_ok : TblOK prog globs tbl57 := tbl_cons (by kernel_rfl) F_own_ok tbl56_ok
noncomputable def C_leftAlone : Cx TT := cxB tbl57 Go.Proofs.Tryz.f8.ntmps [(7, s_leftAlone_7)] [] [] []
noncomputable def k_leftAlone (a : g_leftAlone.args.ty) (h : tysO TT g_leftAlone.hp) : Nat := h.1.length + 2
noncomputable def F_leftAlone : g_leftAlone.args.ty → tysO TT g_leftAlone.hp → Res TT g_leftAlone := fun a h => bodyG C_leftAlone g_leftAlone Go.Proofs.Tryz.f8 [] (k_leftAlone a h) a h
theorem F_leftAlone_ok : FOK prog globs 8 g_leftAlone F_leftAlone :=
  bodyG_sound (cx := C_leftAlone) mix (cxB_ok tbl57_ok _ _ _ _ _) (f := 8) (fn := Go.Proofs.Tryz.f8) (by kernel_rfl) (by kernel_rfl) (by kernel_rfl) (by kernel_rfl) _
noncomputable def L_leftAlone_7 (k : Nat) (v : s_leftAlone_7.ty TT) : Res TT g_leftAlone := loopG C_leftAlone g_leftAlone Go.Proofs.Tryz.f8 [] k (todoF Go.Proofs.Tryz.f8 7) (SS.st s_leftAlone_7 0 v)
theorem F_leftAlone_eq (q : Int × Int × Int × Int × Int × Int × Int × Int × Int × Int × Int × Int × Int × Int × Int × Int × Int × (Nat × Nat × Nat) × Unit) (p : T23) (p_0 : List Int) (q_0 : List Int) : F_leftAlone (q, p, ()) (p_0, q_0, ()) =
  let x0 := q.2.2.2.2.2.2.2.2.2.2.2.2.2.2.2.2.2.1
  let x1 := x0.2
  let x2 := x1.2
  let x3 := (L_leftAlone_7 (k_leftAlone (q, p, ()) (p_0, q_0, ())) (((), ((p_0.length : Nat) : Int), ((x0.1 + ((0 : Nat) : Int).toNat), ((IntKind.i64.wrap (((p_0.length : Nat) : Int) + 1)).toNat - ((0 : Nat) : Int).toNat), (x2 - ((0 : Nat) : Int).toNat)), (0 : Int), ()), p_0, q_0, p, ()))
  (bif (((x1.1 : Nat) : Int) != ((p_0.length : Nat) : Int)) then ⟨true, false, false, ((), (), ()), ()⟩ else ⟨((decide (0 ≤ ((0 : Nat) : Int)) && (decide (((0 : Nat) : Int) ≤ (IntKind.i64.wrap (((p_0.length : Nat) : Int) + 1))) && decide ((IntKind.i64.wrap (((p_0.length : Nat) : Int) + 1)) ≤ ((x2 : Nat) : Int)))) && x3.ok), x3.pan, x3.ret, x3.out, x3.pv⟩) := by kernel_rfl
theorem L_leftAlone_7_eq (k : Nat) (n : Int) (whole : Nat × Nat × Nat) (i : Int) (p_0 : List Int) (q_0 : List Int) (p : T23) : L_leftAlone_7 (k + 1) (((), n, whole, i, ()), (p_0, q_0, p, ())) =
  let x0 := ((((decide (0 ≤ i) && decide (i < ((whole.2.1 : Nat) : Int))) && (Nat.blt (whole.1 + i.toNat) q_0.length)) && (decide (0 ≤ i) && decide (i < ((p_0.length : Nat) : Int)))) && (Nat.blt i.toNat p_0.length))
  let x1 := (L_leftAlone_7 k (((), n, whole, (IntKind.i64.wrap (i + 1)), ()), p_0, q_0, p, ()))
  (bif decide (i < n) then (bif ((q_0.getD (whole.1 + i.toNat) (0 : Int)) != (p_0.getD i.toNat (0 : Int))) then ⟨x0, false, false, ((), (), ()), ()⟩ else ⟨(x0 && x1.ok), x1.pan, x1.ret, x1.out, x1.pv⟩) else ⟨((decide (0 ≤ n) && decide (n < ((whole.2.1 : Nat) : Int))) && (Nat.blt (whole.1 + n.toNat) q_0.length)), false, ((q_0.getD (whole.1 + n.toNat) (0 : Int)) == (-44)), ((), (), ()), ()⟩) := by kernel_rfl
noncomputable def tbl58 : List (Ent TT) := ⟨8, g_leftAlone, F_leftAlone⟩ :: tbl57
theorem tbl58_ok : TblOK prog globs tbl58 := tbl_cons (by kernel_rfl) F_leftAlone_ok tbl57_ok
noncomputable def C_samePlan : Cx TT := cxB tbl58 Go.Proofs.Tryz.f39.ntmps [(5, s_samePlan_5)] [] [] []
noncomputable def k_samePlan (a : g_samePlan.args.ty) (h : tysO TT g_samePlan.hp) : Nat := h.1.length + 2
noncomputable def F_samePlan : g_samePlan.args.ty → tysO TT g_samePlan.hp → Res TT g_samePlan := fun a h => bodyG C_samePlan g_samePlan Go.Proofs.Tryz.f39 [] (k_samePlan a h) a h
theorem F_samePlan_ok : FOK prog globs 39 g_samePlan F_samePlan :=
  bodyG_sound (cx := C_samePlan) mix (cxB_ok tbl58_ok _ _ _ _ _) (f := 39) (fn := Go.Proofs.Tryz.f39) (by kernel_rfl) (by kernel_rfl) (by kernel_rfl) (by kernel_rfl) _
noncomputable def L_samePlan_5 (k : Nat) (v : s_samePlan_5.ty TT) : Res TT g_samePlan := loopG C_samePlan g_samePlan Go.Proofs.Tryz.f39 [] k (todoF Go.Proofs.Tryz.f39 5) (SS.st s_samePlan_5 0 v)
theorem F_samePlan_eq (a_ : List T99) (b : List T99) : F_samePlan ((), (), ()) (a_, b, ()) =
  (bif (((a_.length : Nat) : Int) != ((b.length : Nat) : Int)) then ⟨true, false, false, ((), (), ()), ()⟩ else (L_samePlan_5 (k_samePlan ((), (), ()) (a_, b, ())) (((), (), (0 : Int), ()), a_, b, ()))) := by kernel_rfl
theorem L_samePlan_5_eq (k : Nat) (i : Int) (a_ : List T99) (b : List T99) : L_samePlan_5 (k + 1) (((), (), i, ()), (a_, b, ())) =
  let x0 := (a_.getD i.toNat ((0 : Int), (0 : Int), (0 : Int), false, ()))
  let x1 := (b.getD i.toNat ((0 : Int), (0 : Int), (0 : Int), false, ()))
  let x2 := x0.2
  let x3 := x1.2
  let x4 := x2.2
  let x5 := x3.2
  let x6 := ((((decide (0 ≤ i) && decide (i < ((a_.length : Nat) : Int))) && (Nat.blt i.toNat a_.length)) && (decide (0 ≤ i) && decide (i < ((b.length : Nat) : Int)))) && (Nat.blt i.toNat b.length))
  let x7 := (L_samePlan_5 k (((), (), (IntKind.i64.wrap (i + 1)), ()), a_, b, ()))
  (bif decide (i < ((a_.length : Nat) : Int)) then (bif (!((x0.1 == x1.1) && ((x2.1 == x3.1) && ((x4.1 == x5.1) && (x4.2.1 == x5.2.1))))) then ⟨x6, false, false, ((), (), ()), ()⟩ else ⟨(x6 && x7.ok), x7.pan, x7.ret, x7.out, x7.pv⟩) else ⟨true, false, true, ((), (), ()), ()⟩) := by kernel_rfl
noncomputable def tbl59 : List (Ent TT) := ⟨39, g_samePlan, F_samePlan⟩ :: tbl58
theorem tbl59_ok : TblOK prog globs tbl59 := tbl_cons (by kernel_rfl) F_samePlan_ok tbl58_ok
noncomputable def C_sameLoan : Cx TT := cxB tbl59 Go.Proofs.Tryz.f16.ntmps [] [] [] []
noncomputable def k_sameLoan (a : g_sameLoan.args.ty) (h : tysO TT g_sameLoan.hp) : Nat := 0
noncomputable def F_sameLoan : g_sameLoan.args.ty → tysO TT g_sameLoan.hp → Res TT g_sameLoan := fun a h => bodyG C_sameLoan g_sameLoan Go.Proofs.Tryz.f16 [] (k_sameLoan a h) a h
theorem F_sameLoan_ok : FOK prog globs 16 g_sameLoan F_sameLoan :=
  bodyG_sound (cx := C_sameLoan) mix (cxB_ok tbl59_ok _ _ _ _ _) (f := 16) (fn := Go.Proofs.Tryz.f16) (by kernel_rfl) (by kernel_rfl) (by kernel_rfl) (by kernel_rfl) _
theorem F_sameLoan_eq (a_ : T36) (b : T36) (a__0 : List T99) (b_0 : List T99) : F_sameLoan (a_, b, ()) (a__0, b_0, ()) =
  let x0 := (!((a_.2.1.1 == b.2.1.1) && ((a_.2.1.2.1 == b.2.1.2.1) && ((a_.2.1.2.2.1 == b.2.1.2.2.1) && ((a_.2.1.2.2.2.1 == b.2.1.2.2.2.1) && ((a_.2.1.2.2.2.2.1 == b.2.1.2.2.2.2.1) && (a_.2.1.2.2.2.2.2.1 == b.2.1.2.2.2.2.2.1)))))))
  let x1 := a_.2.2.2.1.1.2.2.2.2.2.2
  let x2 := b.2.2.2.1.1.2.2.2.2.2.2
  let x3 := x1.2
  let x4 := x2.2
  let x5 := x3.2
  let x6 := x4.2
  let x7 := x5.2
  let x8 := x6.2
  let x9 := x7.2
  let x10 := x8.2
  let x11 := (!((a_.2.2.2.1.1.1 == b.2.2.2.1.1.1) && ((a_.2.2.2.1.1.2.1 == b.2.2.2.1.1.2.1) && ((a_.2.2.2.1.1.2.2.1 == b.2.2.2.1.1.2.2.1) && ((a_.2.2.2.1.1.2.2.2.1 == b.2.2.2.1.1.2.2.2.1) && ((a_.2.2.2.1.1.2.2.2.2.1 == b.2.2.2.1.1.2.2.2.2.1) && ((a_.2.2.2.1.1.2.2.2.2.2.1 == b.2.2.2.1.1.2.2.2.2.2.1) && ((x1.1 == x2.1) && ((x3.1 == x4.1) && ((x5.1 == x6.1) && ((x7.1 == x8.1) && ((x9.1 == x10.1) && (x9.2.1 == x10.2.1)))))))))))))
  let x12 := a_.2.2.2.2.1.2.2.2.2.2.2
  let x13 := b.2.2.2.2.1.2.2.2.2.2.2
  let x14 := x12.2
  let x15 := x13.2
  let x16 := x14.2
  let x17 := x15.2
  let x18 := x16.2
  let x19 := x17.2
  let x20 := x18.2
  let x21 := x19.2
  let x22 := x20.2
  let x23 := x21.2
  let x24 := x22.2
  let x25 := x23.2
  let x26 := x24.2
  let x27 := x25.2
  let x28 := (!((a_.2.2.2.2.1.1 == b.2.2.2.2.1.1) && ((a_.2.2.2.2.1.2.1 == b.2.2.2.2.1.2.1) && ((a_.2.2.2.2.1.2.2.1 == b.2.2.2.2.1.2.2.1) && ((a_.2.2.2.2.1.2.2.2.1 == b.2.2.2.2.1.2.2.2.1) && ((a_.2.2.2.2.1.2.2.2.2.1 == b.2.2.2.2.1.2.2.2.2.1) && ((a_.2.2.2.2.1.2.2.2.2.2.1 == b.2.2.2.2.1.2.2.2.2.2.1) && ((x12.1 == x13.1) && ((x14.1 == x15.1) && ((x16.1 == x17.1) && ((x18.1 == x19.1) && ((x20.1 == x21.1) && ((x22.1 == x23.1) && ((x24.1 == x25.1) && ((x26.1 == x27.1) && (x26.2.1 == x27.2.1))))))))))))))))
  let x29 := (bif (a_.1 != b.1) then true else (bif x0 then true else (bif x11 then true else (bif x28 then true else (F_samePlan ((), (), ()) (a__0, b_0, ())).ok))))
  let x30 := (a_.2.2.2.2.2.1 != b.2.2.2.2.2.1)
  let x31 := (a_.2.2.2.2.2.2.1 != b.2.2.2.2.2.2.1)
  let x32 := (a_.2.2.2.2.2.2.2.1 != b.2.2.2.2.2.2.2.1)
  let x33 := (bif x30 then x29 else (bif x31 then x29 else (bif x32 then x29 else x29)))
  let x34 := a_.2.2.2.2.2.2.2.2.1.2.2
  let x35 := b.2.2.2.2.2.2.2.2.1.2.2
  let x36 := x34.2
  let x37 := x35.2
  let x38 := ((a_.2.2.2.2.2.2.2.2.1.1 == b.2.2.2.2.2.2.2.2.1.1) && ((a_.2.2.2.2.2.2.2.2.1.2.1 == b.2.2.2.2.2.2.2.2.1.2.1) && ((x34.1 == x35.1) && ((x36.1 == x37.1) && (x36.2.1 == x37.2.1)))))
  let x39 := (a_.2.2.2.2.2.2.2.2.2.1 == b.2.2.2.2.2.2.2.2.2.1)
  (bif (bif (a_.1 != b.1) then true else (bif x0 then true else (bif x11 then true else (bif x28 then true else (!((F_samePlan ((), (), ()) (a__0, b_0, ())).ret : Bool)))))) then ⟨x29, false, false, ((), (), ()), ()⟩ else (bif (bif x30 then true else (bif x31 then true else (bif x32 then true else (a_.2.2.2.2.2.2.2.2.2.2.2.1 != b.2.2.2.2.2.2.2.2.2.2.2.1)))) then ⟨x33, false, false, ((), (), ()), ()⟩ else ⟨(bif x38 then (bif x39 then x33 else x33) else x33), false, (bif x38 then (bif x39 then (a_.2.2.2.2.2.2.2.2.2.2.1 == b.2.2.2.2.2.2.2.2.2.2.1) else false) else false), ((), (), ()), ()⟩)) := by kernel_rfl
noncomputable def tbl60 : List (Ent TT) := ⟨16, g_sameLoan, F_sameLoan⟩ :: tbl59
theorem tbl60_ok : TblOK prog globs tbl60 := tbl_cons (by kernel_rfl) F_sameLoan_ok tbl59_ok
noncomputable def C_same : Cx TT := cxB tbl60 Go.Proofs.Tryz.f6.ntmps [(5, s_same_5)] [] [] []
noncomputable def k_same (a : g_same.args.ty) (h : tysO TT g_same.hp) : Nat := h.2.1.length + 2
noncomputable def F_same : g_same.args.ty → tysO TT g_same.hp → Res TT g_same := fun a h => bodyG C_same g_same Go.Proofs.Tryz.f6 [] (k_same a h) a h
theorem F_same_ok : FOK prog globs 6 g_same F_same :=
  bodyG_sound (cx := C_same) mix (cxB_ok tbl60_ok _ _ _ _ _) (f := 6) (fn := Go.Proofs.Tryz.f6) (by kernel_rfl) (by kernel_rfl) (by kernel_rfl) (by kernel_rfl) _
noncomputable def L_same_5 (k : Nat) (v : s_same_5.ty TT) : Res TT g_same := loopG C_same g_same Go.Proofs.Tryz.f6 [] k (todoF Go.Proofs.Tryz.f6 5) (SS.st s_same_5 0 v)
theorem F_same_eq (a_ : T40) (b : T40) (a__0 : List T99) (a__1 : List T60) (b_0 : List T99) (b_1 : List T60) : F_same (a_, b, ()) (a__0, a__1, b_0, b_1, ()) =
  let x0 := (!((a_.2.1.1 == b.2.1.1) && ((a_.2.1.2.1 == b.2.1.2.1) && ((a_.2.1.2.2.1 == b.2.1.2.2.1) && ((a_.2.1.2.2.2.1 == b.2.1.2.2.2.1) && (a_.2.1.2.2.2.2.1 == b.2.1.2.2.2.2.1))))))
  let x1 := (F_sameLoan (a_.1, b.1, ()) (a__0, b_0, ()))
  let x2 := (bif (a_.2.2.2.1 != b.2.2.2.1) then true else (bif x0 then true else (bif (((a__1.length : Nat) : Int) != ((b_1.length : Nat) : Int)) then true else x1.ok)))
  let x3 := (L_same_5 (k_same (a_, b, ()) (a__0, a__1, b_0, b_1, ())) (((), (), (0 : Int), ()), a__0, a__1, b_0, b_1, a_, b, ()))
  (bif (bif (a_.2.2.2.1 != b.2.2.2.1) then true else (bif x0 then true else (bif (((a__1.length : Nat) : Int) != ((b_1.length : Nat) : Int)) then true else (!(x1.ret : Bool))))) then ⟨x2, false, false, ((), (), (), (), ()), ()⟩ else ⟨(x2 && x3.ok), x3.pan, x3.ret, x3.out, x3.pv⟩) := by kernel_rfl
theorem L_same_5_eq (k : Nat) (i : Int) (a__0 : List T99) (a__1 : List T60) (b_0 : List T99) (b_1 : List T60) (a_ : T40) (b : T40) : L_same_5 (k + 1) (((), (), i, ()), (a__0, a__1, b_0, b_1, a_, b, ())) =
  let x0 := (a__1.getD i.toNat ((0 : Int), (0 : Int), (0 : Int), (0 : Int), (0 : Int), false, ()))
  let x1 := (b_1.getD i.toNat ((0 : Int), (0 : Int), (0 : Int), (0 : Int), (0 : Int), false, ()))
  let x2 := x0.2
  let x3 := x1.2
  let x4 := x2.2
  let x5 := x3.2
  let x6 := x4.2
  let x7 := x5.2
  let x8 := x6.2
  let x9 := x7.2
  let x10 := ((((decide (0 ≤ i) && decide (i < ((a__1.length : Nat) : Int))) && (Nat.blt i.toNat a__1.length)) && (decide (0 ≤ i) && decide (i < ((b_1.length : Nat) : Int)))) && (Nat.blt i.toNat b_1.length))
  let x11 := (L_same_5 k (((), (), (IntKind.i64.wrap (i + 1)), ()), a__0, a__1, b_0, b_1, a_, b, ()))
  (bif decide (i < ((a__1.length : Nat) : Int)) then (bif (!((x0.1 == x1.1) && ((x2.1 == x3.1) && ((x4.1 == x5.1) && ((x6.1 == x7.1) && ((x8.1 == x9.1) && (x8.2.1 == x9.2.1))))))) then ⟨x10, false, false, ((), (), (), (), ()), ()⟩ else ⟨(x10 && x11.ok), x11.pan, x11.ret, x11.out, x11.pv⟩) else ⟨true, false, true, ((), (), (), (), ()), ()⟩) := by kernel_rfl
noncomputable def tbl61 : List (Ent TT) := ⟨6, g_same, F_same⟩ :: tbl60
theorem tbl61_ok : TblOK prog globs tbl61 := tbl_cons (by kernel_rfl) F_same_ok tbl60_ok
end Go.Proofs.YtklpneeakhbahaaGreatDoor.Fs
end
section
set_option linter.unusedVariables false
set_option maxRecDepth 100000
set_option linter.unusedSimpArgs false
namespace Go.Proofs.YtklpneeakhbahaaGreatDoor.Fs
open Go Go.Proofs.YtklpneeakhbahaaGreatDoor.Ls
noncomputable def C_loanOpens : Cx TT := cxB tbl61 Go.Proofs.Tryz.f3.ntmps [(8, s_loanOpens_8)] [] [] []
noncomputable def k_loanOpens (a : g_loanOpens.args.ty) (h : tysO TT g_loanOpens.hp) : Nat := h.1.length + 2
noncomputable def F_loanOpens : g_loanOpens.args.ty → tysO TT g_loanOpens.hp → Res TT g_loanOpens := fun a h => bodyG C_loanOpens g_loanOpens Go.Proofs.Tryz.f3 [] (k_loanOpens a h) a h
theorem F_loanOpens_ok : FOK prog globs 3 g_loanOpens F_loanOpens :=
  bodyG_sound (cx := C_loanOpens) mix (cxB_ok tbl61_ok _ _ _ _ _) (f := 3) (fn := Go.Proofs.Tryz.f3) (by kernel_rfl) (by kernel_rfl) (by kernel_rfl) (by kernel_rfl) _
noncomputable def L_loanOpens_8 (k : Nat) (v : s_loanOpens_8.ty TT) : Res TT g_loanOpens := loopG C_loanOpens g_loanOpens Go.Proofs.Tryz.f3 [] k (todoF Go.Proofs.Tryz.f3 8) (SS.st s_loanOpens_8 0 v)
theorem F_loanOpens_eq (p : T23) (id : Int) (t : T25) (p_0 : List Int) : F_loanOpens (p, id, t, ()) (p_0, ()) =
  let x0 := (((((F_own (p, ()) (p_0, ())).ret : Int × Int × Int × Int × Int × Int × Int × Int × Int × Int × Int × Int × Int × Int × Int × Int × Int × (Nat × Nat × Nat) × Unit).2).2).2).2
  let x1 := x0.2
  let x2 := x1.2
  let x3 := x2.2
  let x4 := x3.2
  let x5 := x4.2
  let x6 := x5.2
  let x7 := x6.2
  let x8 := x7.2
  let x9 := x8.2
  let x10 := x9.2
  let x11 := x10.2
  let x12 := x11.2
  let x13 := x12.2.1
  let x14 := (F_open ((((F_own (p, ()) (p_0, ())).ret : Int × Int × Int × Int × Int × Int × Int × Int × Int × Int × Int × Int × Int × Int × Int × Int × Int × (Nat × Nat × Nat) × Unit).1, (((F_own (p, ()) (p_0, ())).ret : Int × Int × Int × Int × Int × Int × Int × Int × Int × Int × Int × Int × Int × Int × Int × Int × Int × (Nat × Nat × Nat) × Unit).2).1, ((((F_own (p, ()) (p_0, ())).ret : Int × Int × Int × Int × Int × Int × Int × Int × Int × Int × Int × Int × Int × Int × Int × Int × Int × (Nat × Nat × Nat) × Unit).2).2).1, (((((F_own (p, ()) (p_0, ())).ret : Int × Int × Int × Int × Int × Int × Int × Int × Int × Int × Int × Int × Int × Int × Int × Int × Int × (Nat × Nat × Nat) × Unit).2).2).2).1, x0.1, x1.1, x2.1, x3.1, x4.1, x5.1, x6.1, x7.1, x8.1, x9.1, x10.1, x11.1, x12.1, (), ()), id, t, ()) (((((((F_own (p, ()) (p_0, ())).out : Unit × (List Int) × Unit).2).1).drop x13.1).take x13.2.1), ()))
  let x15 := (x14.out : Unit × (List (Int × Int × Int × Bool × Unit)) × (List (Int × Int × Int × Int × Int × Bool × Unit)) × Unit).2
  let x16 := (F_same ((x14.ret : (Int × (Int × Int × Int × Int × Int × Int × Unit) × Unit × ((Int × Int × Int × Int × Int × Int × Int × Int × Int × Int × Int × Int × Unit) × Unit) × (Int × Bool × Int × Int × Int × Int × Int × Int × Int × Int × Int × Int × Int × Int × Int × Unit) × Int × Int × Int × (Int × Int × Int × Int × Int × Unit) × Bool × Int × Int × Unit) × (Int × Int × Int × Int × Int × Unit) × Unit × Int × Unit), ((F_rOpen (p, id, t, ()) (p_0, ())).ret : (Int × (Int × Int × Int × Int × Int × Int × Unit) × Unit × ((Int × Int × Int × Int × Int × Int × Int × Int × Int × Int × Int × Int × Unit) × Unit) × (Int × Bool × Int × Int × Int × Int × Int × Int × Int × Int × Int × Int × Int × Int × Int × Unit) × Int × Int × Int × (Int × Int × Int × Int × Int × Unit) × Bool × Int × Int × Unit) × (Int × Int × Int × Int × Int × Unit) × Unit × Int × Unit), ()) (x15.1, x15.2.1, ((F_rOpen (p, id, t, ()) (p_0, ())).out : Unit × (List (Int × Int × Int × Bool × Unit)) × (List (Int × Int × Int × Int × Int × Bool × Unit)) × Unit).2))
  let x17 := (!(x16.ret : Bool))
  let x18 := (F_leftAlone (((F_own (p, ()) (p_0, ())).ret : Int × Int × Int × Int × Int × Int × Int × Int × Int × Int × Int × Int × Int × Int × Int × Int × Int × (Nat × Nat × Nat) × Unit), p, ()) (p_0, ((F_own (p, ()) (p_0, ())).out : Unit × (List Int) × Unit).2))
  let x19 := ((((F_own (p, ()) (p_0, ())).ok && x14.ok) && (F_rOpen (p, id, t, ()) (p_0, ())).ok) && x16.ok)
  let x20 := (bif x17 then x19 else (x19 && x18.ok))
  let x21 := (L_loanOpens_8 (k_loanOpens (p, id, t, ()) (p_0, ())) ((id, (), (), (), (), (0 : Int), ()), p_0, p, t, ((F_own (p, ()) (p_0, ())).ret : Int × Int × Int × Int × Int × Int × Int × Int × Int × Int × Int × Int × Int × Int × Int × Int × Int × (Nat × Nat × Nat) × Unit), ((F_own (p, ()) (p_0, ())).ret : Int × Int × Int × Int × Int × Int × Int × Int × Int × Int × Int × Int × Int × Int × Int × Int × Int × (Nat × Nat × Nat) × Unit), (((F_own (p, ()) (p_0, ())).out : Unit × (List Int) × Unit).2).1, ((F_own (p, ()) (p_0, ())).out : Unit × (List Int) × Unit).2))
  (bif (bif x17 then true else (!(x18.ret : Bool))) then ⟨x20, false, false, ((), ()), ()⟩ else ⟨((x20 && (F_own (p, ()) (p_0, ())).ok) && x21.ok), x21.pan, x21.ret, x21.out, x21.pv⟩) := by kernel_rfl
theorem L_loanOpens_8_eq (k : Nat) (id : Int) (i : Int) (p_0 : List Int) (p : T23) (t : T25) (q : (Int × Int × Int × Int × Int × Int × Int × Int × Int × Int × Int × Int × Int × Int × Int × Int × Int × (Nat × Nat × Nat) × Unit)) (other : (Int × Int × Int × Int × Int × Int × Int × Int × Int × Int × Int × Int × Int × Int × Int × Int × Int × (Nat × Nat × Nat) × Unit)) (q_r : List Int) (other_r : List Int) : L_loanOpens_8 (k + 1) ((id, (), (), (), (), i, ()), (p_0, p, t, q, other, q_r, other_r, ())) =
  let x0 := q.2.2.2.2.2.2.2.2.2.2.2
  let x1 := x0.2
  let x2 := x1.2
  let x3 := x2.2
  let x4 := x3.2
  let x5 := x4.2
  let x6 := x5.2.1
  let x7 := x6.2.1
  let x8 := (decide (0 ≤ i) && decide (i < ((x7 : Nat) : Int)))
  let x9 := x6.1
  let x10 := (x9 + i.toNat)
  let x11 := (q_r.set x10 (IntKind.i64.wrap ((IntKind.i64.wrap (((((p_0.getD i.toNat (0 : Int)) % (((2 ^ 64) : Nat) : Int)).toNat &&& (16777215 % (((2 ^ 64) : Nat) : Int)).toNat) : Nat) : Int)) + 1)))
  let x12 := other.2.2.2.2.2.2.2.2.2.2.2
  let x13 := x12.2
  let x14 := x13.2
  let x15 := x14.2
  let x16 := x15.2
  let x17 := x16.2
  let x18 := x17.2.1
  let x19 := x18.2.1
  let x20 := x18.1
  let x21 := (x20 + i.toNat)
  let x22 := (L_loanOpens_8 k ((id, (), (), (), (), (IntKind.i64.wrap (i + 1)), ()), p_0, p, t, q, other, x11, (other_r.set x21 (x11.getD x10 (0 : Int))), ()))
  let x23 := (F_open ((q.1, q.2.1, q.2.2.1, q.2.2.2.1, q.2.2.2.2.1, q.2.2.2.2.2.1, q.2.2.2.2.2.2.1, q.2.2.2.2.2.2.2.1, q.2.2.2.2.2.2.2.2.1, q.2.2.2.2.2.2.2.2.2.1, q.2.2.2.2.2.2.2.2.2.2.1, x0.1, x1.1, x2.1, x3.1, x4.1, x5.1, (), ()), id, t, ()) (((q_r.drop x9).take x7), ()))
  let x24 := ((other_r.drop x20).take x19)
  let x25 := (F_rOpen ((other.1, other.2.1, other.2.2.1, other.2.2.2.1, other.2.2.2.2.1, other.2.2.2.2.2.1, other.2.2.2.2.2.2.1, other.2.2.2.2.2.2.2.1, other.2.2.2.2.2.2.2.2.1, other.2.2.2.2.2.2.2.2.2.1, other.2.2.2.2.2.2.2.2.2.2.1, x12.1, x13.1, x14.1, x15.1, x16.1, x17.1, (), ()), id, t, ()) (x24, ()))
  let x26 := (x23.out : Unit × (List (Int × Int × Int × Bool × Unit)) × (List (Int × Int × Int × Int × Int × Bool × Unit)) × Unit).2
  let x27 := (F_same ((x23.ret : (Int × (Int × Int × Int × Int × Int × Int × Unit) × Unit × ((Int × Int × Int × Int × Int × Int × Int × Int × Int × Int × Int × Int × Unit) × Unit) × (Int × Bool × Int × Int × Int × Int × Int × Int × Int × Int × Int × Int × Int × Int × Int × Unit) × Int × Int × Int × (Int × Int × Int × Int × Int × Unit) × Bool × Int × Int × Unit) × (Int × Int × Int × Int × Int × Unit) × Unit × Int × Unit), (x25.ret : (Int × (Int × Int × Int × Int × Int × Int × Unit) × Unit × ((Int × Int × Int × Int × Int × Int × Int × Int × Int × Int × Int × Int × Unit) × Unit) × (Int × Bool × Int × Int × Int × Int × Int × Int × Int × Int × Int × Int × Int × Int × Int × Unit) × Int × Int × Int × (Int × Int × Int × Int × Int × Unit) × Bool × Int × Int × Unit) × (Int × Int × Int × Int × Int × Unit) × Unit × Int × Unit), ()) (x26.1, x26.2.1, (x25.out : Unit × (List (Int × Int × Int × Bool × Unit)) × (List (Int × Int × Int × Int × Int × Bool × Unit)) × Unit).2))
  let x28 := (x27.ret : Bool)
  let x29 := ((x23.ok && x25.ok) && x27.ok)
  let x30 := (F_leftAlone (q, (other.1, other.2.1, other.2.2.1, other.2.2.2.1, other.2.2.2.2.1, other.2.2.2.2.2.1, other.2.2.2.2.2.2.1, other.2.2.2.2.2.2.2.1, other.2.2.2.2.2.2.2.2.1, other.2.2.2.2.2.2.2.2.2.1, other.2.2.2.2.2.2.2.2.2.2.1, x12.1, x13.1, x14.1, x15.1, x16.1, x17.1, (), ()), ()) (x24, q_r, ()))
  (bif decide (i < ((p_0.length : Nat) : Int)) then ⟨(((((((((decide (0 ≤ i) && decide (i < ((p_0.length : Nat) : Int))) && (Nat.blt i.toNat p_0.length)) && x8) && (Nat.blt x10 q_r.length)) && x8) && (Nat.blt x10 x11.length)) && (decide (0 ≤ i) && decide (i < ((x19 : Nat) : Int)))) && (Nat.blt x21 other_r.length)) && x22.ok), x22.pan, x22.ret, x22.out, x22.pv⟩ else ⟨(bif x28 then (x29 && x30.ok) else x29), false, (bif x28 then (x30.ret : Bool) else false), ((), ()), ()⟩) := by kernel_rfl
end Go.Proofs.YtklpneeakhbahaaGreatDoor.Fs
end
section
set_option linter.unusedVariables false
set_option linter.unusedSimpArgs false
namespace Go.Proofs.YtklpneeakhbahaaGreatDoor.Fs
open Go Go.Proofs.YtklpneeakhbahaaGreatDoor.Ls P
theorem mul64 {x y : Int} (hx : 0 ≤ x) (hx2 : x ≤ 18446744073709551615) (hy : 0 ≤ y) (hy2 : y < 4294967296) (h : x * y ≤ 18446744073709551615) :
    F_mul64 (x, y, ()) () = ⟨true, false, ((0 : Int), x * y, ()), (), ()⟩ := by
  rw [F_mul64_eq]
  have hy0 : y % 4294967296 = y := by omega
  have hy1 : y / 4294967296 = 0 := by omega
  have hxy : 0 ≤ x * y := Int.mul_nonneg hx hy
  simp only [m32 hy (by omega), m32 hx hx2, fd32, hy0, hy1]
  have hX0 : 0 ≤ x % 4294967296 := by omega
  have hX1 : 0 ≤ x / 4294967296 := by omega
  have hA : 0 ≤ (x / 4294967296) * y := Int.mul_nonneg hX1 hy
  have hB : 0 ≤ (x % 4294967296) * y := Int.mul_nonneg hX0 hy
  have hS : x * y = (x / 4294967296) * y * 4294967296 + (x % 4294967296) * y := by
    have : x = (x / 4294967296) * 4294967296 + x % 4294967296 := by omega
    calc x * y = ((x / 4294967296) * 4294967296 + x % 4294967296) * y := by rw [← this]
      _ = _ := by rw [Int.add_mul, Int.mul_right_comm]
  generalize hAe : (x / 4294967296) * y = A at *
  generalize hBe : (x % 4294967296) * y = B at *
  generalize hPe : x * y = Q at *
  have w1 : IntKind.u64.wrap A = A := wu64 hA (by omega)
  have w2 : IntKind.u64.wrap B = B := wu64 hB (by omega)
  have w3 : IntKind.u64.wrap (A + B / 4294967296) = A + B / 4294967296 := wu64 (by omega) (by omega)
  have w0 : IntKind.u64.wrap 0 = 0 := wu64 (by omega) (by omega)
  simp only [w1, w2, w3, Int.mul_zero, w0, m32 (show 0 ≤ A + B / 4294967296 by omega) (by omega)]
  have z1 : (A + B / 4294967296) / 4294967296 = 0 := by omega
  have z2 : IntKind.u64.wrap ((A + B / 4294967296) % 4294967296) = (A + B / 4294967296) % 4294967296 := wu64 (by omega) (by omega)
  have z3 : (A + B / 4294967296) % 4294967296 / 4294967296 = 0 := by omega
  simp only [z1, z2, z3, Int.add_zero, Int.zero_add, w0, wu64 hxy h]
theorem div64 {lo y : Int} (hlo : 0 ≤ lo) (hlo2 : lo ≤ 18446744073709551615) (hy : 0 < y) : F_div64 (0, lo, y, ()) () = ⟨true, false, (lo / y, lo % y, ()), (), ()⟩ := by
  rw [F_div64_eq]
  have e1 : (y == 0) = false := by simp; omega
  have e2 : decide (y ≤ 0) = false := by simp; omega
  have e3 : (y != 0) = true := by simp; omega
  have e4 : ((0 : Int) == 0) = true := rfl
  have h1 : lo.tdiv y = lo / y := Int.tdiv_eq_ediv_of_nonneg hlo
  have h2 : lo.tmod y = lo % y := Int.tmod_eq_emod_of_nonneg hlo
  have h3 : lo / y ≤ lo := Int.ediv_le_self _ hlo
  have h4 : 0 ≤ lo / y := Int.ediv_nonneg hlo (by omega)
  simp only [e1, e2, e3, e4, h1, h2, cond_true, cond_false, Bool.and_true]
  rw [wu64 h4 (by omega)]
theorem withSign_pos {m : Int} (h : m ≤ 9223372036854775807) (h0 : 0 ≤ m) : F_withSign (false, m, ()) () = ⟨true, false, (m, true, ()), (), ()⟩ := by
  rw [F_withSign_eq]
  have : decide (m > 9223372036854775807) = false := by simp; omega
  simp only [this, cond_false]
  rw [w64 (by omega) h]
end Go.Proofs.YtklpneeakhbahaaGreatDoor.Fs
end
section
set_option linter.unusedVariables false
set_option linter.unusedSimpArgs false
namespace Go.Proofs.YtklpneeakhbahaaGreatDoor.Fs
open Go Go.Proofs.YtklpneeakhbahaaGreatDoor.Ls P
def mP (b r : Int) : Int :=
  if 60000 < b * r % 120000 ∨ (b * r % 120000 = 60000 ∧ b * r / 120000 % 2 = 1) then b * r / 120000 + 1 else b * r / 120000
theorem bit1 {q : Int} (h1 : 0 ≤ q) (h2 : q ≤ 18446744073709551615) : IntKind.u64.wrap ((((q % (((2 ^ 64) : Nat) : Int)).toNat &&& (1 % (((2 ^ 64) : Nat) : Int)).toNat) : Nat) : Int) = q % 2 := by
  have e0 : (((2 ^ 64) : Nat) : Int) = 18446744073709551616 := by rfl
  have e1 : q % (((2 ^ 64) : Nat) : Int) = q := by rw [e0]; omega
  have e2 : (1 % (((2 ^ 64) : Nat) : Int)).toNat = 1 := by rfl
  rw [e1, e2, Nat.and_one_is_mod]
  have e3 : ((q.toNat % 2 : Nat) : Int) = q % 2 := by omega
  rw [e3]
  exact wu64 (by omega) (by omega)
theorem month {b r : Int} (hb : 0 ≤ b) (hb2 : b ≤ 10000000000000) (hr : 0 ≤ r) (hr2 : r ≤ 100000) : F_month (b, r, ()) () = ⟨true, false, (mP b r, true, ()), (), ()⟩ := by
  have hp0 : 0 ≤ b * r := Int.mul_nonneg hb hr
  have hp1 : b * r ≤ 10000000000000 * 100000 := Int.mul_le_mul hb2 hr2 hr (by omega)
  have n1 : decide (b < 0) = false := by simp; omega
  have n2 : decide (r ≥ 0) = true := by simp; omega
  have n3 : decide (r ≤ 100000) = true := by simp; omega
  have n4 : decide (r < 0) = false := by simp; omega
  have n5 : decide ((120000 : Int) < 0) = false := rfl
  have wb : IntKind.u64.wrap b = b := wu64 hb (by omega)
  have wr : IntKind.u64.wrap r = r := wu64 hr (by omega)
  have wc : IntKind.u64.wrap 120000 = 120000 := wu64 (by omega) (by omega)
  have hmul := mul64 hb (by omega) hr (by omega) (show b * r ≤ 18446744073709551615 by omega)
  have hdiv := div64 hp0 (show b * r ≤ 18446744073709551615 by omega) (show (0 : Int) < 120000 by omega)
  have key : F_mulDiv (b, r, (120000 : Int), ()) () = ⟨true, false, (mP b r, true, ()), (), ()⟩ := by
    rw [F_mulDiv_eq]
    simp only [n1, n4, n5, cond_true, cond_false, wb, wr, wc, hmul, hdiv]
    have e1 : ((120000 : Int) == 0) = false := rfl
    have e2 : decide ((0 : Int) ≥ 120000) = false := rfl
    have e3 : (!(!false == false) == false) = false := rfl
    unfold mP
    generalize hQ : b * r / 120000 = q
    generalize hM : b * r % 120000 = m
    have hq0 : 0 ≤ q := by omega
    have hq1 : q ≤ 10000000000000 := by omega
    have hm0 : 0 ≤ m := by omega
    have hm1 : m < 120000 := by omega
    have w1 : IntKind.u64.wrap (120000 - m) = 120000 - m := wu64 (by omega) (by omega)
    have w2 : IntKind.u64.wrap (q + 1) = q + 1 := wu64 (by omega) (by omega)
    have e4 : (q + 1 == 0) = false := by simp; omega
    simp only [e1, e2, e3, cond_true, cond_false, w1, w2, bit1 hq0 (by omega), e4, Bool.and_true, Bool.true_and]
    rw [withSign_pos (by omega) (by omega), withSign_pos (by omega) (by omega)]
    by_cases c1 : m > 120000 - m
    · have d1 : decide (m > 120000 - m) = true := by simpa using c1
      simp only [d1, cond_true]
      rw [if_pos (by omega)]
      simp
    · have d1 : decide (m > 120000 - m) = false := by simpa using c1
      simp only [d1, cond_false]
      by_cases c2 : m = 120000 - m
      · have d2 : (m == 120000 - m) = true := by simpa using c2
        simp only [d2, cond_true]
        by_cases c3 : q % 2 = 1
        · have d3 : (q % 2 == 1) = true := by simpa using c3
          simp only [d3, cond_true]
          rw [if_pos (by omega)]
          simp
        · have d3 : (q % 2 == 1) = false := by simpa using c3
          simp only [d3, cond_false]
          rw [if_neg (by omega)]
          simp
      · have d2 : (m == 120000 - m) = false := by simpa using c2
        simp only [d2, cond_false]
        rw [if_neg (by omega)]
        simp
  rw [F_month_eq]
  simp only [n1, n2, n3, cond_true, cond_false, key, Bool.and_true, Bool.not_true]
end Go.Proofs.YtklpneeakhbahaaGreatDoor.Fs
namespace Go.Proofs.YtklpneeakhbahaaGreatDoor.Fs
open Go Go.Proofs.YtklpneeakhbahaaGreatDoor.Ls P
theorem rmonth {b r : Int} (hb : 0 ≤ b) (hb2 : b ≤ 10000000000000) (hr : 0 ≤ r) (hr2 : r ≤ 100000) : F_rmonth (b, r, ()) () = ⟨true, false, mP b r, (), ()⟩ := by
  have hp0 : 0 ≤ b * r := Int.mul_nonneg hb hr
  have t1 : b.tmod 120000 = b % 120000 := Int.tmod_eq_emod_of_nonneg hb
  have t2 : b.tdiv 120000 = b / 120000 := Int.tdiv_eq_ediv_of_nonneg hb
  rw [F_rmonth_eq, t1, t2]
  have hA : 0 ≤ b / 120000 * r := Int.mul_nonneg (by omega) hr
  have hB : 0 ≤ b % 120000 * r := Int.mul_nonneg (by omega) hr
  have hA2 : b / 120000 * r ≤ 100000000 * 100000 := Int.mul_le_mul (by omega) hr2 hr (by omega)
  have hB2 : b % 120000 * r ≤ 120000 * 100000 := Int.mul_le_mul (by omega) hr2 hr (by omega)
  have hS : b * r = b / 120000 * r * 120000 + b % 120000 * r := by
    have : b = (b / 120000) * 120000 + b % 120000 := by omega
    calc b * r = ((b / 120000) * 120000 + b % 120000) * r := by rw [← this]
      _ = _ := by rw [Int.add_mul, Int.mul_right_comm]
  have w0 : IntKind.i64.wrap (b / 120000) = b / 120000 := w64 (by omega) (by omega)
  simp only [w0]
  unfold mP
  generalize b / 120000 * r = A at *
  generalize b % 120000 * r = B at *
  generalize b * r = Q at *
  have w1 : IntKind.i64.wrap A = A := w64 (by omega) (by omega)
  have w2 : IntKind.i64.wrap B = B := w64 (by omega) (by omega)
  have t3 : B.tmod 120000 = B % 120000 := Int.tmod_eq_emod_of_nonneg hB
  have t4 : B.tdiv 120000 = B / 120000 := Int.tdiv_eq_ediv_of_nonneg hB
  have w3 : IntKind.i64.wrap (B / 120000) = B / 120000 := w64 (by omega) (by omega)
  have w4 : IntKind.i64.wrap (A + B / 120000) = A + B / 120000 := w64 (by omega) (by omega)
  have w5 : IntKind.i64.wrap (2 * (B % 120000)) = 2 * (B % 120000) := w64 (by omega) (by omega)
  have w6 : IntKind.i64.wrap (A + B / 120000 + 1) = A + B / 120000 + 1 := w64 (by omega) (by omega)
  have t5 : (A + B / 120000).tmod 2 = (A + B / 120000) % 2 := Int.tmod_eq_emod_of_nonneg (by omega)
  have q1 : Q % 120000 = B % 120000 := by omega
  have q2 : Q / 120000 = A + B / 120000 := by omega
  simp only [w1, w2, t3, t4, w3, w4, w5, w6, t5, q1, q2]
  by_cases c1 : 2 * (B % 120000) > 120000
  · have d1 : decide (2 * (B % 120000) > 120000) = true := by simpa using c1
    simp only [d1, cond_true]
    rw [if_pos (by omega)]
  · have d1 : decide (2 * (B % 120000) > 120000) = false := by simpa using c1
    simp only [d1, cond_false]
    by_cases c2 : 2 * (B % 120000) = 120000
    · have d2 : (2 * (B % 120000) == 120000) = true := by simpa using c2
      simp only [d2, cond_true]
      by_cases c3 : (A + B / 120000) % 2 = 1
      · have d3 : ((A + B / 120000) % 2 == 1) = true := by simpa using c3
        simp only [d3, cond_true]
        rw [if_pos (by omega)]
      · have d3 : ((A + B / 120000) % 2 == 1) = false := by simpa using c3
        simp only [d3, cond_false]
        rw [if_neg (by omega)]
    · have d2 : (2 * (B % 120000) == 120000) = false := by simpa using c2
      simp only [d2, cond_false]
      rw [if_neg (by omega)]
end Go.Proofs.YtklpneeakhbahaaGreatDoor.Fs
end
section
set_option linter.unusedVariables false
set_option linter.unusedSimpArgs false
namespace Go.Proofs.YtklpneeakhbahaaGreatDoor.Fs
open Go Go.Proofs.YtklpneeakhbahaaGreatDoor.Ls P
theorem mP_nonneg {b r : Int} (hb : 0 ≤ b) (hr : 0 ≤ r) : 0 ≤ mP b r := by
  have := Int.mul_nonneg hb hr
  unfold mP; split <;> omega
theorem mP_le {b r : Int} (hb : 0 ≤ b) (hb2 : b ≤ 10000000000000) (hr : 0 ≤ r) (hr2 : r ≤ 100000) : mP b r ≤ 10000000000000 := by
  have : b * r ≤ 10000000000000 * 100000 := Int.mul_le_mul hb2 hr2 hr (by omega)
  unfold mP; split <;> omega
def payP : Nat → Int → Int → Int → Bool
  | 0, _, _, _ => false
  | n + 1, p, b, r => if p ≤ mP b r then false else if b ≤ p - mP b r then true else payP n p (b - (p - mP b r)) r
theorem L_pays {r t11 : Int} (hr : 0 ≤ r) (hr2 : r ≤ 100000) (ht2 : t11 ≤ 1000000) {p : Int} (hp : 0 ≤ p) (hp2 : p ≤ 9223372036854775807) :
    ∀ (n k : Nat) (b t12 : Int), n < k → 0 ≤ t12 → t11 - t12 = n → 0 ≤ b → b ≤ 10000000000000 → L_pays_3 k ((p, b, r, t11, t12, ()), ()) = ⟨true, false, payP n p b r, (), ()⟩
  | n, 0, b, t12, hk, _, _, _, _ => by omega
  | 0, k + 1, b, t12, hk, h0, h1, hb, hb2 => by
    rw [L_pays_3_eq]
    have : decide (t12 < t11) = false := by simp; omega
    simp only [this, cond_false]
    rfl
  | n + 1, k + 1, b, t12, hk, h0, h1, hb, hb2 => by
    rw [L_pays_3_eq]
    have d0 : decide (t12 < t11) = true := by simp; omega
    have hm := month hb hb2 hr hr2
    have g1 := mP_nonneg hb hr
    have g2 := mP_le hb hb2 hr hr2
    simp only [hm, d0, cond_true]
    have w1 : IntKind.i64.wrap (p - mP b r) = p - mP b r := w64 (by omega) (by omega)
    have w3 : IntKind.i64.wrap (t12 + 1) = t12 + 1 := w64 (by omega) (by omega)
    simp only [w1, w3, payP]
    by_cases c1 : p ≤ mP b r
    · have d1 : decide (p ≤ mP b r) = true := by simpa using c1
      simp only [d1, cond_true]; rw [if_pos c1]
    · have d1 : decide (p ≤ mP b r) = false := by simpa using c1
      simp only [d1, cond_false]; rw [if_neg c1]
      by_cases c2 : b ≤ p - mP b r
      · have d2 : decide (b ≤ p - mP b r) = true := by simpa using c2
        simp only [d2, cond_true]; rw [if_pos c2]
      · have d2 : decide (b ≤ p - mP b r) = false := by simpa using c2
        have w2 : IntKind.i64.wrap (b - (p - mP b r)) = b - (p - mP b r) := w64 (by omega) (by omega)
        simp only [d2, cond_false, w2]; rw [if_neg c2]
        rw [L_pays hr hr2 ht2 hp hp2 n k (b - (p - mP b r)) (t12 + 1) (by omega) (by omega) (by omega) (by omega) (by omega)]
        rfl
end Go.Proofs.YtklpneeakhbahaaGreatDoor.Fs
namespace Go.Proofs.YtklpneeakhbahaaGreatDoor.Fs
open Go Go.Proofs.YtklpneeakhbahaaGreatDoor.Ls P
theorem L_paysOff {r t11 : Int} (hr : 0 ≤ r) (hr2 : r ≤ 100000) (ht2 : t11 ≤ 1000000) {p : Int} (hp : 0 ≤ p) (hp2 : p ≤ 9223372036854775807) :
    ∀ (n k : Nat) (b t12 : Int), n < k → 0 ≤ t12 → t11 - t12 = n → 0 ≤ b → b ≤ 10000000000000 → L_paysOff_3 k ((p, b, r, t11, t12, ()), ()) = ⟨true, false, payP n p b r, (), ()⟩
  | n, 0, b, t12, hk, _, _, _, _ => by omega
  | 0, k + 1, b, t12, hk, h0, h1, hb, hb2 => by
    rw [L_paysOff_3_eq]
    have : decide (t12 < t11) = false := by simp; omega
    simp only [this, cond_false]
    rfl
  | n + 1, k + 1, b, t12, hk, h0, h1, hb, hb2 => by
    rw [L_paysOff_3_eq]
    have d0 : decide (t12 < t11) = true := by simp; omega
    have hm := rmonth hb hb2 hr hr2
    have g1 := mP_nonneg hb hr
    have g2 := mP_le hb hb2 hr hr2
    simp only [hm, d0, cond_true]
    have w1 : IntKind.i64.wrap (p - mP b r) = p - mP b r := w64 (by omega) (by omega)
    have w3 : IntKind.i64.wrap (t12 + 1) = t12 + 1 := w64 (by omega) (by omega)
    simp only [w1, w3, payP]
    by_cases c1 : p ≤ mP b r
    · have d1 : decide (p ≤ mP b r) = true := by simpa using c1
      simp only [d1, cond_true]; rw [if_pos c1]
    · have d1 : decide (p ≤ mP b r) = false := by simpa using c1
      simp only [d1, cond_false]; rw [if_neg c1]
      by_cases c2 : b ≤ p - mP b r
      · have d2 : decide (p - mP b r ≥ b) = true := by simpa using c2
        simp only [d2, cond_true]; rw [if_pos c2]
      · have d2 : decide (p - mP b r ≥ b) = false := by simpa using c2
        have w2 : IntKind.i64.wrap (b - (p - mP b r)) = b - (p - mP b r) := w64 (by omega) (by omega)
        simp only [d2, cond_false, w2]; rw [if_neg c2]
        rw [L_paysOff hr hr2 ht2 hp hp2 n k (b - (p - mP b r)) (t12 + 1) (by omega) (by omega) (by omega) (by omega) (by omega)]
        rfl
end Go.Proofs.YtklpneeakhbahaaGreatDoor.Fs
namespace Go.Proofs.YtklpneeakhbahaaGreatDoor.Fs
open Go Go.Proofs.YtklpneeakhbahaaGreatDoor.Ls P
theorem pays {p b r c : Int} (hp : 0 ≤ p) (hp2 : p ≤ 9223372036854775807) (hb : 0 ≤ b) (hb2 : b ≤ 10000000000000) (hr : 0 ≤ r) (hr2 : r ≤ 100000) (hc : 0 ≤ c) (hc2 : c ≤ 1000000) :
    F_pays (p, b, r, c, ()) () = ⟨true, false, payP c.toNat p b r, (), ()⟩ := by
  rw [F_pays_eq]
  exact L_pays hr hr2 hc2 hp hp2 c.toNat _ b 0 (by show c.toNat < c.toNat + 2; omega) (by omega) (by omega) hb hb2
theorem paysOff {p b r c : Int} (hp : 0 ≤ p) (hp2 : p ≤ 9223372036854775807) (hb : 0 ≤ b) (hb2 : b ≤ 10000000000000) (hr : 0 ≤ r) (hr2 : r ≤ 100000) (hc : 0 ≤ c) (hc2 : c ≤ 1000000) :
    F_paysOff (p, b, r, c, ()) () = ⟨true, false, payP c.toNat p b r, (), ()⟩ := by
  rw [F_paysOff_eq]
  exact L_paysOff hr hr2 hc2 hp hp2 c.toNat _ b 0 (by show c.toNat < c.toNat + 2; omega) (by omega) (by omega) hb hb2
end Go.Proofs.YtklpneeakhbahaaGreatDoor.Fs
end
section
set_option linter.unusedVariables false
set_option linter.unusedSimpArgs false
namespace Go.Proofs.YtklpneeakhbahaaGreatDoor.Fs
open Go Go.Proofs.YtklpneeakhbahaaGreatDoor.Ls P
theorem mP_mono {b b' r : Int} (hr : 0 ≤ r) (h : b' ≤ b) : mP b' r ≤ mP b r := by
  have : b' * r ≤ b * r := Int.mul_le_mul_of_nonneg_right h hr
  unfold mP
  generalize b' * r = x at *
  generalize b * r = y at *
  split <;> split <;> omega
theorem payP_mono {r : Int} (hr : 0 ≤ r) : ∀ (n : Nat) {p p' b b' : Int}, p ≤ p' → b' ≤ b → payP n p b r = true → payP n p' b' r = true
  | 0, p, p', b, b', _, _, h => by simp [payP] at h
  | n + 1, p, p', b, b', h1, h2, h => by
    have hm := mP_mono hr h2
    unfold payP at h ⊢
    split at h
    · cases h
    · rename_i c1
      rw [if_neg (by omega)]
      split at h
      · rename_i c2
        rw [if_pos (by omega)]
      · rename_i c2
        split
        · rfl
        · rename_i c3
          exact payP_mono hr n h1 (by omega) h
end Go.Proofs.YtklpneeakhbahaaGreatDoor.Fs
end
section
set_option linter.unusedVariables false
set_option linter.unusedSimpArgs false
namespace Go.Proofs.YtklpneeakhbahaaGreatDoor.Fs
open Go Go.Proofs.YtklpneeakhbahaaGreatDoor.Ls P
def isLeast (n : Nat) (b r v : Int) : Prop := 1 ≤ v ∧ v ≤ 9223372036854775807 ∧ payP n v b r = true ∧ ∀ u, 1 ≤ u → u < v → payP n u b r = false
theorem L_least {b r c : Int} (hb : 0 ≤ b) (hb2 : b ≤ 10000000000000) (hr : 0 ≤ r) (hr2 : r ≤ 100000) (hc : 0 ≤ c) (hc2 : c ≤ 1000000) :
    ∀ (m k : Nat) (low high : Int), m < k → 1 ≤ low → low ≤ high → high ≤ 9223372036854775807 → high - low < 2 ^ m → payP c.toNat high b r = true → (∀ u, 1 ≤ u → u < low → payP c.toNat u b r = false) →
    ∃ v, L_least_2 k ((low, high, ((), (), (), ()), ()), (b, ()), (r, ()), (c, ()), ()) = ⟨true, false, v, ((), (), (), ()), ()⟩ ∧ isLeast c.toNat b r v
  | m, 0, low, high, hk, _, _, _, _, _, _ => by omega
  | m, k + 1, low, high, hk, h1, h2, h3, h4, h5, h6 => by
    rw [L_least_2_eq]
    by_cases c0 : low < high
    · have d0 : decide (low < high) = true := by simpa using c0
      obtain ⟨m', rfl⟩ : ∃ m', m = m' + 1 := by
        cases m with
        | zero => simp at h4; omega
        | succ m' => exact ⟨m', rfl⟩
      have hpow : (2 : Int) ^ (m' + 1) = 2 * 2 ^ m' := by rw [Int.pow_succ]; omega
      have w1 : IntKind.i64.wrap (high - low) = high - low := w64 (by omega) (by omega)
      have t1 : (high - low).tdiv 2 = (high - low) / 2 := Int.tdiv_eq_ediv_of_nonneg (by omega)
      have w2 : IntKind.i64.wrap ((high - low) / 2) = (high - low) / 2 := w64 (by omega) (by omega)
      have w3 : IntKind.i64.wrap (low + (high - low) / 2) = low + (high - low) / 2 := w64 (by omega) (by omega)
      have w4 : IntKind.i64.wrap (low + (high - low) / 2 + 1) = low + (high - low) / 2 + 1 := w64 (by omega) (by omega)
      have hp := pays (p := low + (high - low) / 2) (by omega) (by omega) hb hb2 hr hr2 hc hc2
      simp only [w1, t1, w2, w3, w4, hp, d0, cond_true]
      generalize hmid : low + (high - low) / 2 = mid at *
      have hml : low ≤ mid := by omega
      have hmh : mid < high := by omega
      cases hq : payP c.toNat mid b r with
      | true =>
        simp only [cond_true]
        obtain ⟨v, e, hv⟩ := L_least hb hb2 hr hr2 hc hc2 m' k low mid (by omega) h1 hml (by omega) (by omega) hq h6
        rw [e]; exact ⟨v, rfl, hv⟩
      | false =>
        simp only [cond_false]
        obtain ⟨v, e, hv⟩ := L_least hb hb2 hr hr2 hc hc2 m' k (mid + 1) high (by omega) (by omega) (by omega) h3 (by omega) h5 (fun u hu hul => by
          by_cases hx : payP c.toNat u b r = true
          · have := payP_mono hr c.toNat (show u ≤ mid by omega) (Int.le_refl b) hx
            rw [hq] at this; cases this
          · simpa using hx)
        rw [e]; exact ⟨v, rfl, hv⟩
    · have d0 : decide (low < high) = false := by simpa using c0
      have : low = high := by omega
      subst this
      simp only [d0, cond_false]
      exact ⟨low, rfl, h1, h3, h5, h6⟩
end Go.Proofs.YtklpneeakhbahaaGreatDoor.Fs
namespace Go.Proofs.YtklpneeakhbahaaGreatDoor.Fs
open Go Go.Proofs.YtklpneeakhbahaaGreatDoor.Ls P
theorem L_rLevel {b r c : Int} (hb : 0 ≤ b) (hb2 : b ≤ 10000000000000) (hr : 0 ≤ r) (hr2 : r ≤ 100000) (hc : 0 ≤ c) (hc2 : c ≤ 1000000) {v : Int} (hv : isLeast c.toNat b r v) :
    ∀ (j k : Nat) (p : Int), j < 63 → j + 1 < k → p ≤ 9223372036854775807 → v ≤ p → p - v < 2 * 2 ^ j → payP c.toNat p b r = true →
    L_rLevel_8 k ((b, r, c, p, 2 ^ j, ()), ()) = ⟨true, false, (v, true, ()), (), ()⟩
  | j, 0, p, _, hk, _, _, _, _ => by omega
  | j, k + 1, p, hj, hk, h1, h2, h3, h4 => by
    rw [L_rLevel_8_eq]
    have hv1 := hv.1
    have hpos : (0 : Int) < 2 ^ j := Int.pow_pos (by omega)
    have hmax : (2 : Int) ^ j ≤ 2 ^ 62 := by
      have : (2 : Nat) ^ j ≤ 2 ^ 62 := Nat.pow_le_pow_right (by omega) (by omega)
      exact_mod_cast this
    have h62 : (2 : Int) ^ 62 = 4611686018427387904 := by rfl
    have d0 : decide ((2 : Int) ^ j > 0) = true := by simpa using hpos
    have w1 : IntKind.i64.wrap (p - 2 ^ j) = p - 2 ^ j := w64 (by omega) (by omega)
    have t1 : ((2 : Int) ^ j).tdiv 2 = 2 ^ j / 2 := Int.tdiv_eq_ediv_of_nonneg (by omega)
    have w2 : IntKind.i64.wrap (2 ^ j / 2) = 2 ^ j / 2 := w64 (by omega) (by omega)
    have next : ∀ q : Int, q ≤ 9223372036854775807 → v ≤ q → q - v < 2 ^ j → payP c.toNat q b r = true → L_rLevel_8 k ((b, r, c, q, 2 ^ j / 2, ()), ()) = ⟨true, false, (v, true, ()), (), ()⟩ := by
      intro q g1 g2 g3 g4
      cases j with
      | zero =>
        have : q = v := by simp at g3; omega
        subst this
        cases k with
        | zero => omega
        | succ k =>
          rw [L_rLevel_8_eq]
          have : decide ((2 : Int) ^ 0 / 2 > 0) = false := by rfl
          simp only [this, cond_false]
      | succ j =>
        have e : (2 : Int) ^ (j + 1) / 2 = 2 ^ j := by rw [Int.pow_succ]; omega
        rw [e]
        exact L_rLevel hb hb2 hr hr2 hc hc2 hv j k q (by omega) (by omega) g1 g2 (by rw [Int.pow_succ] at g3; omega) g4
    simp only [d0, w1, t1, w2, cond_true]
    by_cases c1 : p > 2 ^ j
    · have d1 : decide (p > 2 ^ j) = true := by simpa using c1
      have hp := paysOff (p := p - 2 ^ j) (by omega) (by omega) hb hb2 hr hr2 hc hc2
      simp only [d1, cond_true, hp]
      cases hq : payP c.toNat (p - 2 ^ j) b r with
      | true =>
        have : v ≤ p - 2 ^ j := by
          by_cases hx : p - 2 ^ j < v
          · have := hv.2.2.2 (p - 2 ^ j) (by omega) hx; rw [hq] at this; cases this
          · omega
        simp only [cond_true]
        rw [next (p - 2 ^ j) (by omega) this (by omega) hq]
        rfl
      | false =>
        have : p - 2 ^ j < v := by
          by_cases hx : v ≤ p - 2 ^ j
          · have := payP_mono hr c.toNat hx (Int.le_refl b) hv.2.2.1; rw [hq] at this; cases this
          · omega
        simp only [cond_false]
        rw [next p h1 h2 (by omega) h4]
        rfl
    · have d1 : decide (p > 2 ^ j) = false := by simpa using c1
      simp only [d1, cond_false]
      rw [next p h1 h2 (by omega) h4]
      rfl
end Go.Proofs.YtklpneeakhbahaaGreatDoor.Fs
end
section
set_option linter.unusedVariables false
set_option linter.unusedSimpArgs false
namespace Go.Proofs.YtklpneeakhbahaaGreatDoor.Fs
open Go Go.Proofs.YtklpneeakhbahaaGreatDoor.Ls P
theorem payP_max {b r c : Int} (hb : 0 ≤ b) (hb2 : b ≤ 10000000000000) (hr : 0 ≤ r) (hr2 : r ≤ 100000) (hc : 1 ≤ c) : payP c.toNat 9223372036854775807 b r = true := by
  obtain ⟨n, hn⟩ : ∃ n, c.toNat = n + 1 := ⟨c.toNat - 1, by omega⟩
  have g1 := mP_nonneg hb hr
  have g2 := mP_le hb hb2 hr hr2
  rw [hn]; unfold payP
  rw [if_neg (by omega), if_pos (by omega)]
theorem levels {b r c : Int} (hb : 1 ≤ b) (hb2 : b ≤ 10000000000000) (hr : 0 ≤ r) (hr2 : r ≤ 100000) (hc : 1 ≤ c) (hc2 : c ≤ 120) :
    ∃ v, isLeast c.toNat b r v ∧ F_level (b, r, c, ()) () = ⟨true, false, (v, true, ()), (), ()⟩ ∧ F_rLevel (b, r, c, ()) () = ⟨true, false, (v, true, ()), (), ()⟩ := by
  have hmax := payP_max (c := c) (show 0 ≤ b by omega) hb2 hr hr2 hc
  obtain ⟨v, e, hv⟩ := L_least (c := c) (show 0 ≤ b by omega) hb2 hr hr2 (by omega) (by omega) 63 200 1 9223372036854775807 (by omega) (by omega) (by omega) (by omega) (by omega) hmax (fun u h1 h2 => by omega)
  have d1 : decide (b < 1) = false := by simp; omega
  have d2 : decide (r ≥ 0) = true := by simp; omega
  have d3 : decide (r ≤ 100000) = true := by simp; omega
  have d4 : decide (c < 1) = false := by simp; omega
  have d5 : decide (c > 120) = false := by simp; omega
  have hp := pays (p := 9223372036854775807) (by omega) (by omega) (show 0 ≤ b by omega) hb2 hr hr2 (show 0 ≤ c by omega) (by omega)
  have hq := paysOff (p := 9223372036854775807) (by omega) (by omega) (show 0 ≤ b by omega) hb2 hr hr2 (show 0 ≤ c by omega) (by omega)
  rw [hmax] at hp hq
  have hl : F_least ((1 : Int), (9223372036854775807 : Int), ((), (), (), ()), ()) ((b, ()), (r, ()), (c, ()), ()) = ⟨true, false, v, ((), (), (), ()), ()⟩ := by
    have hk : ∀ a h, k_least a h = 200 := fun _ _ => rfl
    rw [F_least_eq, hk]; exact e
  refine ⟨v, hv, ?_, ?_⟩
  · rw [F_level_eq]
    simp only [d1, d2, d3, d4, d5, cond_true, cond_false, Bool.not_true, hp, hl, Bool.and_true]
  · rw [F_rLevel_eq]
    have hr' := L_rLevel (show 0 ≤ b by omega) hb2 hr hr2 (show 0 ≤ c by omega) (by omega) hv 62 200 9223372036854775807 (by omega) (by omega) (by omega) hv.2.1 (by have := hv.1; omega) hmax
    have e62 : (2 : Int) ^ 62 = 4611686018427387904 := by rfl
    rw [e62] at hr'
    have hk : ∀ a h, k_rLevel a h = 200 := fun _ _ => rfl
    simp only [d1, d2, d3, d4, d5, cond_true, cond_false, Bool.not_true, hq, hk, hr', Bool.and_true]
end Go.Proofs.YtklpneeakhbahaaGreatDoor.Fs
end
section
set_option linter.unusedVariables false
set_option linter.unusedSimpArgs false
namespace Go.Proofs.YtklpneeakhbahaaGreatDoor.Cal
def lp (y : Int) : Int := if y % 4 = 0 ∧ (y % 100 ≠ 0 ∨ y % 400 = 0) then 1 else 0
theorem lp_01 (y : Int) : lp y = 0 ∨ lp y = 1 := by unfold lp; split <;> simp
def dby (y : Int) : Int := 365 * (y - 1) + (y - 1) / 4 - (y - 1) / 100 + (y - 1) / 400
theorem dby_succ (y : Int) : dby (y + 1) = dby y + 365 + lp y := by
  unfold dby lp
  split <;> omega
theorem dby_le (n : Nat) : ∀ y : Int, dby y + 365 * n ≤ dby (y + n) := by
  induction n with
  | zero => intro y; simp
  | succ n ih =>
    intro y
    have h1 := ih (y + 1)
    have h2 := dby_succ y
    have h3 := lp_01 y
    rw [show y + ((n + 1 : Nat) : Int) = y + 1 + (n : Int) by omega]
    omega
def A (m : Int) : Int := if m ≤ 1 then 0 else if m = 2 then 31 else if m = 3 then 59 else if m = 4 then 90 else if m = 5 then 120 else if m = 6 then 151 else if m = 7 then 181 else if m = 8 then 212 else if m = 9 then 243 else if m = 10 then 273 else if m = 11 then 304 else if m = 12 then 334 else 365
def cum (y m : Int) : Int := A m + (if 2 < m then lp y else 0)
def mlen (y m : Int) : Int := if m = 2 then 28 + lp y else if m = 4 ∨ m = 6 ∨ m = 9 ∨ m = 11 then 30 else 31
theorem months {m : Int} (h : 1 ≤ m) (h' : m ≤ 12) : m = 1 ∨ m = 2 ∨ m = 3 ∨ m = 4 ∨ m = 5 ∨ m = 6 ∨ m = 7 ∨ m = 8 ∨ m = 9 ∨ m = 10 ∨ m = 11 ∨ m = 12 := by omega
theorem cum_succ (y : Int) {m : Int} (h : 1 ≤ m) (h' : m ≤ 12) : cum y (m + 1) = cum y m + mlen y m := by
  rcases months h h' with rfl | rfl | rfl | rfl | rfl | rfl | rfl | rfl | rfl | rfl | rfl | rfl <;> simp [cum, A, mlen] <;> omega
theorem cum_one (y : Int) : cum y 1 = 0 := by simp [cum, A]
theorem cum_end (y : Int) : cum y 13 = 365 + lp y := by simp [cum, A]
theorem mlen_range (y m : Int) : 28 ≤ mlen y m ∧ mlen y m ≤ 31 := by
  have := lp_01 y
  unfold mlen; split
  · omega
  · split <;> omega
theorem cum_le (y : Int) (n : Nat) : ∀ m : Int, 1 ≤ m → m + n ≤ 13 → cum y m + 28 * n ≤ cum y (m + n) := by
  induction n with
  | zero => intro m _ _; simp
  | succ n ih =>
    intro m h h'
    have h1 := ih (m + 1) (by omega) (by omega)
    have h2 := cum_succ y h (by omega)
    have h3 := mlen_range y m
    rw [show m + ((n + 1 : Nat) : Int) = m + 1 + (n : Int) by omega]
    omega
theorem cum_range (y : Int) {m : Int} (h : 1 ≤ m) (h' : m ≤ 13) : 0 ≤ cum y m ∧ cum y m ≤ 366 := by
  have a := cum_le y (m - 1).toNat 1 (by omega) (by omega)
  rw [cum_one, show (1 : Int) + ((m - 1).toNat : Int) = m by omega] at a
  have b := cum_le y (13 - m).toNat m (by omega) (by omega)
  rw [show m + ((13 - m).toNat : Int) = 13 by omega, cum_end] at b
  have := lp_01 y
  omega
structure IsDate (day y m d : Int) : Prop where
  y1 : 1 ≤ y
  y2 : y ≤ 9999
  m1 : 1 ≤ m
  m2 : m ≤ 12
  d1 : 1 ≤ d
  d2 : d ≤ mlen y m
  num : dby y + cum y m + d = day
theorem IsDate.inyear {day y m d : Int} (h : IsDate day y m d) : dby y < day ∧ day ≤ dby (y + 1) := by
  have a := cum_range y h.m1 (by have := h.m2; omega)
  have b := cum_succ y h.m1 h.m2
  have c := cum_le y (12 - m).toNat (m + 1) (by have := h.m1; omega) (by have := h.m2; omega)
  rw [show m + 1 + ((12 - m).toNat : Int) = 13 by have := h.m2; omega, cum_end] at c
  have e := dby_succ y
  have := h.d1; have := h.d2; have := h.num
  omega
theorem IsDate.one {day y m d y' m' d' : Int} (h : IsDate day y m d) (k : IsDate day y' m' d') : y = y' ∧ m = m' ∧ d = d' := by
  have hy := h.inyear
  have ky := k.inyear
  have e : y = y' := by
    rcases Int.lt_trichotomy y y' with c | c | c
    · have a := dby_le (y' - (y + 1)).toNat (y + 1)
      rw [show y + 1 + ((y' - (y + 1)).toNat : Int) = y' by omega] at a
      omega
    · exact c
    · have a := dby_le (y - (y' + 1)).toNat (y' + 1)
      rw [show y' + 1 + ((y - (y' + 1)).toNat : Int) = y by omega] at a
      omega
  subst e
  have hm := h.num; have km := k.num; have h1 := h.d1; have h2 := h.d2; have k1 := k.d1; have k2 := k.d2
  have hs := cum_succ y h.m1 h.m2
  have ks := cum_succ y k.m1 k.m2
  have e : m = m' := by
    rcases Int.lt_trichotomy m m' with c | c | c
    · have a := cum_le y (m' - (m + 1)).toNat (m + 1) (by have := h.m1; omega) (by have := k.m2; omega)
      rw [show m + 1 + ((m' - (m + 1)).toNat : Int) = m' by omega] at a
      omega
    · exact c
    · have a := cum_le y (m - (m' + 1)).toNat (m' + 1) (by have := k.m1; omega) (by have := h.m2; omega)
      rw [show m' + 1 + ((m - (m' + 1)).toNat : Int) = m by omega] at a
      omega
  subst e
  exact ⟨rfl, rfl, by omega⟩
theorem lp_last {q h f o : Int} (h03 : 0 ≤ h ∧ h ≤ 3) (f24 : 0 ≤ f ∧ f ≤ 24) (o3 : o = 3) (hh : f = 24 → h = 3) : lp (400 * q + 1 + (100 * h + 4 * f + o)) = 1 := by
  subst o3
  have e4 : (400 * q + 1 + (100 * h + 4 * f + 3)) % 4 = 0 := by omega
  unfold lp
  rw [if_pos]
  refine ⟨e4, ?_⟩
  by_cases f24' : f = 24
  · have h3 := hh f24'
    subst h3; subst f24'
    exact Or.inr (by omega)
  · have : (400 * q + 1 + (100 * h + 4 * f + 3)) % 100 = 4 * f + 4 := by omega
    exact Or.inl (by omega)
set_option maxHeartbeats 1000000 in
theorem year_of {day q r h r1 f r2 o l : Int} (hd : 1 ≤ day) (hd' : day ≤ 3652059) (hq : q = (day - 1) / 146097) (hr : r = (day - 1) % 146097)
    (hh : h = if r / 36524 < 3 then r / 36524 else 3) (hr1 : r1 = r - h * 36524) (hf : f = r1 / 1461) (hr2 : r2 = r1 % 1461) (ho : o = if r2 / 365 < 3 then r2 / 365 else 3) (hl : l = r2 - o * 365) :
    0 ≤ l ∧ l < 365 + lp (400 * q + 1 + (100 * h + 4 * f + o)) ∧ dby (400 * q + 1 + (100 * h + 4 * f + o)) + l + 1 = day ∧ 1 ≤ 400 * q + 1 + (100 * h + 4 * f + o) ∧ 400 * q + 1 + (100 * h + 4 * f + o) ≤ 9999 ∧ 0 ≤ h ∧ h ≤ 3 ∧ 0 ≤ f ∧ f ≤ 24 ∧ 0 ≤ o ∧ o ≤ 3 ∧ 0 ≤ q ∧ q ≤ 24 ∧ 0 ≤ r ∧ 0 ≤ r1 ∧ 0 ≤ r2 := by
  have q0 : 0 ≤ q := by omega
  have q24 : q ≤ 24 := by omega
  have r0 : 0 ≤ r := by omega
  have r9 : r ≤ 146096 := by omega
  have day_ : day - 1 = 146097 * q + r := by omega
  have h03 : 0 ≤ h ∧ h ≤ 3 := by rw [hh]; split <;> omega
  have r1r : 0 ≤ r1 ∧ r1 ≤ 36524 ∧ (h < 3 → r1 ≤ 36523) := by
    rw [hh] at hr1 ⊢
    split at hr1 <;> omega
  have f24 : 0 ≤ f ∧ f ≤ 24 := by omega
  have r2r : 0 ≤ r2 ∧ r2 ≤ 1460 := by omega
  have r1_ : r1 = 1461 * f + r2 := by omega
  have o03 : 0 ≤ o ∧ o ≤ 3 := by rw [ho]; split <;> omega
  have lr : 0 ≤ l ∧ l ≤ 365 ∧ (o < 3 → l ≤ 364) := by
    rw [ho] at hl ⊢
    split at hl <;> omega
  have r2_ : r2 = 365 * o + l := by omega
  have hlast : r = 36524 * h + r1 := by omega
  clear hh hq hr hf hr2 ho hl hr1
  have Y4 : (400 * q + 1 + (100 * h + 4 * f + o) - 1) / 4 = 100 * q + 25 * h + f := by omega
  have Y100 : (400 * q + 1 + (100 * h + 4 * f + o) - 1) / 100 = 4 * q + h := by omega
  have Y400 : (400 * q + 1 + (100 * h + 4 * f + o) - 1) / 400 = q := by omega
  have hdby : dby (400 * q + 1 + (100 * h + 4 * f + o)) = 146097 * q + 36524 * h + 1461 * f + 365 * o := by
    unfold dby; rw [Y4, Y100, Y400]; omega
  refine ⟨lr.1, ?_, by rw [hdby]; omega, by omega, ?_, h03.1, h03.2, f24.1, f24.2, o03.1, o03.2, q0, q24, r0, r1r.1, r2r.1⟩
  · have h01 := lp_01 (400 * q + 1 + (100 * h + 4 * f + o))
    generalize hz : lp (400 * q + 1 + (100 * h + 4 * f + o)) = z at h01
    clear Y4 Y100 Y400 hdby
    by_cases hl5 : l ≤ 364
    · clear r1_ r2_ hlast day_; omega
    · have o3 : o = 3 := by
        by_cases ho3 : o < 3
        · exact absurd (lr.2.2 ho3) hl5
        · clear r1_ r2_ hlast day_; omega
      have hh3 : f = 24 → h = 3 := fun e => by
        by_cases h3 : h < 3
        · have := r1r.2.2 h3
          clear day_ hlast
          omega
        · clear r1_ r2_ hlast day_; omega
      have hz1 := lp_last (q := q) h03 f24 o3 hh3
      rw [hz] at hz1
      clear r1_ r2_ hlast day_ hz; omega
  · clear Y4 Y100 Y400 hdby
    by_cases q24' : q = 24
    · subst q24'; omega
    · clear r1_ r2_ hlast day_; omega
end Go.Proofs.YtklpneeakhbahaaGreatDoor.Cal
end
section
set_option linter.unusedVariables false
set_option linter.unusedSimpArgs false
namespace Go.Proofs.YtklpneeakhbahaaGreatDoor.Fs
open Go Go.Proofs.YtklpneeakhbahaaGreatDoor.Ls P Go.Proofs.YtklpneeakhbahaaGreatDoor.Cal
theorem lpB {y : Int} (h1 : 0 ≤ y) : (bif ((y.tmod (4 : Int)) == 0) then (bif ((y.tmod (100 : Int)) != 0) then true else ((y.tmod (400 : Int)) == 0)) else false) = (lp y == 1) := by
  rw [Int.tmod_eq_emod_of_nonneg h1, Int.tmod_eq_emod_of_nonneg h1, Int.tmod_eq_emod_of_nonneg h1]
  unfold lp
  by_cases c4 : y % 4 = 0 <;> by_cases c100 : y % 100 = 0 <;> by_cases c400 : y % 400 = 0 <;> simp [c4, c100, c400]
theorem yearLen {y : Int} (h1 : 0 ≤ y) : F_yearLen (y, ()) () = ⟨true, false, 365 + lp y, (), ()⟩ := by
  rw [F_yearLen_eq]
  simp only [lpB h1]
  have := lp_01 y
  rcases this with h | h <;> simp [h]
theorem lenOf {y m : Int} (h1 : 0 ≤ y) : F_lenOf (y, m, ()) () = ⟨true, false, mlen y m, (), ()⟩ := by
  rw [F_lenOf_eq]
  simp only [lpB h1]
  unfold mlen
  have := lp_01 y
  by_cases c2 : m = 2
  · subst c2
    rcases this with h | h <;> simp [h]
  · have d2 : (m == 2) = false := by simpa using c2
    simp only [d2, cond_false]
    rw [if_neg c2]
    by_cases c4 : m = 4
    · subst c4; simp
    · by_cases c6 : m = 6
      · subst c6; simp
      · by_cases c9 : m = 9
        · subst c9; simp
        · by_cases c11 : m = 11
          · subst c11; simp
          · have d4 : (m == 4) = false := by simpa using c4
            have d6 : (m == 6) = false := by simpa using c6
            have d9 : (m == 9) = false := by simpa using c9
            have d11 : (m == 11) = false := by simpa using c11
            simp [d4, d6, d9, d11, c4, c6, c9, c11]
theorem lpB' (y : Int) : (lp y == 1) = ((y % 4 == 0) && (!(y % 100 == 0) || (y % 400 == 0))) := by
  unfold lp
  by_cases c4 : y % 4 = 0 <;> by_cases c100 : y % 100 = 0 <;> by_cases c400 : y % 400 = 0 <;> simp [c4, c100, c400]
theorem leap {y : Int} (h1 : 1 ≤ y) (h2 : y ≤ 9999) : F_leap (y, ()) () = ⟨true, false, (lp y == 1), (), ()⟩ := by
  rw [F_leap_eq]
  have d1 : decide (y < 1) = false := by simp; omega
  have d2 : decide (y > 9999) = false := by simp; omega
  simp only [d1, d2, cond_false]
  rw [Int.tmod_eq_emod_of_nonneg (by omega), Int.tmod_eq_emod_of_nonneg (by omega), Int.tmod_eq_emod_of_nonneg (by omega), lpB']
  simp only [bne]
  cases (y % 4 == 0) <;> cases (y % 100 == 0) <;> cases (y % 400 == 0) <;> rfl
theorem start {y m : Int} (h1 : 1 ≤ y) (h2 : y ≤ 9999) (m1 : 1 ≤ m) (m2 : m ≤ 12) : F_start (y, m, ()) () = ⟨true, false, cum y m, (), ()⟩ := by
  rw [F_start_eq]
  simp only [leap h1 h2]
  have := lp_01 y
  rcases months m1 m2 with rfl | rfl | rfl | rfl | rfl | rfl | rfl | rfl | rfl | rfl | rfl | rfl <;> rcases this with h | h <;> simp only [h] <;> simp [cum, A, h] <;> rfl
theorem monthLen {y m : Int} : F_monthLen (y, m, ()) () = ⟨true, false, (if 1 ≤ y ∧ y ≤ 9999 ∧ 1 ≤ m ∧ m ≤ 12 then mlen y m else 0), (), ()⟩ := by
  rw [F_monthLen_eq]
  by_cases h1 : y < 1
  · have d : decide (y < 1) = true := by simpa using h1
    simp only [d, cond_true]; rw [if_neg (by omega)]
  have d1 : decide (y < 1) = false := by simpa using h1
  by_cases h2 : y > 9999
  · have d : decide (y > 9999) = true := by simpa using h2
    simp only [d1, d, cond_true, cond_false]; rw [if_neg (by omega)]
  have d2 : decide (y > 9999) = false := by simpa using h2
  by_cases h3 : m < 1
  · have d : decide (m < 1) = true := by simpa using h3
    simp only [d1, d2, d, cond_true, cond_false]; rw [if_neg (by omega)]
  have d3 : decide (m < 1) = false := by simpa using h3
  by_cases h4 : m > 12
  · have d : decide (m > 12) = true := by simpa using h4
    simp only [d1, d2, d3, d, cond_true, cond_false]; rw [if_neg (by omega)]
  have d4 : decide (m > 12) = false := by simpa using h4
  simp only [d1, d2, d3, d4, cond_false]
  rw [if_pos (by omega)]
  simp only [leap (show 1 ≤ y by omega) (show y ≤ 9999 by omega)]
  have := lp_01 y
  rcases months (show 1 ≤ m by omega) (show m ≤ 12 by omega) with rfl | rfl | rfl | rfl | rfl | rfl | rfl | rfl | rfl | rfl | rfl | rfl <;> rcases this with h | h <;> simp only [h] <;> simp [mlen, h] <;> rfl
theorem rMonthLen {y m : Int} : F_rMonthLen (y, m, ()) () = ⟨true, false, (if 1 ≤ y ∧ y ≤ 9999 ∧ 1 ≤ m ∧ m ≤ 12 then mlen y m else 0), (), ()⟩ := by
  rw [F_rMonthLen_eq]
  by_cases h1 : y < 1
  · have d : decide (y < 1) = true := by simpa using h1
    simp only [d, cond_true]; rw [if_neg (by omega)]
  have d1 : decide (y < 1) = false := by simpa using h1
  by_cases h2 : y > 9999
  · have d : decide (y > 9999) = true := by simpa using h2
    simp only [d1, d, cond_true, cond_false]; rw [if_neg (by omega)]
  have d2 : decide (y > 9999) = false := by simpa using h2
  by_cases h3 : m < 1
  · have d : decide (m < 1) = true := by simpa using h3
    simp only [d1, d2, d, cond_true, cond_false]; rw [if_neg (by omega)]
  have d3 : decide (m < 1) = false := by simpa using h3
  by_cases h4 : m > 12
  · have d : decide (m > 12) = true := by simpa using h4
    simp only [d1, d2, d3, d, cond_true, cond_false]; rw [if_neg (by omega)]
  have d4 : decide (m > 12) = false := by simpa using h4
  simp only [d1, d2, d3, d4, cond_false]
  rw [if_pos (by omega)]
  simp only [lenOf (m := m) (show 0 ≤ y by omega), Bool.and_true]
end Go.Proofs.YtklpneeakhbahaaGreatDoor.Fs
end
section
set_option linter.unusedVariables false
set_option linter.unusedSimpArgs false
namespace Go.Proofs.YtklpneeakhbahaaGreatDoor.Fs
open Go Go.Proofs.YtklpneeakhbahaaGreatDoor.Ls P Go.Proofs.YtklpneeakhbahaaGreatDoor.Cal
theorem dbyR {y : Int} (h1 : 1 ≤ y) (h2 : y ≤ 10000) : 0 ≤ dby y ∧ dby y ≤ 3652059 := by
  unfold dby; omega
theorem L_rCivil_m {day y : Int} (h1 : 1 ≤ y) (h2 : y ≤ 9999) (hin : day ≤ dby (y + 1)) : ∀ (n k : Nat) (m left : Int), n < k → m + n = 12 → 1 ≤ m → 1 ≤ left → dby y + cum y m + left = day →
    ∃ m' d', IsDate day y m' d' ∧ L_rCivil_11 k (((), left, y, m, ()), ((0 : Int), (0 : Int), (0 : Int), ()), ()) = ⟨true, false, ((y, m', d', ()), true, ()), (), ()⟩
  | n, 0, m, left, hk, _, _, _, _ => by omega
  | n, k + 1, m, left, hk, hm, hm1, hl, hd => by
    rw [L_rCivil_11_eq]
    have hr := mlen_range y m
    have hs := cum_succ y hm1 (show m ≤ 12 by omega)
    have hc := cum_range y hm1 (show m ≤ 13 by omega)
    have hb := dbyR h1 (show y ≤ 10000 by omega)
    have hb2 := dbyR (show 1 ≤ y + 1 by omega) (show y + 1 ≤ 10000 by omega)
    simp only [lenOf (m := m) (show 0 ≤ y by omega)]
    by_cases c : left > mlen y m
    · have d : decide (left > mlen y m) = true := by simpa using c
      obtain ⟨n', rfl⟩ : ∃ n', n = n' + 1 := by
        cases n with
        | zero =>
          have : m = 12 := by omega
          subst this
          have h13 := cum_end y
          have hds := dby_succ y
          have : cum y (12 + 1) = cum y 13 := rfl
          omega
        | succ n' => exact ⟨n', rfl⟩
      have w1 : IntKind.i64.wrap (left - mlen y m) = left - mlen y m := w64 (by omega) (by omega)
      have w2 : IntKind.i64.wrap (m + 1) = m + 1 := w64 (by omega) (by omega)
      simp only [d, cond_true, w1, w2]
      obtain ⟨m', d', hi, e⟩ := L_rCivil_m h1 h2 hin n' k (m + 1) (left - mlen y m) (by omega) (by omega) (by omega) (by omega) (by omega)
      rw [e]
      exact ⟨m', d', hi, rfl⟩
    · have d : decide (left > mlen y m) = false := by simpa using c
      simp only [d, cond_false]
      exact ⟨m, left, ⟨h1, h2, hm1, by omega, hl, by omega, hd⟩, rfl⟩
theorem L_rCivil_y {day w : Int} (hday : day ≤ 3652059) (hw : 0 ≤ w) (hw2 : w ≤ 24) (hdw : day ≤ 146097 * (w + 1)) : ∀ (n k : Nat) (y left : Int), n + 20 < k → y + n = 400 * w + 400 → 1 ≤ y → y ≤ 9999 → 1 ≤ left → dby y + left = day →
    ∃ y' m' d', IsDate day y' m' d' ∧ L_rCivil_7 k (((), left, y, ()), ((0 : Int), (0 : Int), (0 : Int), ()), ()) = ⟨true, false, ((y', m', d', ()), true, ()), (), ()⟩
  | n, 0, y, left, hk, _, _, _, _, _ => by omega
  | n, k + 1, y, left, hk, hy, h1, h2, hl, hd => by
    rw [L_rCivil_7_eq]
    have hs := dby_succ y
    have h01 := lp_01 y
    have hb := dbyR h1 (show y ≤ 10000 by omega)
    simp only [yearLen (show 0 ≤ y by omega)]
    by_cases c : left > 365 + lp y
    · have d : decide (left > 365 + lp y) = true := by simpa using c
      have hgt : day > dby (y + 1) := by omega
      have hy9 : y + 1 ≤ 9999 := by
        by_cases c9 : y = 9999
        · subst c9
          have : dby (9999 + 1) = 3652059 := rfl
          omega
        · omega
      obtain ⟨n', rfl⟩ : ∃ n', n = n' + 1 := by
        cases n with
        | zero =>
          have hy4 : y = 400 * w + 400 := by omega
          subst hy4
          have : dby (400 * w + 400 + 1) = 146097 * (w + 1) := by clear hs; unfold dby; omega
          omega
        | succ n' => exact ⟨n', rfl⟩
      have w1 : IntKind.i64.wrap (left - (365 + lp y)) = left - (365 + lp y) := w64 (by omega) (by omega)
      have w2 : IntKind.i64.wrap (y + 1) = y + 1 := w64 (by omega) (by omega)
      simp only [d, cond_true, w1, w2]
      obtain ⟨y', m', d', hi, e⟩ := L_rCivil_y hday hw hw2 hdw n' k (y + 1) (left - (365 + lp y)) (by omega) (by omega) (by omega) (by omega) (by omega) (by omega)
      rw [e]
      exact ⟨y', m', d', hi, rfl⟩
    · have d : decide (left > 365 + lp y) = false := by simpa using c
      simp only [d, cond_false]
      have h1c := cum_one y
      obtain ⟨m', d', hi, e⟩ := L_rCivil_m (day := day) h1 h2 (by omega) 11 k 1 left (by omega) (by omega) (by omega) hl (by omega)
      rw [e]
      exact ⟨y, m', d', hi, rfl⟩
theorem rCivil {day : Int} (h1 : 1 ≤ day) (h2 : day ≤ 3652059) : ∃ y m d, IsDate day y m d ∧ F_rCivil (day, ()) () = ⟨true, false, ((y, m, d, ()), true, ()), (), ()⟩ := by
  rw [F_rCivil_eq]
  have d1 : decide (day ≥ 1) = true := by simpa using h1
  have d2 : decide (day ≤ 3652059) = true := by simpa using h2
  have w1 : IntKind.i64.wrap (day - 1) = day - 1 := w64 (by omega) (by omega)
  have t1 : (day - 1).tdiv 146097 = (day - 1) / 146097 := Int.tdiv_eq_ediv_of_nonneg (by omega)
  have w2 : IntKind.i64.wrap ((day - 1) / 146097) = (day - 1) / 146097 := w64 (by omega) (by omega)
  have w3 : IntKind.i64.wrap ((day - 1) / 146097 * 146097) = (day - 1) / 146097 * 146097 := w64 (by omega) (by omega)
  have w4 : IntKind.i64.wrap (day - (day - 1) / 146097 * 146097) = day - (day - 1) / 146097 * 146097 := w64 (by omega) (by omega)
  have w5 : IntKind.i64.wrap (400 * ((day - 1) / 146097)) = 400 * ((day - 1) / 146097) := w64 (by omega) (by omega)
  have w6 : IntKind.i64.wrap (400 * ((day - 1) / 146097) + 1) = 400 * ((day - 1) / 146097) + 1 := w64 (by omega) (by omega)
  simp only [d1, d2, cond_true, Bool.not_true, cond_false, w1, t1, w2, w3, w4, w5, w6]
  generalize hw : (day - 1) / 146097 = w
  have hdby : dby (400 * w + 1) = 146097 * w := by unfold dby; omega
  have hk : ∀ a h, k_rCivil a h = 1000 := fun _ _ => rfl
  rw [hk]
  obtain ⟨y', m', d', hi, e⟩ := L_rCivil_y (day := day) (w := w) h2 (by omega) (by omega) (by omega) 399 1000 (400 * w + 1) (day - w * 146097) (by omega) (by omega) (by omega) (by omega) (by omega) (by omega)
  rw [e]
  exact ⟨y', m', d', hi, rfl⟩
end Go.Proofs.YtklpneeakhbahaaGreatDoor.Fs
end
section
set_option linter.unusedVariables false
set_option linter.unusedSimpArgs false
namespace Go.Proofs.YtklpneeakhbahaaGreatDoor.Fs
open Go Go.Proofs.YtklpneeakhbahaaGreatDoor.Ls P Go.Proofs.YtklpneeakhbahaaGreatDoor.Cal
theorem L_civil_m {day y l : Int} (h1 : 1 ≤ y) (h2 : y ≤ 9999) (hl : l < 365 + lp y) (hd : dby y + l + 1 = day) : ∀ (n k : Nat) (m : Int), n < k → m + n = 12 → 1 ≤ m → cum y m ≤ l →
    ∃ m' d', IsDate day y m' d' ∧ L_civil_15 k (((), l, y, m, ()), ((0 : Int), (0 : Int), (0 : Int), ()), ()) = ⟨true, false, ((y, m', d', ()), true, ()), (), ()⟩
  | n, 0, m, hk, _, _, _ => by omega
  | n, k + 1, m, hk, hm, hm1, hc => by
    rw [L_civil_15_eq]
    have hs := cum_succ y hm1 (show m ≤ 12 by omega)
    have hr := cum_range y hm1 (show m ≤ 13 by omega)
    have hb := dbyR h1 (show y ≤ 10000 by omega)
    have hm2 : m ≤ 12 := by omega
    have h01 := lp_01 y
    have w1 : IntKind.i64.wrap (m + 1) = m + 1 := w64 (by omega) (by omega)
    have w2 : IntKind.i64.wrap (l - cum y m) = l - cum y m := w64 (by omega) (by omega)
    have w3 : IntKind.i64.wrap (l - cum y m + 1) = l - cum y m + 1 := w64 (by omega) (by omega)
    simp only [w1, start h1 h2 hm1 hm2, w2, w3]
    by_cases c12 : m < 12
    · have d12 : decide (m < 12) = true := by simpa using c12
      simp only [d12, cond_true, start h1 h2 (show 1 ≤ m + 1 by omega) (show m + 1 ≤ 12 by omega)]
      by_cases c : l ≥ cum y (m + 1)
      · have d : decide (l ≥ cum y (m + 1)) = true := by simpa using c
        obtain ⟨n', rfl⟩ : ∃ n', n = n' + 1 := ⟨n - 1, by omega⟩
        simp only [d, cond_true]
        obtain ⟨m', d', hi, e⟩ := L_civil_m h1 h2 hl hd n' k (m + 1) (by omega) (by omega) (by omega) c
        rw [e]
        exact ⟨m', d', hi, rfl⟩
      · have d : decide (l ≥ cum y (m + 1)) = false := by simpa using c
        simp only [d, cond_false]
        exact ⟨m, l - cum y m + 1, ⟨h1, h2, hm1, hm2, by omega, by omega, by omega⟩, rfl⟩
    · have d12 : decide (m < 12) = false := by simpa using c12
      have : m = 12 := by omega
      subst this
      have h13 := cum_end y
      have : cum y (12 + 1) = cum y 13 := rfl
      simp only [d12, cond_false]
      exact ⟨12, l - cum y 12 + 1, ⟨h1, h2, hm1, hm2, by omega, by omega, by omega⟩, rfl⟩
theorem civil {day : Int} (h1 : 1 ≤ day) (h2 : day ≤ 3652059) : ∃ y m d, IsDate day y m d ∧ F_civil (day, ()) () = ⟨true, false, ((y, m, d, ()), true, ()), (), ()⟩ := by
  rw [F_civil_eq]
  have e1 : decide (day < 1) = false := by simp; omega
  have e2 : decide (day > 3652059) = false := by simp; omega
  have hk : ∀ a h, k_civil a h = 200 := fun _ _ => rfl
  simp only [e1, e2, cond_false, hk]
  have mn : ∀ x : Int, (if (3 < x) then (3 : Int) else x) = if x < 3 then x else 3 := by intro x; split <;> split <;> omega
  have w1 : IntKind.i64.wrap (day - 1) = day - 1 := w64 (by omega) (by omega)
  have t1 : (day - 1).tdiv 146097 = (day - 1) / 146097 := Int.tdiv_eq_ediv_of_nonneg (by omega)
  have t2 : (day - 1).tmod 146097 = (day - 1) % 146097 := Int.tmod_eq_emod_of_nonneg (by omega)
  simp only [w1, t1, t2, mn]
  obtain ⟨q, hq⟩ : ∃ q, (day - 1) / 146097 = q := ⟨_, rfl⟩
  obtain ⟨r, hr⟩ : ∃ r, (day - 1) % 146097 = r := ⟨_, rfl⟩
  have r0 : 0 ≤ r := by omega
  have r9 : r ≤ 146096 := by omega
  have t3 : r.tdiv 36524 = r / 36524 := Int.tdiv_eq_ediv_of_nonneg r0
  have w2 : IntKind.i64.wrap (r / 36524) = r / 36524 := w64 (by omega) (by omega)
  simp only [hq, hr, t3, w2]
  obtain ⟨h, hh⟩ : ∃ h, (if r / 36524 < 3 then r / 36524 else 3) = h := ⟨_, rfl⟩
  have h03 : 0 ≤ h ∧ h ≤ 3 := by rw [← hh]; split <;> omega
  have hr36 : h * 36524 ≤ r := by rw [← hh]; split <;> omega
  simp only [hh]
  have w3 : IntKind.i64.wrap (h * 36524) = h * 36524 := w64 (by omega) (by omega)
  have w4 : IntKind.i64.wrap (r - h * 36524) = r - h * 36524 := w64 (by omega) (by omega)
  simp only [w3, w4]
  obtain ⟨r1, hr1⟩ : ∃ r1, r - h * 36524 = r1 := ⟨_, rfl⟩
  simp only [hr1]
  have r10 : 0 ≤ r1 := by omega
  have t4 : r1.tmod 1461 = r1 % 1461 := Int.tmod_eq_emod_of_nonneg r10
  have t5 : r1.tdiv 1461 = r1 / 1461 := Int.tdiv_eq_ediv_of_nonneg r10
  simp only [t4, t5]
  obtain ⟨f, hf⟩ : ∃ f, r1 / 1461 = f := ⟨_, rfl⟩
  obtain ⟨r2, hr2⟩ : ∃ r2, r1 % 1461 = r2 := ⟨_, rfl⟩
  have r20 : 0 ≤ r2 := by omega
  have t6 : r2.tdiv 365 = r2 / 365 := Int.tdiv_eq_ediv_of_nonneg r20
  have w5 : IntKind.i64.wrap (r2 / 365) = r2 / 365 := w64 (by omega) (by omega)
  simp only [hf, hr2, t6, w5]
  obtain ⟨o, ho⟩ : ∃ o, (if r2 / 365 < 3 then r2 / 365 else 3) = o := ⟨_, rfl⟩
  simp only [ho]
  obtain ⟨l, hl⟩ : ∃ l, r2 - o * 365 = l := ⟨_, rfl⟩
  obtain ⟨l0, l1, hnum, y1, y2, b1, b2, b3, b4, b5, b6, b7, b8, b9, b10, b11⟩ := year_of (day := day) (q := q) (r := r) (h := h) (r1 := r1) (f := f) (r2 := r2) (o := o) (l := l) h1 h2 hq.symm hr.symm hh.symm hr1.symm hf.symm hr2.symm ho.symm hl.symm
  have w6 : IntKind.i64.wrap (o * 365) = o * 365 := w64 (by omega) (by omega)
  have w7 : IntKind.i64.wrap l = l := w64 (by omega) (by omega)
  have w8 : IntKind.i64.wrap (400 * IntKind.i64.wrap q) = 400 * q := by rw [w64 (x := q) (by omega) (by omega)]; exact w64 (by omega) (by omega)
  have w9 : IntKind.i64.wrap (400 * q + 1) = 400 * q + 1 := w64 (by omega) (by omega)
  have w10 : IntKind.i64.wrap (100 * h) = 100 * h := w64 (by omega) (by omega)
  have w11 : IntKind.i64.wrap (4 * IntKind.i64.wrap f) = 4 * f := by rw [w64 (x := f) (by omega) (by omega)]; exact w64 (by omega) (by omega)
  have w12 : IntKind.i64.wrap (100 * h + 4 * f) = 100 * h + 4 * f := w64 (by omega) (by omega)
  have w13 : IntKind.i64.wrap (100 * h + 4 * f + o) = 100 * h + 4 * f + o := w64 (by omega) (by omega)
  have w14 : IntKind.i64.wrap (400 * q + 1 + (100 * h + 4 * f + o)) = 400 * q + 1 + (100 * h + 4 * f + o) := w64 (by omega) (by omega)
  simp only [w6, hl, w7, w8, w9, w10, w11, w12, w13, w14]
  obtain ⟨m', d', hi, e⟩ := L_civil_m (day := day) y1 y2 l1 hnum 11 200 1 (by omega) (by omega) (by omega) (by rw [cum_one]; exact l0)
  rw [e]
  exact ⟨_, m', d', hi, rfl⟩
theorem civils {day : Int} (h1 : 1 ≤ day) (h2 : day ≤ 3652059) : ∃ y m d, IsDate day y m d ∧ F_civil (day, ()) () = ⟨true, false, ((y, m, d, ()), true, ()), (), ()⟩ ∧ F_rCivil (day, ()) () = ⟨true, false, ((y, m, d, ()), true, ()), (), ()⟩ := by
  obtain ⟨y, m, d, hi, e⟩ := civil h1 h2
  obtain ⟨y', m', d', hi', e'⟩ := rCivil h1 h2
  obtain ⟨rfl, rfl, rfl⟩ := hi.one hi'
  exact ⟨y, m, d, hi, e, e'⟩
end Go.Proofs.YtklpneeakhbahaaGreatDoor.Fs
end
section
set_option linter.unusedVariables false
set_option linter.unusedSimpArgs false
namespace Go.Proofs.YtklpneeakhbahaaGreatDoor.Fs
open Go Go.Proofs.YtklpneeakhbahaaGreatDoor.Ls P Go.Proofs.YtklpneeakhbahaaGreatDoor.Cal
theorem number {y m d : Int} (h1 : 1 ≤ y) (h2 : y ≤ 9999) (m1 : 1 ≤ m) (m2 : m ≤ 12) (d1 : 1 ≤ d) (d2 : d ≤ mlen y m) : F_number ((y, m, d, ()), ()) () = ⟨true, false, (dby y + cum y m + d, true, ()), (), ()⟩ := by
  rw [F_number_eq]
  have hr := mlen_range y m
  have hb := dbyR h1 (show y ≤ 10000 by omega)
  have h01 := lp_01 y
  have e1 : decide (d < 1) = false := by simp; omega
  have e2 : decide (d > mlen y m) = false := by simp; omega
  have w1 : IntKind.i64.wrap (y - 1) = y - 1 := w64 (by omega) (by omega)
  have t1 : (y - 1).tdiv 4 = (y - 1) / 4 := Int.tdiv_eq_ediv_of_nonneg (by omega)
  have t2 : (y - 1).tdiv 100 = (y - 1) / 100 := Int.tdiv_eq_ediv_of_nonneg (by omega)
  have t3 : (y - 1).tdiv 400 = (y - 1) / 400 := Int.tdiv_eq_ediv_of_nonneg (by omega)
  have w2 : IntKind.i64.wrap (365 * (y - 1)) = 365 * (y - 1) := w64 (by omega) (by omega)
  have w3 : IntKind.i64.wrap ((y - 1) / 4) = (y - 1) / 4 := w64 (by omega) (by omega)
  have w4 : IntKind.i64.wrap ((y - 1) / 100) = (y - 1) / 100 := w64 (by omega) (by omega)
  have w5 : IntKind.i64.wrap ((y - 1) / 400) = (y - 1) / 400 := w64 (by omega) (by omega)
  have w6 : IntKind.i64.wrap (365 * (y - 1) + (y - 1) / 4) = 365 * (y - 1) + (y - 1) / 4 := w64 (by omega) (by omega)
  have w7 : IntKind.i64.wrap (365 * (y - 1) + (y - 1) / 4 - (y - 1) / 100) = 365 * (y - 1) + (y - 1) / 4 - (y - 1) / 100 := w64 (by omega) (by omega)
  have w8 : IntKind.i64.wrap (365 * (y - 1) + (y - 1) / 4 - (y - 1) / 100 + (y - 1) / 400) = dby y := w64 (by omega) (by omega)
  have hml : F_monthLen (y, m, ()) () = ⟨true, false, mlen y m, (), ()⟩ := by rw [monthLen, if_pos ⟨h1, h2, m1, m2⟩]
  simp only [hml, e1, e2, cond_false, leap h1 h2, w1, t1, t2, t3, w2, w3, w4, w5, w6, w7, w8]
  clear w1 t1 t2 t3 w2 w3 w4 w5 w6 w7 w8
  have hA : A m ≤ 334 ∧ 0 ≤ A m := by
    rcases months m1 m2 with rfl | rfl | rfl | rfl | rfl | rfl | rfl | rfl | rfl | rfl | rfl | rfl <;> simp [A]
  have hget : ([(0 : Int), (31 : Int), (59 : Int), (90 : Int), (120 : Int), (151 : Int), (181 : Int), (212 : Int), (243 : Int), (273 : Int), (304 : Int), (334 : Int), (365 : Int)] : List Int).getD ((IntKind.i64.wrap (m - 1)).toNat) (0 : Int) = A m := by
    rcases months m1 m2 with rfl | rfl | rfl | rfl | rfl | rfl | rfl | rfl | rfl | rfl | rfl | rfl <;> rfl
  have hbd : ((decide (0 ≤ (IntKind.i64.wrap (m - 1))) && decide ((IntKind.i64.wrap (m - 1)) < ((13 : Nat) : Int))) = true) := by
    rcases months m1 m2 with rfl | rfl | rfl | rfl | rfl | rfl | rfl | rfl | rfl | rfl | rfl | rfl <;> rfl
  have hbl : Nat.blt ((IntKind.i64.wrap (m - 1)).toNat) ([(0 : Int), (31 : Int), (59 : Int), (90 : Int), (120 : Int), (151 : Int), (181 : Int), (212 : Int), (243 : Int), (273 : Int), (304 : Int), (334 : Int), (365 : Int)] : List Int).length = true := by
    rcases months m1 m2 with rfl | rfl | rfl | rfl | rfl | rfl | rfl | rfl | rfl | rfl | rfl | rfl <;> rfl
  simp only [hget, hbd, hbl]
  generalize dby y = D at *
  have w1 : IntKind.i64.wrap (D + A m) = D + A m := w64 (by omega) (by omega)
  have w2 : IntKind.i64.wrap (D + A m + d) = D + A m + d := w64 (by omega) (by omega)
  have w3 : IntKind.i64.wrap (D + A m + d + 1) = D + A m + d + 1 := w64 (by omega) (by omega)
  simp only [w1, w2, w3]
  unfold cum
  by_cases c : 2 < m
  · have c' : decide (m > 2) = true := by simpa using c
    simp only [c', cond_true, if_pos c]
    rcases h01 with h | h
    · simp [h]
    · simp [h]
      rw [show D + A m + d + 1 = D + (A m + 1) + d by clear w1 w2 w3; omega]
  · have c' : decide (m > 2) = false := by simpa using c
    simp only [c', cond_false, if_neg c]
    simp
end Go.Proofs.YtklpneeakhbahaaGreatDoor.Fs
end
section
set_option linter.unusedVariables false
set_option linter.unusedSimpArgs false
namespace Go.Proofs.YtklpneeakhbahaaGreatDoor.Fs
open Go Go.Proofs.YtklpneeakhbahaaGreatDoor.Ls P Go.Proofs.YtklpneeakhbahaaGreatDoor.Cal
theorem L_rNumber_m {y m d : Int} (h1 : 1 ≤ y) (h2 : y ≤ 9999) (m2 : m ≤ 12) (d1 : 1 ≤ d) (d2 : d ≤ 31) : ∀ (n k : Nat) (i s : Int), n < k → 1 ≤ i → i + n = m → s = dby y + cum y i →
    L_rNumber_11 k (((), s, i, ()), (y, m, d, ()), ()) = ⟨true, false, (dby y + cum y m + d, true, ()), (), ()⟩
  | n, 0, i, s, hk, _, _, _ => by omega
  | n, k + 1, i, s, hk, hi, hn, hs => by
    rw [L_rNumber_11_eq]
    have hb := dbyR h1 (show y ≤ 10000 by omega)
    have hc := cum_range y hi (show i ≤ 13 by omega)
    have hr := mlen_range y i
    have hq := cum_succ y hi (show i ≤ 12 by omega)
    by_cases c : i < m
    · have e : decide (i < m) = true := by simpa using c
      have w1 : IntKind.i64.wrap (s + mlen y i) = s + mlen y i := w64 (by omega) (by omega)
      have w2 : IntKind.i64.wrap (i + 1) = i + 1 := w64 (by omega) (by omega)
      obtain ⟨n', rfl⟩ : ∃ n', n = n' + 1 := ⟨n - 1, by omega⟩
      simp only [e, cond_true, lenOf (m := i) (show 0 ≤ y by omega), w1, w2]
      rw [L_rNumber_m h1 h2 m2 d1 d2 n' k (i + 1) (s + mlen y i) (by omega) (by omega) (by omega) (by omega)]
      rfl
    · have e : decide (i < m) = false := by simpa using c
      have : i = m := by omega
      subst this
      have w1 : IntKind.i64.wrap (s + d) = s + d := w64 (by omega) (by omega)
      simp only [e, cond_false, w1]
      rw [hs]
theorem L_rNumber_y {y m d : Int} (h2 : y ≤ 9999) (m1 : 1 ≤ m) (m2 : m ≤ 12) (d1 : 1 ≤ d) (d2 : d ≤ 31) : ∀ (n k : Nat) (i s : Int), n + 20 < k → 1 ≤ i → i + n = y → s = dby i →
    L_rNumber_7 k (((), s, i, ()), (y, m, d, ()), ()) = ⟨true, false, (dby y + cum y m + d, true, ()), (), ()⟩
  | n, 0, i, s, hk, _, _, _ => by omega
  | n, k + 1, i, s, hk, hi, hn, hs => by
    rw [L_rNumber_7_eq]
    have hb := dbyR hi (show i ≤ 10000 by omega)
    have h01 := lp_01 i
    have hq := dby_succ i
    by_cases c : i < y
    · have e : decide (i < y) = true := by simpa using c
      have w1 : IntKind.i64.wrap (s + (365 + lp i)) = s + (365 + lp i) := w64 (by omega) (by omega)
      have w2 : IntKind.i64.wrap (i + 1) = i + 1 := w64 (by omega) (by omega)
      obtain ⟨n', rfl⟩ : ∃ n', n = n' + 1 := ⟨n - 1, by omega⟩
      simp only [e, cond_true, yearLen (show 0 ≤ i by omega), w1, w2]
      rw [L_rNumber_y h2 m1 m2 d1 d2 n' k (i + 1) (s + (365 + lp i)) (by omega) (by omega) (by omega) (by omega)]
      rfl
    · have e : decide (i < y) = false := by simpa using c
      have : i = y := by omega
      subst this
      have h1c := cum_one i
      simp only [e, cond_false]
      exact L_rNumber_m hi h2 m2 d1 d2 (m - 1).toNat k 1 s (by omega) (by omega) (by omega) (by omega)
theorem rNumber {y m d : Int} (h1 : 1 ≤ y) (h2 : y ≤ 9999) (m1 : 1 ≤ m) (m2 : m ≤ 12) (d1 : 1 ≤ d) (d2 : d ≤ mlen y m) : F_rNumber ((y, m, d, ()), ()) () = ⟨true, false, (dby y + cum y m + d, true, ()), (), ()⟩ := by
  rw [F_rNumber_eq]
  have hr := mlen_range y m
  have e1 : decide (d < 1) = false := by simp; omega
  have e2 : decide (d > mlen y m) = false := by simp; omega
  have w1 : IntKind.i64.wrap (y - 1) = y - 1 := w64 (by omega) (by omega)
  have t1 : (y - 1).tdiv 400 = (y - 1) / 400 := Int.tdiv_eq_ediv_of_nonneg (by omega)
  have w2 : IntKind.i64.wrap ((y - 1) / 400) = (y - 1) / 400 := w64 (by omega) (by omega)
  have w3 : IntKind.i64.wrap ((y - 1) / 400 * 146097) = (y - 1) / 400 * 146097 := w64 (by omega) (by omega)
  have w4 : IntKind.i64.wrap (400 * ((y - 1) / 400)) = 400 * ((y - 1) / 400) := w64 (by omega) (by omega)
  have w5 : IntKind.i64.wrap (400 * ((y - 1) / 400) + 1) = 400 * ((y - 1) / 400) + 1 := w64 (by omega) (by omega)
  have hk : ∀ a h, k_rNumber a h = 1000 := fun _ _ => rfl
  have hml : F_rMonthLen (y, m, ()) () = ⟨true, false, mlen y m, (), ()⟩ := by rw [rMonthLen, if_pos ⟨h1, h2, m1, m2⟩]
  simp only [hml, e1, e2, cond_false, w1, t1, w2, w3, w4, w5, hk]
  generalize hw : (y - 1) / 400 = w
  have hdby : dby (400 * w + 1) = w * 146097 := by unfold dby; omega
  rw [L_rNumber_y h2 m1 m2 d1 (by omega) (y - (400 * w + 1)).toNat 1000 (400 * w + 1) (w * 146097) (by omega) (by omega) (by omega) hdby.symm]
  rfl
def addP (y m : Int) (months anchor : Int) : Int × Bool × Unit :=
  let k := 12 * y + m - 13 + months
  if k < 0 ∨ 119988 ≤ k then (0, false, ())
  else
    let y' := k / 12 + 1
    let m' := k % 12 + 1
    (dby y' + cum y' m' + (if anchor < mlen y' m' then anchor else mlen y' m'), true, ())
theorem addMonthsB {day months anchor : Int} (h1 : 1 ≤ day) (h2 : day ≤ 3652059) (a1 : 1 ≤ anchor) (a2 : anchor ≤ 31) (k1 : -1000 ≤ months) (k2 : months ≤ 1000) :
    ∃ r, F_addMonths (day, months, anchor, ()) () = ⟨true, false, r, (), ()⟩ ∧ F_rAddMonths (day, months, anchor, ()) () = ⟨true, false, r, (), ()⟩ ∧ (r.2.1 = true → 1 ≤ r.1 ∧ r.1 ≤ 3652059) := by
  obtain ⟨y, m, d, hi, e, e'⟩ := civils h1 h2
  have y1 := hi.y1; have y2 := hi.y2; have m1 := hi.m1; have m2 := hi.m2
  refine ⟨addP y m months anchor, ?_, ?_, ?_⟩
  · rw [F_addMonths_eq]
    have d1 : decide (anchor < 1) = false := by simp; omega
    have d2 : decide (anchor > 31) = false := by simp; omega
    have d3 : decide (months ≤ -119988) = false := by simp; omega
    have d4 : decide (months ≥ 119988) = false := by simp; omega
    have w1 : IntKind.i64.wrap (12 * y) = 12 * y := w64 (by omega) (by omega)
    have w2 : IntKind.i64.wrap (12 * y + m) = 12 * y + m := w64 (by omega) (by omega)
    have w3 : IntKind.i64.wrap (12 * y + m - 13) = 12 * y + m - 13 := w64 (by omega) (by omega)
    have w4 : IntKind.i64.wrap (12 * y + m - 13 + months) = 12 * y + m - 13 + months := w64 (by omega) (by omega)
    simp only [e, Bool.not_true, cond_false, d1, d2, d3, d4, w1, w2, w3, w4]
    unfold addP
    generalize hk : 12 * y + m - 13 + months = k
    by_cases c1 : k < 0
    · have c1' : decide (k < 0) = true := by simpa using c1
      simp only [c1', cond_true]; simp only [c1, true_or, if_true]
    have c1' : decide (k < 0) = false := by simpa using c1
    by_cases c2 : k ≥ 119988
    · have c2' : decide (k ≥ 119988) = true := by simpa using c2
      simp only [c1', c2', cond_true, cond_false]; rw [if_pos (Or.inr c2)]
    have c2' : decide (k ≥ 119988) = false := by simpa using c2
    have t1 : k.tdiv 12 = k / 12 := Int.tdiv_eq_ediv_of_nonneg (by omega)
    have t2 : k.tmod 12 = k % 12 := Int.tmod_eq_emod_of_nonneg (by omega)
    have w5 : IntKind.i64.wrap (k / 12) = k / 12 := w64 (by omega) (by omega)
    have w6 : IntKind.i64.wrap (k / 12 + 1) = k / 12 + 1 := w64 (by omega) (by omega)
    have w7 : IntKind.i64.wrap (k % 12 + 1) = k % 12 + 1 := w64 (by omega) (by omega)
    simp only [c1', c2', cond_false, t1, t2, w5, w6, w7]
    rw [if_neg (show ¬ (k < 0 ∨ 119988 ≤ k) by clear w5 w6 w7; omega)]
    have hr := mlen_range (k / 12 + 1) (k % 12 + 1)
    have hml : F_monthLen (k / 12 + 1, k % 12 + 1, ()) () = ⟨true, false, mlen (k / 12 + 1) (k % 12 + 1), (), ()⟩ := by
      rw [monthLen, if_pos (show 1 ≤ k / 12 + 1 ∧ k / 12 + 1 ≤ 9999 ∧ 1 ≤ k % 12 + 1 ∧ k % 12 + 1 ≤ 12 by clear w5 w6 w7; omega)]
    simp only [hml]
    clear w1 w2 w3 w4 w5 w6 w7
    have hmin : (if mlen (k / 12 + 1) (k % 12 + 1) < anchor then mlen (k / 12 + 1) (k % 12 + 1) else anchor) = if anchor < mlen (k / 12 + 1) (k % 12 + 1) then anchor else mlen (k / 12 + 1) (k % 12 + 1) := by split <;> split <;> omega
    rw [hmin]
    rw [number (by omega) (by omega) (by omega) (by omega) (by split <;> omega) (by split <;> omega)]
    rfl
  · rw [F_rAddMonths_eq]
    have d0 : decide (day ≥ 1) = true := by simpa using h1
    have d0' : decide (day ≤ 3652059) = true := by simpa using h2
    have d1 : decide (anchor < 1) = false := by simp; omega
    have d2 : decide (anchor > 31) = false := by simp; omega
    have d3 : decide (months < -119987) = false := by simp; omega
    have d4 : decide (months > 119987) = false := by simp; omega
    have w0 : IntKind.i64.wrap (y - 1) = y - 1 := w64 (by omega) (by omega)
    have w1 : IntKind.i64.wrap (12 * (y - 1)) = 12 * (y - 1) := w64 (by omega) (by omega)
    have w2 : IntKind.i64.wrap (12 * (y - 1) + m) = 12 * (y - 1) + m := w64 (by omega) (by omega)
    have w3 : IntKind.i64.wrap (12 * (y - 1) + m - 1) = 12 * y + m - 13 := by clear w0 w1 w2; rw [w64 (by omega) (by omega)]; omega
    have w4 : IntKind.i64.wrap (12 * y + m - 13 + months) = 12 * y + m - 13 + months := w64 (by omega) (by omega)
    simp only [e', d0, d0', cond_true, Bool.not_true, cond_false, d1, d2, d3, d4, w0, w1, w2, w3, w4]
    unfold addP
    generalize hk : 12 * y + m - 13 + months = k
    by_cases c1 : k < 0
    · have c1' : decide (k < 0) = true := by simpa using c1
      simp only [c1', cond_true]; simp only [c1, true_or, if_true, Bool.and_true]
    have c1' : decide (k < 0) = false := by simpa using c1
    by_cases c2 : k ≥ 119988
    · have c2' : decide (k ≥ 119988) = true := by simpa using c2
      simp only [c1', c2', cond_true, cond_false]; rw [if_pos (Or.inr c2)]; rfl
    have c2' : decide (k ≥ 119988) = false := by simpa using c2
    have t1 : k.tdiv 12 = k / 12 := Int.tdiv_eq_ediv_of_nonneg (by omega)
    have t2 : k.tmod 12 = k % 12 := Int.tmod_eq_emod_of_nonneg (by omega)
    have w5 : IntKind.i64.wrap (k / 12) = k / 12 := w64 (by omega) (by omega)
    have w6 : IntKind.i64.wrap (k / 12 + 1) = k / 12 + 1 := w64 (by omega) (by omega)
    have w7 : IntKind.i64.wrap (k % 12 + 1) = k % 12 + 1 := w64 (by omega) (by omega)
    simp only [c1', c2', cond_false, t1, t2, w5, w6, w7, Bool.and_true]
    rw [if_neg (show ¬ (k < 0 ∨ 119988 ≤ k) by clear w5 w6 w7; omega)]
    have hr := mlen_range (k / 12 + 1) (k % 12 + 1)
    simp only [lenOf (m := k % 12 + 1) (show 0 ≤ k / 12 + 1 by omega)]
    have hmin : (bif decide (anchor < mlen (k / 12 + 1) (k % 12 + 1)) then anchor else mlen (k / 12 + 1) (k % 12 + 1)) = if anchor < mlen (k / 12 + 1) (k % 12 + 1) then anchor else mlen (k / 12 + 1) (k % 12 + 1) := by
      by_cases c : anchor < mlen (k / 12 + 1) (k % 12 + 1) <;> simp [c]
    rw [hmin]
    rw [rNumber (by omega) (by omega) (by omega) (by omega) (by split <;> omega) (by split <;> omega)]
    simp
  · intro hr
    unfold addP at hr ⊢
    generalize 12 * y + m - 13 + months = k at *
    by_cases c : k < 0 ∨ 119988 ≤ k
    · rw [if_pos c] at hr; cases hr
    · rw [if_neg c]
      have hr := mlen_range (k / 12 + 1) (k % 12 + 1)
      have hy1 : 1 ≤ k / 12 + 1 := by omega
      have hy2 : k / 12 + 1 ≤ 9999 := by omega
      have hm1 : 1 ≤ k % 12 + 1 := by omega
      have hm2 : k % 12 + 1 ≤ 12 := by omega
      show 1 ≤ dby _ + cum _ _ + _ ∧ dby _ + cum _ _ + _ ≤ _
      generalize k / 12 + 1 = Y at *
      generalize k % 12 + 1 = M at *
      have hi : IsDate (dby Y + cum Y M + (if anchor < mlen Y M then anchor else mlen Y M)) Y M (if anchor < mlen Y M then anchor else mlen Y M) := ⟨hy1, hy2, hm1, hm2, by split <;> omega, by split <;> omega, rfl⟩
      have := hi.inyear
      have hb := dbyR hy1 (show Y ≤ 10000 by omega)
      have hb2 := dbyR (show 1 ≤ Y + 1 by omega) (show Y + 1 ≤ 10000 by omega)
      omega
end Go.Proofs.YtklpneeakhbahaaGreatDoor.Fs
end
section
set_option linter.unusedVariables false
set_option linter.unusedSimpArgs false
namespace Go.Proofs.YtklpneeakhbahaaGreatDoor.Fs
open Go Go.Proofs.YtklpneeakhbahaaGreatDoor.Ls P Go.Proofs.YtklpneeakhbahaaGreatDoor.Cal
theorem drop_contains {s : List Int} {i : Nat} (h : i < s.length) (v : Int) : (s.drop i).contains v = ((v == s.getD i 0) || (s.drop (i + 1)).contains v) := by
  rw [List.drop_eq_getElem_cons h, List.contains_cons]
  congr 2
  simp [List.getD, List.getElem?_eq_getElem h]
theorem inb {i : Nat} {n : Nat} (h : i < n) : ((decide ((0 : Int) ≤ (i : Int)) && decide ((i : Int) < ((n : Nat) : Int))) && (Nat.blt (i : Int).toNat n)) = true := by
  have a : decide ((0 : Int) ≤ (i : Int)) = true := by simp
  have b : decide ((i : Int) < ((n : Nat) : Int)) = true := by simp; omega
  have c : Nat.blt (i : Int).toNat n = true := by rw [Int.toNat_natCast]; exact Nat.ble_eq_true_of_le h
  rw [a, b, c]; rfl
theorem L_index {s : List Int} {v : Int} (hs : s.length ≤ 1000000) : ∀ (n k i : Nat), n < k → i + n = s.length →
    ∃ r, L_index_3 k (((), v, ((s.length : Nat) : Int), (i : Int), ()), s, ()) = ⟨true, false, r, ((), ()), ()⟩ ∧ decide (r ≥ 0) = (s.drop i).contains v
  | n, 0, i, hk, _ => by omega
  | n, k + 1, i, hk, hn => by
    rw [L_index_3_eq]
    by_cases c : i < s.length
    · have d : decide ((i : Int) < ((s.length : Nat) : Int)) = true := by simp; omega
      have w : IntKind.i64.wrap ((i : Int) + 1) = ((i + 1 : Nat) : Int) := w64 (by omega) (by omega)
      simp only [inb c]
      simp only [d, cond_true, w, Bool.true_and, Int.toNat_natCast]
      rw [drop_contains c]
      cases h : (v == s.getD i 0) with
      | true => exact ⟨(i : Int), rfl, by simp⟩
      | false =>
        obtain ⟨n', rfl⟩ : ∃ n', n = n' + 1 := ⟨n - 1, by omega⟩
        obtain ⟨r, e, hr⟩ := L_index (v := v) hs n' k (i + 1) (by omega) (by omega)
        refine ⟨r, ?_, ?_⟩
        · simp only [cond_false]; rw [e]
        · rw [hr]; rfl
    · have d : decide ((i : Int) < ((s.length : Nat) : Int)) = false := by simp; omega
      simp only [d, cond_false]
      refine ⟨-1, rfl, ?_⟩
      rw [List.drop_eq_nil_of_le (by omega)]; rfl
theorem contains {s : List Int} {v : Int} (hs : s.length ≤ 1000000) : F_contains ((), v, ()) (s, ()) = ⟨true, false, s.contains v, ((), ()), ()⟩ := by
  rw [F_contains_eq]
  obtain ⟨r, e, hr⟩ := L_index (v := v) hs s.length (s.length + 2) 0 (by omega) (by omega)
  have : F_index ((), v, ()) (s, ()) = ⟨true, false, r, ((), ()), ()⟩ := by
    rw [F_index_eq]; exact e
  simp only [this, hr, List.drop_zero]
def busB (day : Int) (s : List Int) : Bool := decide (1 ≤ day ∧ day ≤ 3652059) && (decide ((day - 1) % 7 + 1 ≤ 5) && !s.contains day)
theorem weekday {day : Int} : F_weekday (day, ()) () = ⟨true, false, (if 1 ≤ day ∧ day ≤ 3652059 then ((day - 1) % 7 + 1, true, ()) else (0, false, ())), (), ()⟩ := by
  rw [F_weekday_eq]
  by_cases h1 : day < 1
  · have d : decide (day < 1) = true := by simpa using h1
    simp only [d, cond_true]; rw [if_neg (by omega)]
  have d1 : decide (day < 1) = false := by simpa using h1
  by_cases h2 : day > 3652059
  · have d : decide (day > 3652059) = true := by simpa using h2
    simp only [d1, d, cond_true, cond_false]; rw [if_neg (by omega)]
  have d2 : decide (day > 3652059) = false := by simpa using h2
  have w1 : IntKind.i64.wrap (day - 1) = day - 1 := w64 (by omega) (by omega)
  have t1 : (day - 1).tmod 7 = (day - 1) % 7 := Int.tmod_eq_emod_of_nonneg (by omega)
  have w2 : IntKind.i64.wrap ((day - 1) % 7 + 1) = (day - 1) % 7 + 1 := w64 (by omega) (by omega)
  simp only [d1, d2, cond_false, w1, t1, w2]; rw [if_pos (by omega)]
theorem rWeekday {day : Int} : F_rWeekday (day, ()) () = ⟨true, false, (if 1 ≤ day ∧ day ≤ 3652059 then ((day - 1) % 7 + 1, true, ()) else (0, false, ())), (), ()⟩ := by
  rw [F_rWeekday_eq]
  by_cases h1 : day < 1
  · have d : decide (day ≥ 1) = false := by simp; omega
    simp only [d, cond_false, Bool.not_false, cond_true]; rw [if_neg (by omega)]
  have d1 : decide (day ≥ 1) = true := by simp; omega
  by_cases h2 : day > 3652059
  · have d : decide (day ≤ 3652059) = false := by simp; omega
    simp only [d1, d, cond_true, Bool.not_false]; rw [if_neg (by omega)]
  have d2 : decide (day ≤ 3652059) = true := by simp; omega
  have w1 : IntKind.i64.wrap (day - 1) = day - 1 := w64 (by omega) (by omega)
  have t1 : (day - 1).tmod 7 = (day - 1) % 7 := Int.tmod_eq_emod_of_nonneg (by omega)
  have w2 : IntKind.i64.wrap ((day - 1) % 7 + 1) = (day - 1) % 7 + 1 := w64 (by omega) (by omega)
  simp only [d1, d2, cond_true, Bool.not_true, cond_false, w1, t1, w2]; rw [if_pos (by omega)]
theorem business {day : Int} {s : List Int} (hs : s.length ≤ 1000000) : F_business (day, (), ()) (s, ()) = ⟨true, false, busB day s, ((), ()), ()⟩ := by
  rw [F_business_eq]
  have hw := weekday (day := day)
  simp only [hw, contains hs]
  unfold busB
  by_cases h : 1 ≤ day ∧ day ≤ 3652059
  · simp only [if_pos h, cond_true, Bool.and_true]
    have : decide (1 ≤ day ∧ day ≤ 3652059) = true := by simpa using h
    rw [this]
    cases h5 : decide ((day - 1) % 7 + 1 ≤ 5) <;> rfl
  · simp only [if_neg h, cond_false]
    have : decide (1 ≤ day ∧ day ≤ 3652059) = false := by simp only [decide_eq_false_iff_not]; exact h
    rw [this]; rfl
theorem L_rBusiness {s : List Int} {v : Int} (hs : s.length ≤ 1000000) : ∀ (n k i : Nat), n < k → i + n = s.length →
    L_rBusiness_6 k ((v, (), (i : Int), ()), s, ()) = ⟨true, false, !(s.drop i).contains v, ((), ()), ()⟩
  | n, 0, i, hk, _ => by omega
  | n, k + 1, i, hk, hn => by
    rw [L_rBusiness_6_eq]
    by_cases c : i < s.length
    · have d : decide ((i : Int) < ((s.length : Nat) : Int)) = true := by simp; omega
      have w : IntKind.i64.wrap ((i : Int) + 1) = ((i + 1 : Nat) : Int) := w64 (by omega) (by omega)
      simp only [inb c]
      simp only [d, cond_true, w, Bool.true_and, Int.toNat_natCast]
      rw [drop_contains c]
      have hsym : (s.getD i 0 == v) = (v == s.getD i 0) := by
        by_cases h : s.getD i 0 = v
        · rw [h]
        · have h' : v ≠ s.getD i 0 := fun e => h e.symm
          rw [beq_false_of_ne h, beq_false_of_ne h']
      rw [hsym]
      cases h : (v == s.getD i 0) with
      | true => rfl
      | false =>
        obtain ⟨n', rfl⟩ : ∃ n', n = n' + 1 := ⟨n - 1, by omega⟩
        simp only [cond_false]
        rw [L_rBusiness hs n' k (i + 1) (by omega) (by omega)]; rfl
    · have d : decide ((i : Int) < ((s.length : Nat) : Int)) = false := by simp; omega
      simp only [d, cond_false]
      rw [List.drop_eq_nil_of_le (by omega)]; rfl
theorem rBusiness {day : Int} {s : List Int} (hs : s.length ≤ 1000000) : F_rBusiness (day, (), ()) (s, ()) = ⟨true, false, busB day s, ((), ()), ()⟩ := by
  rw [F_rBusiness_eq]
  have e := L_rBusiness (v := day) hs s.length (s.length + 2) 0 (by omega) (by omega)
  have hk : k_rBusiness (day, (), ()) (s, ()) = s.length + 2 := rfl
  rw [hk]
  have e' : L_rBusiness_6 (s.length + 2) ((day, (), (0 : Int), ()), s, ()) = ⟨true, false, !s.contains day, ((), ()), ()⟩ := e
  have hw := rWeekday (day := day)
  simp only [hw, e']
  unfold busB
  by_cases h : 1 ≤ day ∧ day ≤ 3652059
  · simp only [if_pos h, Bool.not_true, cond_false, Bool.and_true]
    have : decide (1 ≤ day ∧ day ≤ 3652059) = true := by simpa using h
    rw [this]
    by_cases h5 : (day - 1) % 7 + 1 ≤ 5
    · have a : decide ((day - 1) % 7 + 1 > 5) = false := by simp; omega
      have b : decide ((day - 1) % 7 + 1 ≤ 5) = true := by simpa using h5
      rw [a, b]; rfl
    · have a : decide ((day - 1) % 7 + 1 > 5) = true := by simp; omega
      have b : decide ((day - 1) % 7 + 1 ≤ 5) = false := by simpa using h5
      rw [a, b]; rfl
  · simp only [if_neg h, Bool.not_false, cond_true]
    have : decide (1 ≤ day ∧ day ≤ 3652059) = false := by simp only [decide_eq_false_iff_not]; exact h
    rw [this]; rfl
end Go.Proofs.YtklpneeakhbahaaGreatDoor.Fs
end
section
set_option linter.unusedVariables false
set_option linter.unusedSimpArgs false
namespace Go.Proofs.YtklpneeakhbahaaGreatDoor.Fs
open Go Go.Proofs.YtklpneeakhbahaaGreatDoor.Ls P Go.Proofs.YtklpneeakhbahaaGreatDoor.Cal
def seekP (s : List Int) (step : Int) : Nat → Int → Int × Bool × Unit
  | 0, _ => (0, false, ())
  | n + 1, day => if busB day s = true then (day, true, ()) else seekP s step n (day + step)
theorem L_seek {s : List Int} {step : Int} (hs : s.length ≤ 1000000) (p1 : -1 ≤ step) (p2 : step ≤ 1) : ∀ (n k : Nat) (day i : Int), n < k → i + n = 11 → 0 ≤ i → -1000000000 - i ≤ day → day ≤ 1000000000 + i →
    L_seek_3 k ((day, (), step, i, ()), s, ()) = ⟨true, false, seekP s step n day, ((), ()), ()⟩
  | n, 0, day, i, hk, _, _, _, _ => by omega
  | n, k + 1, day, i, hk, hn, h0, h1, h2 => by
    rw [L_seek_3_eq]
    simp only [business hs]
    cases n with
    | zero =>
      have d : decide (i < 11) = false := by simp; omega
      simp only [d, cond_false]; rfl
    | succ n =>
      have d : decide (i < 11) = true := by simp; omega
      have w1 : IntKind.i64.wrap (day + step) = day + step := w64 (by omega) (by omega)
      have w2 : IntKind.i64.wrap (i + 1) = i + 1 := w64 (by omega) (by omega)
      simp only [d, cond_true, w1, w2]
      unfold seekP
      cases hb : busB day s with
      | true => rfl
      | false =>
        simp only [cond_false]
        rw [L_seek hs p1 p2 n k (day + step) (i + 1) (by omega) (by omega) (by omega) (by omega) (by omega)]
        rfl
theorem L_sought {s : List Int} {step day : Int} (hs : s.length ≤ 1000000) (p1 : -1 ≤ step) (p2 : step ≤ 1) (h1 : -1000000000 ≤ day) (h2 : day ≤ 1000000000) : ∀ (n k : Nat) (i : Int), n < k → i + n = 11 → 0 ≤ i →
    L_sought_3 k ((day, (), step, i, ()), s, ()) = ⟨true, false, seekP s step n (day + i * step), ((), ()), ()⟩
  | n, 0, i, hk, _, _ => by omega
  | n, k + 1, i, hk, hn, h0 => by
    rw [L_sought_3_eq]
    simp only [rBusiness hs]
    cases n with
    | zero =>
      have d : decide (i ≤ 10) = false := by simp; omega
      simp only [d, cond_false]; rfl
    | succ n =>
      have d : decide (i ≤ 10) = true := by simp; omega
      have e : (i + 1) * step = i * step + step := by rw [Int.add_mul, Int.one_mul]
      have b : -10 ≤ i * step ∧ i * step ≤ 10 := by
        have : step = -1 ∨ step = 0 ∨ step = 1 := by omega
        rcases this with rfl | rfl | rfl <;> omega
      have w1 : IntKind.i64.wrap (i * step) = i * step := w64 (by omega) (by omega)
      have w3 : IntKind.i64.wrap (day + i * step) = day + i * step := w64 (by omega) (by omega)
      have w2 : IntKind.i64.wrap (i + 1) = i + 1 := w64 (by omega) (by omega)
      simp only [d, cond_true, w1, w2, w3]
      unfold seekP
      cases hb : busB (day + i * step) s with
      | true => rfl
      | false =>
        simp only [cond_false]
        rw [L_sought hs p1 p2 h1 h2 n k (i + 1) (by omega) (by omega) (by omega), e]
        rw [show day + (i * step + step) = day + i * step + step by omega]
        rfl
theorem seek {s : List Int} {step day : Int} (hs : s.length ≤ 1000000) (p1 : -1 ≤ step) (p2 : step ≤ 1) (h1 : -1000000000 ≤ day) (h2 : day ≤ 1000000000) :
    F_seek (day, (), step, ()) (s, ()) = ⟨true, false, seekP s step 11 day, ((), ()), ()⟩ := by
  rw [F_seek_eq]
  have hk : ∀ a h, k_seek a h = 200 := fun _ _ => rfl
  rw [hk]
  exact L_seek hs p1 p2 11 200 day 0 (by omega) (by omega) (by omega) (by omega) (by omega)
theorem sought {s : List Int} {step day : Int} (hs : s.length ≤ 1000000) (p1 : -1 ≤ step) (p2 : step ≤ 1) (h1 : -1000000000 ≤ day) (h2 : day ≤ 1000000000) :
    F_sought (day, (), step, ()) (s, ()) = ⟨true, false, seekP s step 11 day, ((), ()), ()⟩ := by
  rw [F_sought_eq]
  have hk : ∀ a h, k_sought a h = 200 := fun _ _ => rfl
  rw [hk, L_sought hs p1 p2 h1 h2 11 200 0 (by omega) (by omega) (by omega)]
  rw [show day + 0 * step = day by omega]
theorem seekP_up {s : List Int} : ∀ (n : Nat) (day : Int), (seekP s 1 n day).2.1 = true → day ≤ (seekP s 1 n day).1 ∧ (seekP s 1 n day).1 ≤ day + n ∧ 1 ≤ (seekP s 1 n day).1 ∧ (seekP s 1 n day).1 ≤ 3652059
  | 0, day, h => by cases h
  | n + 1, day, h => by
    unfold seekP at h ⊢
    by_cases c : busB day s = true
    · rw [if_pos c]
      unfold busB at c
      simp only [Bool.and_eq_true, decide_eq_true_eq] at c
      show day ≤ day ∧ day ≤ day + _ ∧ 1 ≤ day ∧ day ≤ _
      omega
    · rw [if_neg c] at h ⊢
      have := seekP_up n (day + 1) h
      omega
theorem cum_near (y y' m : Int) : cum y m ≤ cum y' m + 1 := by
  have := lp_01 y; have := lp_01 y'
  unfold cum; split <;> omega
theorem same_year {a b y m d y' d' : Int} (h : IsDate a y m d) (h' : IsDate b y' m d') (h1 : a ≤ b) (h2 : b ≤ a + 11) : y = y' := by
  have i1 := h.inyear; have i2 := h'.inyear
  rcases Int.lt_trichotomy y y' with c | c | c
  · have e := dby_le (y' - (y + 1)).toNat (y + 1)
    rw [show y + 1 + ((y' - (y + 1)).toNat : Int) = y' by omega] at e
    have s := dby_succ y
    have l := lp_01 y
    have n1 := h.num; have n2 := h'.num; have d1 := h.d2; have d2 := h'.d1
    have r := mlen_range y m
    have cn := cum_near y y' m
    omega
  · exact c
  · have e := dby_le (y - (y' + 1)).toNat (y' + 1)
    rw [show y' + 1 + ((y - (y' + 1)).toNat : Int) = y by omega] at e
    omega
theorem adjusts {s : List Int} {day rule : Int} (hs : s.length ≤ 1000000) (h1 : 1 ≤ day) (h2 : day ≤ 3652059) :
    ∃ r, F_adjust (day, (), rule, ()) (s, ()) = ⟨true, false, r, ((), ()), ()⟩ ∧ F_rAdjust (day, (), rule, ()) (s, ()) = ⟨true, false, r, ((), ()), ()⟩ := by
  have g1 : decide (day < 1) = false := by simp; omega
  have g2 : decide (day > 3652059) = false := by simp; omega
  have g3 : decide (day ≥ 1) = true := by simp; omega
  have g4 : decide (day ≤ 3652059) = true := by simp; omega
  have sk1 := seek (step := 1) (day := day) hs (by omega) (by omega) (by omega) (by omega)
  have sk2 := seek (step := -1) (day := day) hs (by omega) (by omega) (by omega) (by omega)
  have su1 := sought (step := 1) (day := day) hs (by omega) (by omega) (by omega) (by omega)
  have su2 := sought (step := -1) (day := day) hs (by omega) (by omega) (by omega) (by omega)
  rw [F_adjust_eq, F_rAdjust_eq]
  simp only [g1, g2, g3, g4, cond_false, cond_true, Bool.not_true, sk1, sk2, su1, su2, Bool.and_true]
  cases r0 : (rule == 0) with
  | true => exact ⟨_, rfl, rfl⟩
  | false =>
  cases r1 : (rule == 1) with
  | true => exact ⟨_, rfl, rfl⟩
  | false =>
  cases r2 : (rule == 2) with
  | true => exact ⟨_, rfl, rfl⟩
  | false =>
  cases r3 : (rule == 3) with
  | false => exact ⟨_, rfl, rfl⟩
  | true =>
  simp only [cond_true, cond_false]
  have hup := seekP_up (s := s) 11 day
  generalize seekP s 1 11 day = P1 at *
  obtain ⟨n, ok, ⟨⟩⟩ := P1
  cases ok with
  | false => exact ⟨_, rfl, rfl⟩
  | true =>
    obtain ⟨u1, u2, u3, u4⟩ := hup rfl
    obtain ⟨y, m, d, hi, e, e'⟩ := civils h1 h2
    obtain ⟨y', m', d', hi', f, f'⟩ := civils u3 u4
    rw [F_sameMonth_eq]
    simp only [e, e', f, f', cond_true, Bool.and_true]
    by_cases hm : m = m'
    · subst hm
      have hy := same_year hi hi' u1 (by omega)
      subst hy
      simp only [beq_self_eq_true, cond_true, Bool.and_true]
      exact ⟨_, rfl, rfl⟩
    · have : (m == m') = false := by simpa using hm
      simp only [this, cond_false, Bool.and_false, Bool.false_and]
      exact ⟨_, rfl, rfl⟩
end Go.Proofs.YtklpneeakhbahaaGreatDoor.Fs
end
