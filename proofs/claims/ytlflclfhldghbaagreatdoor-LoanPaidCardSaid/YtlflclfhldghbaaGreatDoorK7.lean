-- Texts of this claim, joined and cut down to what it uses (a program of this session).
import Derived.Test.YtlflclfhldghbaaGreatDoorT6
import Derived.Test.YtlflclfhldghbaaGreatDoorProg
import Derived.KernelRfl
set_option linter.unusedVariables false
set_option linter.unusedSimpArgs false
set_option linter.unnecessarySimpa false
namespace Go.Proofs.YtlflclfhldghbaaGreatDoor.Fs
abbrev ZL := Int × (Int × Int × Int × Int × Int × Int × Unit) × Unit × ((Int × Int × Int × Int × Int × Int × Int × Int × Int × Int × Int × Int × Unit) × Unit) × (Int × Bool × Int × Int × Int × Int × Int × Int × Int × Int × Int × Int × Int × Int × Int × Unit) × Int × Int × Int × (Int × Int × Int × Int × Int × Unit) × Bool × Int × Int × Unit
abbrev ZN := Int × Int × Int × Int × Int × Bool × Unit
abbrev ZR := Int × Int × Int × Bool × Unit
abbrev ZE := Int × Int × Int × Unit
abbrev ZP := Int × Int × Int × Int × Int × Unit
abbrev ZT := Int × Int × Int × Int × Int × Int × Unit
abbrev ZQ := Int × Int × Int × Int × Int × Int × Int × Int × Int × Int × Int × Int × Int × Int × Int × Int × Int × Unit × Unit
abbrev ZK := Int × Bool × Int × Int × Int × Int × Int × Int × Int × Int × Int × Int × Int × Int × Int × Unit
abbrev ZB := (Int × Int × Int × Int × Int × Int × Int × Int × Int × Int × Int × Int × Unit) × Unit
abbrev ZO := ZL × ZP × Unit × Int × Unit
abbrev ZD := ZQ × ZL × ZP × Unit × Unit
abbrev ZF := Unit × Unit × (List ZR) × (List ZN) × Unit
abbrev ZG := ZD × Unit × Unit × Unit × (List ZN) × Unit
abbrev ZH := Unit × (List ZR) × (List ZN) × Unit
abbrev ZC := ZK × Int × Unit
end Go.Proofs.YtlflclfhldghbaaGreatDoor.Fs
section
set_option maxRecDepth 100000
namespace Go.Proofs.YtlflclfhldghbaaGreatDoor.Fs
open Go Go.Proofs.YtlflclfhldghbaaGreatDoor.Ls
noncomputable def C_settle : Cx TT := cxB tbl71 Go.Proofs.Tryz.f35.ntmps [] [] [] [] []
noncomputable def k_settle (a : g_settle.args.ty) (h : tysO TT g_settle.hp) : Nat := 0
noncomputable def F_settle : g_settle.args.ty → tysO TT g_settle.hp → Res TT g_settle := fun a h => bodyG C_settle g_settle Go.Proofs.Tryz.f35 [] (k_settle a h) a h
theorem F_settle_ok : FOK prog globs 35 g_settle F_settle :=
  bodyG_sound (cx := C_settle) mix (cxB_ok tbl71_ok _ _ _ _ _ _) (f := 35) (fn := Go.Proofs.Tryz.f35) (by kernel_rfl) (by kernel_rfl) (by kernel_rfl) (by kernel_rfl) _
theorem F_settle_eq (d : T82) (d_0 : List Int) (d_1 : List T123) (d_2 : List T53) : F_settle ((), ()) (d, d_0, d_1, d_2, ()) =
  let x0 := (F_play ((), ((7 : Int), (0 : Int), (0 : Int), (0 : Int), ()), ()) (d, d_0, d_1, d_2, ()))
  let x1 := ((F_owed (d.2.1, ()) (d_1, ())).ok && true)
  let x2 := (x1 && x0.ok)
  (bif (F_owed (d.2.1, ()) (d_1, ())).pan then ⟨(F_owed (d.2.1, ()) (d_1, ())).ok, true, (), ((((0 : Int), (0 : Int), (0 : Int), (0 : Int), (0 : Int), (0 : Int), (0 : Int), (0 : Int), (0 : Int), (0 : Int), (0 : Int), (0 : Int), (0 : Int), (0 : Int), (0 : Int), (0 : Int), (0 : Int), (), ()), ((0 : Int), ((0 : Int), (0 : Int), (0 : Int), (0 : Int), (0 : Int), (0 : Int), ()), (), (((0 : Int), (0 : Int), (0 : Int), (0 : Int), (0 : Int), (0 : Int), (0 : Int), (0 : Int), (0 : Int), (0 : Int), (0 : Int), (0 : Int), ()), ()), ((0 : Int), false, (0 : Int), (0 : Int), (0 : Int), (0 : Int), (0 : Int), (0 : Int), (0 : Int), (0 : Int), (0 : Int), (0 : Int), (0 : Int), (0 : Int), (0 : Int), ()), (0 : Int), (0 : Int), (0 : Int), ((0 : Int), (0 : Int), (0 : Int), (0 : Int), (0 : Int), ()), false, (0 : Int), (0 : Int), ()), ((0 : Int), (0 : Int), (0 : Int), (0 : Int), (0 : Int), ()), (), ()), (), (), (), ([] : List ZN), ()), ((F_owed (d.2.1, ()) (d_1, ())).pv : Int × Unit)⟩ else (bif ((IntKind.i64.wrap ((IntKind.i64.wrap (((F_owed (d.2.1, ()) (d_1, ())).ret : ZE).1 + (((F_owed (d.2.1, ()) (d_1, ())).ret : ZE).2).1)) + ((((F_owed (d.2.1, ()) (d_1, ())).ret : ZE).2).2).1)) == 0) then (bif x0.pan then ⟨x2, true, (), ((((0 : Int), (0 : Int), (0 : Int), (0 : Int), (0 : Int), (0 : Int), (0 : Int), (0 : Int), (0 : Int), (0 : Int), (0 : Int), (0 : Int), (0 : Int), (0 : Int), (0 : Int), (0 : Int), (0 : Int), (), ()), ((0 : Int), ((0 : Int), (0 : Int), (0 : Int), (0 : Int), (0 : Int), (0 : Int), ()), (), (((0 : Int), (0 : Int), (0 : Int), (0 : Int), (0 : Int), (0 : Int), (0 : Int), (0 : Int), (0 : Int), (0 : Int), (0 : Int), (0 : Int), ()), ()), ((0 : Int), false, (0 : Int), (0 : Int), (0 : Int), (0 : Int), (0 : Int), (0 : Int), (0 : Int), (0 : Int), (0 : Int), (0 : Int), (0 : Int), (0 : Int), (0 : Int), ()), (0 : Int), (0 : Int), (0 : Int), ((0 : Int), (0 : Int), (0 : Int), (0 : Int), (0 : Int), ()), false, (0 : Int), (0 : Int), ()), ((0 : Int), (0 : Int), (0 : Int), (0 : Int), (0 : Int), ()), (), ()), (), (), (), ([] : List ZN), ()), x0.pv⟩ else ⟨x2, false, (), x0.out, ((0 : Int), ())⟩) else ⟨x1, false, (), (d, (), (), (), d_2, ()), ((0 : Int), ())⟩)) := by kernel_rfl
noncomputable def tbl72 : List (Ent TT) := ⟨35, g_settle, F_settle⟩ :: tbl71
theorem tbl72_ok : TblOK prog globs tbl72 := tbl_cons (by kernel_rfl) F_settle_ok tbl71_ok
noncomputable def C_accrue : Cx TT := cxB tbl72 Go.Proofs.Tryz.f45.ntmps [] [] [] [] []
noncomputable def k_accrue (a : g_accrue.args.ty) (h : tysO TT g_accrue.hp) : Nat := 0
noncomputable def F_accrue : g_accrue.args.ty → tysO TT g_accrue.hp → Res TT g_accrue := fun a h => bodyG C_accrue g_accrue Go.Proofs.Tryz.f45 [] (k_accrue a h) a h
theorem F_accrue_ok : FOK prog globs 45 g_accrue F_accrue :=
  bodyG_sound (cx := C_accrue) mix (cxB_ok tbl72_ok _ _ _ _ _ _) (f := 45) (fn := Go.Proofs.Tryz.f45) (by kernel_rfl) (by kernel_rfl) (by kernel_rfl) (by kernel_rfl) _
theorem F_accrue_eq (days : Int) (d : T82) (d_0 : List Int) (d_1 : List T123) (d_2 : List T53) : F_accrue ((), days, ()) (d, d_0, d_1, d_2, ()) =
  let x0 := (F_over ((d.2.1.1, d.2.1.2.1, (), d.2.1.2.2.2.1, d.2.1.2.2.2.2.1, (IntKind.i64.wrap (d.2.1.2.2.2.2.2.1 + days)), d.2.1.2.2.2.2.2.2), ()) (d_1, ()))
  let x1 := x0.ok
  let x2 := (F_balance ((d.2.1.1, d.2.1.2.1, (), d.2.1.2.2.2.1, d.2.1.2.2.2.2.1, (IntKind.i64.wrap (d.2.1.2.2.2.2.2.1 + days)), d.2.1.2.2.2.2.2.2), (1 : Int), ()) (d_1, ()))
  let x3 := (F_span ((x2.ret : Int), d.2.1.2.1.2.2.1, d.2.1.2.2.2.2.2.2.1, days, ()) ())
  let x4 := (x3.ret : Int × Int × Bool × Unit)
  let x5 := x4.2
  let x6 := (((x1 && x2.ok) && x3.ok) && true)
  let x7 := (F_move ((), (), ()) ((d.1, (d.2.1.1, d.2.1.2.1, (), d.2.1.2.2.2.1, d.2.1.2.2.2.2.1, (IntKind.i64.wrap (d.2.1.2.2.2.2.2.1 + days)), d.2.1.2.2.2.2.2.2), d.2.2), d_0, d_1, d_2, [((2 : Int), (bif d.2.1.2.2.2.2.1.2.1 then (5 : Int) else (7 : Int)), x4.1, ())], ()))
  let x8 := ((bif d.2.1.2.2.2.2.1.2.1 then x6 else x6) && x7.ok)
  let x9 := (x7.out : ZD × Unit × Unit × Unit × Unit × Unit).1
  let x10 := x9.2
  let x11 := x10.1
  let x12 := x11.2
  let x13 := x12.2.2
  let x14 := x13.2
  let x15 := x14.2
  (bif (x0.ret : Bool) then ⟨x1, false, (), ((d.1, (d.2.1.1, d.2.1.2.1, (), d.2.1.2.2.2.1, d.2.1.2.2.2.2.1, (IntKind.i64.wrap (d.2.1.2.2.2.2.2.1 + days)), d.2.1.2.2.2.2.2.2), d.2.2), (), (), (), ()), ((0 : Int), ())⟩ else (bif x2.pan then ⟨false, false, (), ((((0 : Int), (0 : Int), (0 : Int), (0 : Int), (0 : Int), (0 : Int), (0 : Int), (0 : Int), (0 : Int), (0 : Int), (0 : Int), (0 : Int), (0 : Int), (0 : Int), (0 : Int), (0 : Int), (0 : Int), (), ()), ((0 : Int), ((0 : Int), (0 : Int), (0 : Int), (0 : Int), (0 : Int), (0 : Int), ()), (), (((0 : Int), (0 : Int), (0 : Int), (0 : Int), (0 : Int), (0 : Int), (0 : Int), (0 : Int), (0 : Int), (0 : Int), (0 : Int), (0 : Int), ()), ()), ((0 : Int), false, (0 : Int), (0 : Int), (0 : Int), (0 : Int), (0 : Int), (0 : Int), (0 : Int), (0 : Int), (0 : Int), (0 : Int), (0 : Int), (0 : Int), (0 : Int), ()), (0 : Int), (0 : Int), (0 : Int), ((0 : Int), (0 : Int), (0 : Int), (0 : Int), (0 : Int), ()), false, (0 : Int), (0 : Int), ()), ((0 : Int), (0 : Int), (0 : Int), (0 : Int), (0 : Int), ()), (), ()), (), (), (), ()), ((0 : Int), ())⟩ else (bif (!x5.2.1) then ⟨x6, true, (), ((((0 : Int), (0 : Int), (0 : Int), (0 : Int), (0 : Int), (0 : Int), (0 : Int), (0 : Int), (0 : Int), (0 : Int), (0 : Int), (0 : Int), (0 : Int), (0 : Int), (0 : Int), (0 : Int), (0 : Int), (), ()), ((0 : Int), ((0 : Int), (0 : Int), (0 : Int), (0 : Int), (0 : Int), (0 : Int), ()), (), (((0 : Int), (0 : Int), (0 : Int), (0 : Int), (0 : Int), (0 : Int), (0 : Int), (0 : Int), (0 : Int), (0 : Int), (0 : Int), (0 : Int), ()), ()), ((0 : Int), false, (0 : Int), (0 : Int), (0 : Int), (0 : Int), (0 : Int), (0 : Int), (0 : Int), (0 : Int), (0 : Int), (0 : Int), (0 : Int), (0 : Int), (0 : Int), ()), (0 : Int), (0 : Int), (0 : Int), ((0 : Int), (0 : Int), (0 : Int), (0 : Int), (0 : Int), ()), false, (0 : Int), (0 : Int), ()), ((0 : Int), (0 : Int), (0 : Int), (0 : Int), (0 : Int), ()), (), ()), (), (), (), ()), ((3 : Int), ())⟩ else (bif x7.pan then ⟨x8, true, (), ((((0 : Int), (0 : Int), (0 : Int), (0 : Int), (0 : Int), (0 : Int), (0 : Int), (0 : Int), (0 : Int), (0 : Int), (0 : Int), (0 : Int), (0 : Int), (0 : Int), (0 : Int), (0 : Int), (0 : Int), (), ()), ((0 : Int), ((0 : Int), (0 : Int), (0 : Int), (0 : Int), (0 : Int), (0 : Int), ()), (), (((0 : Int), (0 : Int), (0 : Int), (0 : Int), (0 : Int), (0 : Int), (0 : Int), (0 : Int), (0 : Int), (0 : Int), (0 : Int), (0 : Int), ()), ()), ((0 : Int), false, (0 : Int), (0 : Int), (0 : Int), (0 : Int), (0 : Int), (0 : Int), (0 : Int), (0 : Int), (0 : Int), (0 : Int), (0 : Int), (0 : Int), (0 : Int), ()), (0 : Int), (0 : Int), (0 : Int), ((0 : Int), (0 : Int), (0 : Int), (0 : Int), (0 : Int), ()), false, (0 : Int), (0 : Int), ()), ((0 : Int), (0 : Int), (0 : Int), (0 : Int), (0 : Int), ()), (), ()), (), (), (), ()), x7.pv⟩ else ⟨x8, false, (), ((x9.1, (x11.1, x12.1, (), x13.1, x14.1, x15.1, x5.1, x15.2.2), x10.2), (), (), (), ()), ((0 : Int), ())⟩)))) := by kernel_rfl
noncomputable def tbl73 : List (Ent TT) := ⟨45, g_accrue, F_accrue⟩ :: tbl72
theorem tbl73_ok : TblOK prog globs tbl73 := tbl_cons (by kernel_rfl) F_accrue_ok tbl72_ok
noncomputable def C_charge : Cx TT := cxB tbl73 Go.Proofs.Tryz.f46.ntmps [(4, s_charge_4)] [] [] [] []
noncomputable def k_charge (a : g_charge.args.ty) (h : tysO TT g_charge.hp) : Nat := h.2.2.1.length + 2
noncomputable def F_charge : g_charge.args.ty → tysO TT g_charge.hp → Res TT g_charge := fun a h => bodyG C_charge g_charge Go.Proofs.Tryz.f46 [] (k_charge a h) a h
theorem F_charge_ok : FOK prog globs 46 g_charge F_charge :=
  bodyG_sound (cx := C_charge) mix (cxB_ok tbl73_ok _ _ _ _ _ _) (f := 46) (fn := Go.Proofs.Tryz.f46) (by kernel_rfl) (by kernel_rfl) (by kernel_rfl) (by kernel_rfl) _
noncomputable def L_charge_4 (k : Nat) (v : s_charge_4.ty TT) : Res TT g_charge := loopG C_charge g_charge Go.Proofs.Tryz.f46 [] k (todoF Go.Proofs.Tryz.f46 4) (SS.st s_charge_4 0 v)
theorem F_charge_eq (d : T82) (d_0 : List Int) (d_1 : List T123) (d_2 : List T53) : F_charge ((), ()) (d, d_0, d_1, d_2, ()) =
  let x0 := (bif (d.2.1.2.2.2.2.1.1 == 3) then true else (bif (d.2.1.2.2.2.2.1.1 == 4) then true else (d.2.1.2.2.2.2.1.1 == 5)))
  let x1 := (bif (d.2.1.2.2.2.2.1.1 == 3) then true else (bif (d.2.1.2.2.2.2.1.1 == 4) then true else true))
  let x2 := (bif x0 then x1 else x1)
  let x3 := (F_missed ((), ((F_position (d.2.1, ()) (d_1, ())).ret : Int × Int × Unit), d.2.1.2.2.2.2.2.1, d.1.2.1, ()) (d_1, ()))
  let x4 := (x3.out : Unit × (List Int) × Unit).2
  let x5 := (L_charge_4 (k_charge ((), ()) (d, d_0, d_1, d_2, ())) (((), (), (), ((x4.1.length : Nat) : Int), (0 : Int), ()), d, d_0, d_1, d_2, x4))
  (bif (bif x0 then (d.2.1.2.2.2.2.1.1 == 4) else true) then ⟨x2, false, (), (d, (), (), (), d_1, d_2, ()), ((0 : Int), ())⟩ else (bif (F_position (d.2.1, ()) (d_1, ())).pan then ⟨false, false, (), ((((0 : Int), (0 : Int), (0 : Int), (0 : Int), (0 : Int), (0 : Int), (0 : Int), (0 : Int), (0 : Int), (0 : Int), (0 : Int), (0 : Int), (0 : Int), (0 : Int), (0 : Int), (0 : Int), (0 : Int), (), ()), ((0 : Int), ((0 : Int), (0 : Int), (0 : Int), (0 : Int), (0 : Int), (0 : Int), ()), (), (((0 : Int), (0 : Int), (0 : Int), (0 : Int), (0 : Int), (0 : Int), (0 : Int), (0 : Int), (0 : Int), (0 : Int), (0 : Int), (0 : Int), ()), ()), ((0 : Int), false, (0 : Int), (0 : Int), (0 : Int), (0 : Int), (0 : Int), (0 : Int), (0 : Int), (0 : Int), (0 : Int), (0 : Int), (0 : Int), (0 : Int), (0 : Int), ()), (0 : Int), (0 : Int), (0 : Int), ((0 : Int), (0 : Int), (0 : Int), (0 : Int), (0 : Int), ()), false, (0 : Int), (0 : Int), ()), ((0 : Int), (0 : Int), (0 : Int), (0 : Int), (0 : Int), ()), (), ()), (), (), (), ([] : List ZR), ([] : List ZN), ()), ((0 : Int), ())⟩ else ⟨(((x2 && (F_position (d.2.1, ()) (d_1, ())).ok) && x3.ok) && x5.ok), x5.pan, x5.ret, x5.out, x5.pv⟩)) := by kernel_rfl
theorem L_charge_4_eq (k : Nat) (t45 : Int) (t46 : Int) (d : T82) (d_0 : List Int) (d_1 : List T123) (d_2 : List T53) (rows : List Int) : L_charge_4 (k + 1) (((), (), (), t45, t46, ()), (d, d_0, d_1, d_2, rows, ())) =
  let x0 := (d_1.getD ((rows.getD t46.toNat (0 : Int)).toNat) ((0 : Int), (0 : Int), (0 : Int), false, ())).2
  let x1 := (F_assess (d.1, (IntKind.i64.wrap (x0.1 + x0.2.1)), d.2.1.2.2.2.2.1.2.2.2.2.2.2.2.2.2.2.2.2.2) (d_0, ()))
  let x2 := (x1.ret : Int)
  let x3 := (((((decide (0 ≤ t46) && decide (t46 < ((rows.length : Nat) : Int))) && (Nat.blt t46.toNat rows.length)) && (decide (0 ≤ (rows.getD t46.toNat (0 : Int))) && decide ((rows.getD t46.toNat (0 : Int)) < ((d_1.length : Nat) : Int)))) && (Nat.blt ((rows.getD t46.toNat (0 : Int)).toNat) d_1.length)) && x1.ok)
  let x4 := (L_charge_4 k (((), (), (), t45, (IntKind.i64.wrap (t46 + 1)), ()), d, d_0, d_1, d_2, rows, ()))
  let x5 := (F_play ((), ((6 : Int), (0 : Int), (0 : Int), x2, ()), ()) (d, d_0, d_1, d_2, ()))
  let x6 := (x3 && x5.ok)
  let x7 := (x5.out : ZG)
  let x8 := x7.2.2.2.2
  let x9 := (F_move ((), (), ()) (x7.1, d_0, d_1, x8.1, [((3 : Int), (8 : Int), x2, ())], ()))
  let x10 := (x6 && x9.ok)
  let x11 := (F_note ((), (5 : Int), x2, ()) ((x9.out : ZD × Unit × Unit × Unit × Unit × Unit).1, d_0, d_1, x8))
  let x12 := (x11.out : ZG)
  let x13 := (L_charge_4 k (((), (), (), t45, (IntKind.i64.wrap (t46 + 1)), ()), x12.1, d_0, d_1, x12.2.2.2.2.1, rows, ()))
  (bif decide (t46 < t45) then (bif (x2 == 0) then ⟨(x3 && x4.ok), x4.pan, x4.ret, x4.out, x4.pv⟩ else (bif x5.pan then ⟨x6, true, (), ((((0 : Int), (0 : Int), (0 : Int), (0 : Int), (0 : Int), (0 : Int), (0 : Int), (0 : Int), (0 : Int), (0 : Int), (0 : Int), (0 : Int), (0 : Int), (0 : Int), (0 : Int), (0 : Int), (0 : Int), (), ()), ((0 : Int), ((0 : Int), (0 : Int), (0 : Int), (0 : Int), (0 : Int), (0 : Int), ()), (), (((0 : Int), (0 : Int), (0 : Int), (0 : Int), (0 : Int), (0 : Int), (0 : Int), (0 : Int), (0 : Int), (0 : Int), (0 : Int), (0 : Int), ()), ()), ((0 : Int), false, (0 : Int), (0 : Int), (0 : Int), (0 : Int), (0 : Int), (0 : Int), (0 : Int), (0 : Int), (0 : Int), (0 : Int), (0 : Int), (0 : Int), (0 : Int), ()), (0 : Int), (0 : Int), (0 : Int), ((0 : Int), (0 : Int), (0 : Int), (0 : Int), (0 : Int), ()), false, (0 : Int), (0 : Int), ()), ((0 : Int), (0 : Int), (0 : Int), (0 : Int), (0 : Int), ()), (), ()), (), (), (), ([] : List ZR), ([] : List ZN), ()), x5.pv⟩ else (bif x9.pan then ⟨x10, true, (), ((((0 : Int), (0 : Int), (0 : Int), (0 : Int), (0 : Int), (0 : Int), (0 : Int), (0 : Int), (0 : Int), (0 : Int), (0 : Int), (0 : Int), (0 : Int), (0 : Int), (0 : Int), (0 : Int), (0 : Int), (), ()), ((0 : Int), ((0 : Int), (0 : Int), (0 : Int), (0 : Int), (0 : Int), (0 : Int), ()), (), (((0 : Int), (0 : Int), (0 : Int), (0 : Int), (0 : Int), (0 : Int), (0 : Int), (0 : Int), (0 : Int), (0 : Int), (0 : Int), (0 : Int), ()), ()), ((0 : Int), false, (0 : Int), (0 : Int), (0 : Int), (0 : Int), (0 : Int), (0 : Int), (0 : Int), (0 : Int), (0 : Int), (0 : Int), (0 : Int), (0 : Int), (0 : Int), ()), (0 : Int), (0 : Int), (0 : Int), ((0 : Int), (0 : Int), (0 : Int), (0 : Int), (0 : Int), ()), false, (0 : Int), (0 : Int), ()), ((0 : Int), (0 : Int), (0 : Int), (0 : Int), (0 : Int), ()), (), ()), (), (), (), ([] : List ZR), ([] : List ZN), ()), x9.pv⟩ else ⟨((x10 && x11.ok) && x13.ok), x13.pan, x13.ret, x13.out, x13.pv⟩))) else ⟨(F_mark ((), (), ()) (d_1, rows, ())).ok, false, (), (d, (), (), (), ((((F_mark ((), (), ()) (d_1, rows, ())).out : Unit × Unit × (List ZR) × Unit).2).2).1, d_2, ()), ((0 : Int), ())⟩) := by kernel_rfl
noncomputable def tbl74 : List (Ent TT) := ⟨46, g_charge, F_charge⟩ :: tbl73
theorem tbl74_ok : TblOK prog globs tbl74 := tbl_cons (by kernel_rfl) F_charge_ok tbl73_ok
noncomputable def C_take : Cx TT := cxB tbl74 Go.Proofs.Tryz.f28.ntmps [] [] [] [] []
noncomputable def k_take (a : g_take.args.ty) (h : tysO TT g_take.hp) : Nat := 0
noncomputable def F_take : g_take.args.ty → tysO TT g_take.hp → Res TT g_take := fun a h => bodyG C_take g_take Go.Proofs.Tryz.f28 [] (k_take a h) a h
theorem F_take_ok : FOK prog globs 28 g_take F_take :=
  bodyG_sound (cx := C_take) mix (cxB_ok tbl74_ok _ _ _ _ _ _) (f := 28) (fn := Go.Proofs.Tryz.f28) (by kernel_rfl) (by kernel_rfl) (by kernel_rfl) (by kernel_rfl) _
theorem F_take_eq (amount : Int) (d : T82) (d_0 : List Int) (d_1 : List T123) (d_2 : List T53) : F_take ((), amount, ()) (d, d_0, d_1, d_2, ()) =
  let x0 := (⟨false, false, (((0 : Int), (0 : Int), (0 : Int), (0 : Int), (0 : Int), ()), (0 : Int), ()), ((), (), (), (), ()), ((0 : Int), ())⟩ : Res TT g_take)
  let x1 := (F_recover_ ((IntKind.i64.wrap (d.2.1.2.2.2.2.2.2.2.2.2.2.1 - ((F_balance (d.2.1, (10 : Int), ()) (d_1, ())).ret : Int))), amount, ()) ())
  let x2 := (F_allocate (d.1.2.2.2.2.2.2.2.2.2.2.2.2.1, ((F_owed (d.2.1, ()) (d_1, ())).ret : ZE), amount, ()) ())
  (bif (d.2.1.2.2.2.2.1.1 == 9) then ⟨true, false, (((0 : Int), (0 : Int), (0 : Int), amount, (0 : Int), ()), (0 : Int), ()), ((), (), (), (), ()), ((0 : Int), ())⟩ else (bif (d.2.1.2.2.2.2.1.1 == 8) then (bif (F_balance (d.2.1, (10 : Int), ()) (d_1, ())).pan then x0 else ⟨((F_balance (d.2.1, (10 : Int), ()) (d_1, ())).ok && x1.ok), false, x1.ret, ((), (), (), (), ()), ((0 : Int), ())⟩) else (bif (F_owed (d.2.1, ()) (d_1, ())).pan then x0 else ⟨((F_owed (d.2.1, ()) (d_1, ())).ok && x2.ok), false, x2.ret, ((), (), (), (), ()), ((0 : Int), ())⟩))) := by kernel_rfl
noncomputable def tbl75 : List (Ent TT) := ⟨28, g_take, F_take⟩ :: tbl74
theorem tbl75_ok : TblOK prog globs tbl75 := tbl_cons (by kernel_rfl) F_take_ok tbl74_ok
end Go.Proofs.YtlflclfhldghbaaGreatDoor.Fs
end
section
set_option maxRecDepth 20000
namespace Go.Proofs.YtlflclfhldghbaaGreatDoor.Fs
open Go Go.Proofs.YtlflclfhldghbaaGreatDoor.Ls P
noncomputable section
abbrev DeskT := PolT × LoanT × PartsT × Unit × Unit
def deskZ : DeskT := (pol0, loan0, parts0, (), ())
def epan {α : Type} : Except Int α → Bool | .error _ => true | .ok _ => false
def eerr {α : Type} : Except Int α → Int | .error e => e | .ok _ => 0
def mdesk (d : DeskT) : Except Int LoanT → DeskT | .error _ => deskZ | .ok l => (d.1, l, d.2.2)
theorem sumE_err : ∀ (es : List EntT) (f : Nat → Int) (e : Int), sumE f es = .error e → e ≠ 0
  | [], f, e, h => by cases h
  | x :: r, f, e, h => by
    unfold sumE at h
    split at h
    · cases h; assumption
    · exact sumE_err r _ e h
theorem sPost_err {b es e} (h : sPost b es = .error e) : e ≠ 0 := by
  unfold sPost at h
  split at h
  · rename_i hh; cases h; exact sumE_err _ _ _ hh
  · split at h
    · split at h
      · cases h
      · cases h; omega
    · cases h; omega
theorem sMove_err {l es e} (h : sMove l es = .error e) : e ≠ 0 := by
  unfold sMove at h
  split at h
  · rename_i hh; cases h; exact sPost_err hh
  · cases h
theorem postS (es : List EntT) (b : BookT) (hb : allR (net b)) (hl : es.length ≤ 5000) (hes : ∀ e ∈ es, e.2.2.1 ≤ 9223372036854775807) :
    F_post (b, (), ()) (es, ()) = (match sPost b es with | .error e => ⟨true, false, (b, e, ()), ((), ()), ()⟩ | .ok b' => ⟨true, false, (b', 0, ()), ((), ()), ()⟩) := by
  rw [post es b hb hl hes]
  unfold sPost rP finB
  cases sumE (net b) es with
  | error e => rfl
  | ok f =>
    simp only []
    by_cases h1 : allR f
    · rw [if_pos h1, if_pos h1]
      by_cases h2 : sided f
      · rw [if_pos h2, if_pos h2]
      · rw [if_neg h2, if_neg h2]
    · rw [if_neg h1, if_neg h1]
theorem move (d : DeskT) (d0 : List Int) (d1 : List RowT) (d2 : List NoteT) (es : List EntT) (hb : allR (net (Lbook d.2.1))) (hl : es.length ≤ 1000) (hes : ∀ e ∈ es, e.2.2.1 ≤ 9223372036854775807) :
    F_move ((), (), ()) (d, d0, d1, d2, es, ()) = ⟨true, epan (sMove d.2.1 es), (), (mdesk d (sMove d.2.1 es), (), (), (), (), ()), (eerr (sMove d.2.1 es), ())⟩ := by
  obtain ⟨out, m, c, e1, e2⟩ := delF es (by omega)
  have hp := postS (es.filter (fun e => e.2.2.1 != 0)) (Lbook d.2.1) hb (Nat.le_trans (List.length_filter_le _ _) (by omega)) (fun e he => hes e (List.mem_filter.mp he).1)
  rw [F_move_eq, e1]
  simp only []
  rw [e2, hp]
  have hs : sMove d.2.1 es = (match sPost (Lbook d.2.1) (es.filter (fun e => e.2.2.1 != 0)) with | .error e => .error e | .ok b => .ok (setBook d.2.1 b)) := rfl
  rw [hs]
  cases hr : sPost (Lbook d.2.1) (es.filter (fun e => e.2.2.1 != 0)) with
  | error e =>
    have : (e != 0) = true := by simpa using sPost_err hr
    simp only [this, ctt, ln12, nb12, tand, andt]
    rfl
  | ok b =>
    have h0 : ((0 : Int) != 0) = false := rfl
    simp only [h0, cff, ln12, nb12, nbd, tand, andt, gd0, gd1, gd2, gd3, gd4, gd5, gd6, gd7, gd8, gd9, gd10, gd11]
    rfl
theorem note (d : DeskT) (kind amount : Int) (d0 : List Int) (d1 : List RowT) (d2 : List NoteT) (h : d2.length ≤ 10000) :
    F_note ((), kind, amount, ()) (d, d0, d1, d2, ()) = ⟨true, false, (), (d, (), (), (), sNote d.2.1 d2 kind amount, ()), ()⟩ := by
  rw [F_note_eq]
  simp only []
  rw [ble48 (by simp; omega)]
  rfl
theorem forget (d : DeskT) (d0 : List Int) (d1 : List RowT) (d2 : List NoteT) :
    F_forget ((), ()) (d, d0, d1, d2, ()) = ⟨true, false, (), ((d.1, sForget d.2.1, d.2.2), (), (), (), ()), ()⟩ := by
  rw [F_forget_eq]
  rfl
theorem positionS (l : LoanT) (x : List RowT) : F_position (l, ()) (x, ()) = ⟨true, false, posOf l, ((), ()), (0, ())⟩ := position l x
theorem overS (l : LoanT) (x : List RowT) : F_over (l, ()) (x, ()) = ⟨true, false, lOver l, ((), ()), ()⟩ := by
  rw [over_ok]
  unfold lOver kOver
  rw [Bool.or_comm]
def sOwed (l : LoanT) : Int × Int × Int × Unit := (N l 3, N l 2, N l 1, ())
theorem owedS (l : LoanT) (x : List RowT) : F_owed (l, ()) (x, ()) = ⟨true, false, sOwed l, ((), ()), (0, ())⟩ := owed l x
theorem pdays (d : DeskT) (d0 : List Int) (d1 : List RowT) (d2 : List NoteT) (h : d1.length ≤ 10000) :
    F_pdays ((), ()) (d, d0, d1, d2, ()) = ⟨true, false, sDays d1 (posOf d.2.1) (Lday d.2.1), ((), (), (), (), ()), (0, ())⟩ := by
  rw [F_pdays_eq, positionS]
  simp only [cff]
  rw [adays h]
  simp only [tand]
theorem pastDue (d : DeskT) (d0 : List Int) (d1 : List RowT) (d2 : List NoteT) (h : d1.length ≤ 10000) :
    F_pastDue ((), ()) (d, d0, d1, d2, ()) = ⟨true, false, sPast d1 (posOf d.2.1) (Lday d.2.1), ((), (), (), (), ()), (0, ())⟩ := by
  rw [F_pastDue_eq, positionS]
  simp only [cff]
  rw [apast h]
  simp only [tand]
theorem balS (l : LoanT) (x : List RowT) {a : Int} {i : Nat} (ha : (a = 4 ∧ i = 4) ∨ (a = 5 ∧ i = 5) ∨ (a = 10 ∧ i = 10)) (hb : bookOk (Lbook l)) :
    F_balance (l, a, ()) (x, ()) = ⟨true, false, -(N l i), ((), ()), (0, ())⟩ := by
  obtain ⟨hr, hsd⟩ := hb
  unfold allR inR at hr
  unfold sided at hsd
  rcases ha with ⟨rfl, rfl⟩ | ⟨rfl, rfl⟩ | ⟨rfl, rfl⟩
  · have h1 := hr.2.2.2.2.1
    have e : (l.2.2.2.1.1.2.2.2.2.1 == (-9223372036854775808 : Int)) = false := by
      rw [beq_eq_false_iff_ne]; show net (Lbook l) 4 ≠ _; omega
    have e2 : IntKind.i64.wrap (0 - l.2.2.2.1.1.2.2.2.2.1) = -(N l 4) := by
      show IntKind.i64.wrap (0 - net (Lbook l) 4) = _; rw [w64 (by omega) (by omega)]; show 0 - net (Lbook l) 4 = - net (Lbook l) 4; omega
    have h : F_balance (l, (4 : Int), ()) (x, ()) = ⟨true, false, IntKind.i64.wrap (0 - l.2.2.2.1.1.2.2.2.2.1), ((), ()), (0, ())⟩ := by
      rw [F_balance_eq, F_lbal_eq]
      show (bif _ then _ else _) = _
      simp [e]
    rw [h, e2]
  · have h1 := hr.2.2.2.2.2.1
    have e : (l.2.2.2.1.1.2.2.2.2.2.1 == (-9223372036854775808 : Int)) = false := by
      rw [beq_eq_false_iff_ne]; show net (Lbook l) 5 ≠ _; omega
    have e2 : IntKind.i64.wrap (0 - l.2.2.2.1.1.2.2.2.2.2.1) = -(N l 5) := by
      show IntKind.i64.wrap (0 - net (Lbook l) 5) = _; rw [w64 (by omega) (by omega)]; show 0 - net (Lbook l) 5 = - net (Lbook l) 5; omega
    have h : F_balance (l, (5 : Int), ()) (x, ()) = ⟨true, false, IntKind.i64.wrap (0 - l.2.2.2.1.1.2.2.2.2.2.1), ((), ()), (0, ())⟩ := by
      rw [F_balance_eq, F_lbal_eq]
      show (bif _ then _ else _) = _
      simp [e]
    rw [h, e2]
  · have h1 := hr.2.2.2.2.2.2.2.2.2.2.1
    have e : (l.2.2.2.1.1.2.2.2.2.2.2.2.2.2.2.1 == (-9223372036854775808 : Int)) = false := by
      rw [beq_eq_false_iff_ne]; show net (Lbook l) 10 ≠ _; omega
    have e2 : IntKind.i64.wrap (0 - l.2.2.2.1.1.2.2.2.2.2.2.2.2.2.2.1) = -(N l 10) := by
      show IntKind.i64.wrap (0 - net (Lbook l) 10) = _; rw [w64 (by omega) (by omega)]; show 0 - net (Lbook l) 10 = - net (Lbook l) 10; omega
    have h : F_balance (l, (10 : Int), ()) (x, ()) = ⟨true, false, IntKind.i64.wrap (0 - l.2.2.2.1.1.2.2.2.2.2.2.2.2.2.2.1), ((), ()), (0, ())⟩ := by
      rw [F_balance_eq, F_lbal_eq]
      show (bif _ then _ else _) = _
      simp [e]
    rw [h, e2]
end
end Go.Proofs.YtlflclfhldghbaaGreatDoor.Fs
end
section
set_option maxRecDepth 20000
namespace Go.Proofs.YtlflclfhldghbaaGreatDoor.Fs
open Go Go.Proofs.YtlflclfhldghbaaGreatDoor.Ls P
noncomputable section
abbrev RD := Except Int (LoanT × List NoteT)
def ddesk (d : DeskT) : RD → DeskT | .error _ => deskZ | .ok x => (d.1, x.1, d.2.2)
def dnote : RD → List NoteT | .error _ => [] | .ok x => x.2
def offEs (l : LoanT) : List EntT :=
  [(5, 2, (if N l 2 < -(N l 5) then N l 2 else -(N l 5)), ()), (5, 7, W (-(N l 5) - (if N l 2 < -(N l 5) then N l 2 else -(N l 5))), ()), (9, 1, N l 1, ()), (9, 2, W (N l 2 - (if N l 2 < -(N l 5) then N l 2 else -(N l 5))), ()), (9, 3, N l 3, ())]
def sChargeOff (l : LoanT) (nn : List NoteT) : RD :=
  match sMove (setOff l (total l)) (offEs l) with
  | .error e => .error e
  | .ok l2 => .ok (sForget l2, sNote (sForget l2) nn 4 (Loff (sForget l2)))
def sAct (plan : List RowT) (l : LoanT) (nn : List NoteT) (action : Int) : RD :=
  if action = 1 then .ok (l, sNote l nn 1 (sPast plan (posOf l) (Lday l)))
  else if action = 2 then .ok (l, sNote l nn 2 (sPast plan (posOf l) (Lday l)))
  else if action = 3 then .ok (l, sNote l nn 3 (sPast plan (posOf l) (Lday l)))
  else if action = 6 then
    match sMove l [(5, 7, -(N l 5), ())] with
    | .error e => .error e
    | .ok l2 => .ok (l2, sNote l2 nn 6 0)
  else if action = 8 then .ok (sForget l, sNote (sForget l) nn 8 0)
  else if action = 4 then sChargeOff l nn
  else .ok (l, nn)
def sActs (plan : List RowT) : LoanT → List NoteT → List Int → RD
  | l, nn, [] => .ok (l, nn)
  | l, nn, a :: r => match sAct plan l nn a with
    | .error e => .error e
    | .ok x => sActs plan x.1 x.2 r
def sPlay (p : PolT) (plan : List RowT) (l : LoanT) (nn : List NoteT) (e : EvT) : RD :=
  match sStep p (Lcase l) e with
  | .error x => .error x
  | .ok x => sActs plan (setCase l x.1) nn x.2
def sSettle (p : PolT) (plan : List RowT) (l : LoanT) (nn : List NoteT) : RD :=
  if total l = 0 then sPlay p plan l nn (7, 0, 0, 0, ()) else .ok (l, nn)
theorem net_mk {f : Nat → Int} {i : Nat} (h : i < 12) : net (mkBook f) i = f i := by
  match i, h with
  | 0, _ => rfl | 1, _ => rfl | 2, _ => rfl | 3, _ => rfl | 4, _ => rfl | 5, _ => rfl
  | 6, _ => rfl | 7, _ => rfl | 8, _ => rfl | 9, _ => rfl | 10, _ => rfl | 11, _ => rfl
theorem bookOk_post {b es b'} (h : sPost b es = .ok b') : bookOk b' := by
  unfold sPost at h
  split at h
  · cases h
  · split at h
    · split at h
      · rename_i h1 h2
        cases h
        exact ⟨h1, h2⟩
      · cases h
    · cases h
theorem move_ok {l es l'} (h : sMove l es = .ok l') : bookOk (Lbook l') ∧ l' = setBook l (Lbook l') := by
  unfold sMove at h
  split at h
  · cases h
  · rename_i hp; cases h; exact ⟨bookOk_post hp, rfl⟩
theorem wle (x : Int) : W x ≤ 9223372036854775807 := by unfold W; rw [iw]; omega
theorem bR {b : BookT} (h : bookOk b) : net b 1 ≤ 9223372036854775807 ∧ net b 2 ≤ 9223372036854775807 ∧ net b 3 ≤ 9223372036854775807 ∧ -(net b 5) ≤ 9223372036854775807 ∧ 0 ≤ net b 1 ∧ 0 ≤ net b 2 ∧ 0 ≤ net b 3 ∧ 0 ≤ -(net b 5) := by
  obtain ⟨hr, hs⟩ := h
  unfold allR inR at hr
  unfold sided at hs
  omega
theorem chargeOff (d : DeskT) (d0 : List Int) (d1 : List RowT) (d2 : List NoteT) (hb : bookOk (Lbook d.2.1)) (hn : d2.length ≤ 9000) :
    F_chargeOff ((), ()) (d, d0, d1, d2, ()) = ⟨true, epan (sChargeOff d.2.1 d2), (), (ddesk d (sChargeOff d.2.1 d2), (), (), (), dnote (sChargeOff d.2.1 d2), ()), (eerr (sChargeOff d.2.1 d2), ())⟩ := by
  rw [F_chargeOff_eq, owedS, balS d.2.1 d1 (a := 5) (i := 5) (by omega) hb]
  have hR := bR hb
  have hm : ∀ e ∈ offEs d.2.1, e.2.2.1 ≤ 9223372036854775807 := by
    intro e he
    unfold offEs at he
    simp only [List.mem_cons, List.not_mem_nil, or_false] at he
    rcases he with rfl | rfl | rfl | rfl | rfl <;> simp only []
    · show (if N d.2.1 2 < -(N d.2.1 5) then N d.2.1 2 else -(N d.2.1 5)) ≤ _
      split <;> (unfold N; omega)
    · exact wle _
    · unfold N; omega
    · exact wle _
    · unfold N; omega
  simp only [sOwed, cff, csame, tand, andt]
  rw [move]
  · generalize hr : sMove _ _ = r
    have hr' : sMove (setOff d.2.1 (total d.2.1)) (offEs d.2.1) = r := hr
    unfold sChargeOff
    rw [hr']
    cases r with
    | error e =>
      simp only [epan, ctt]
      rfl
    | ok l2 =>
      simp only [epan, cff, mdesk]
      rw [forget, note _ _ _ _ _ _ (by omega)]
      simp only [tand]
      rfl
  · exact hb.1
  · simp
  · exact hm
theorem act (d : DeskT) (action : Int) (d0 : List Int) (d1 : List RowT) (d2 : List NoteT) (hb : bookOk (Lbook d.2.1)) (hn : d2.length ≤ 9000) (hp : d1.length ≤ 10000) :
    F_act ((), action, ()) (d, d0, d1, d2, ()) = ⟨true, epan (sAct d1 d.2.1 d2 action), (), (ddesk d (sAct d1 d.2.1 d2 action), (), (), (), dnote (sAct d1 d.2.1 d2 action), ()), (eerr (sAct d1 d.2.1 d2 action), ())⟩ := by
  rw [F_act_eq, pastDue d d0 d1 d2 hp, balS d.2.1 d1 (a := 5) (i := 5) (by omega) hb, chargeOff d d0 d1 d2 hb hn, forget]
  simp only [cff, tand]
  rw [note d 1 _ d0 d1 d2 (by omega), note d 2 _ d0 d1 d2 (by omega), note d 3 _ d0 d1 d2 (by omega)]
  have hR := bR hb
  unfold sAct
  by_cases c1 : action = 1
  · rw [if_pos c1, show (action == 1) = true from by simpa using c1]; simp only [ctt, cff, tand]; rfl
  rw [if_neg c1, show (action == 1) = false from by simpa using c1, cff]
  by_cases c2 : action = 2
  · rw [if_pos c2, show (action == 2) = true from by simpa using c2]; simp only [ctt, cff, tand]; rfl
  rw [if_neg c2, show (action == 2) = false from by simpa using c2, cff]
  by_cases c3 : action = 3
  · rw [if_pos c3, show (action == 3) = true from by simpa using c3]; simp only [ctt, cff, tand]; rfl
  rw [if_neg c3, show (action == 3) = false from by simpa using c3, cff]
  by_cases c6 : action = 6
  · rw [if_pos c6, show (action == 6) = true from by simpa using c6, ctt]
    rw [move]
    · generalize hr : sMove _ _ = r
      cases r with
      | error e => simp only [epan, ctt, tand]; rfl
      | ok l2 =>
        simp only [epan, cff, mdesk, tand]
        rw [note _ _ _ _ _ _ (by omega)]
        rfl
    · exact hb.1
    · simp
    · intro e he
      simp only [List.mem_singleton] at he
      subst he
      show -(N d.2.1 5) ≤ _
      unfold N; omega
  rw [if_neg c6, show (action == 6) = false from by simpa using c6, cff]
  by_cases c8 : action = 8
  · rw [if_pos c8, show (action == 8) = true from by simpa using c8, ctt, note _ _ _ _ _ _ (by omega)]; simp only [tand]; rfl
  rw [if_neg c8, show (action == 8) = false from by simpa using c8, cff]
  by_cases c4 : action = 4
  · rw [if_pos c4, show (action == 4) = true from by simpa using c4, ctt]
    generalize sChargeOff d.2.1 d2 = r
    cases r with
    | error e => simp only [epan, ctt]; rfl
    | ok x => simp only [epan, cff]; rfl
  rw [if_neg c4, show (action == 4) = false from by simpa using c4, cff]
  rfl
theorem chargeOff_ok {l nn x} (h : sChargeOff l nn = .ok x) : bookOk (Lbook x.1) ∧ x.2.length ≤ nn.length + 1 := by
  unfold sChargeOff at h
  split at h
  · cases h
  · rename_i hm
    cases h
    exact ⟨(move_ok hm).1, by unfold sNote; simp⟩
theorem act_ok {plan l nn a x} (hb : bookOk (Lbook l)) (h : sAct plan l nn a = .ok x) : bookOk (Lbook x.1) ∧ x.2.length ≤ nn.length + 1 := by
  unfold sAct at h
  split at h
  · cases h; exact ⟨hb, by unfold sNote; simp⟩
  split at h
  · cases h; exact ⟨hb, by unfold sNote; simp⟩
  split at h
  · cases h; exact ⟨hb, by unfold sNote; simp⟩
  split at h
  · split at h
    · cases h
    · rename_i hm; cases h; exact ⟨(move_ok hm).1, by unfold sNote; simp⟩
  split at h
  · cases h; exact ⟨hb, by unfold sNote; simp⟩
  split at h
  · exact chargeOff_ok h
  · cases h; exact ⟨hb, by simp⟩
theorem acts_ok {plan} : ∀ (al : List Int) {l nn x}, bookOk (Lbook l) → sActs plan l nn al = .ok x → bookOk (Lbook x.1) ∧ x.2.length ≤ nn.length + al.length
  | [], l, nn, x, hb, h => by cases h; exact ⟨hb, by simp⟩
  | a :: r, l, nn, x, hb, h => by
    unfold sActs at h
    split at h
    · cases h
    · rename_i y hy
      obtain ⟨b1, b2⟩ := act_ok hb hy
      obtain ⟨b3, b4⟩ := acts_ok r b1 h
      exact ⟨b3, by simp only [List.length_cons]; omega⟩
theorem L_play {d0 : List Int} {d1 : List RowT} (al : List Int) (hp : d1.length ≤ 10000) (ha : al.length ≤ 50) : ∀ (n k i : Nat) (d : DeskT) (d2 : List NoteT), n < k → i + n = al.length → bookOk (Lbook d.2.1) → d2.length ≤ 8000 + i →
    L_play_6 k (((), (), ((al.length : Nat) : Int), (i : Int), ()), (d, d0, d1, d2, al, ())) = ⟨true, epan (sActs d1 d.2.1 d2 (al.drop i)), (), (ddesk d (sActs d1 d.2.1 d2 (al.drop i)), (), (), (), dnote (sActs d1 d.2.1 d2 (al.drop i)), ()), (eerr (sActs d1 d.2.1 d2 (al.drop i)), ())⟩
  | n, 0, i, d, d2, hk, hn, hb, h2 => by omega
  | 0, k + 1, i, d, d2, hk, hn, hb, h2 => by
    rw [L_play_6_eq]
    have e : al.drop i = [] := List.drop_eq_nil_of_le (by omega)
    rw [dF (show ¬ i < al.length by omega), cff, e]
    rfl
  | n + 1, k + 1, i, d, d2, hk, hn, hb, h2 => by
    rw [L_play_6_eq]
    have c : i < al.length := by omega
    rw [act d _ d0 d1 d2 hb (by omega) hp, drop1 (0 : Int) c]
    have hbl : Nat.blt i al.length = true := Nat.ble_eq_true_of_le c
    have h0 : decide ((0 : Int) ≤ (i : Int)) = true := by simp
    simp only [Int.toNat_natCast, dT c, ctt, hbl, h0, tand, andt, wN (show i ≤ 10000000 by omega)]
    unfold sActs
    cases hr : sAct d1 d.2.1 d2 (al.getD i 0) with
    | error e => simp only [epan, ctt]; rfl
    | ok x =>
      obtain ⟨b1, b2⟩ := act_ok hb hr
      simp only [epan, cff, ddesk, dnote]
      refine (reta _).trans ?_
      exact L_play al hp ha n k (i + 1) (d.1, x.1, d.2.2) x.2 (by omega) (by omega) b1 (by omega)
theorem age22_len {t c a x} (h : age22 t c a = .ok x) : x.2.length ≤ a.length + 1 := by
  unfold age22 at h; split at h <;> (cases h; simp)
theorem age15_len {p t d c a x} (h : age15 p t d c a = .ok x) : x.2.length ≤ a.length + 2 := by
  unfold age15 at h
  split at h
  · cases h; simp
  · split at h
    · have := age22_len h; simp at this; omega
    · have := age22_len h; omega
theorem age10_len {p t d c a x} (h : age10 p t d c a = .ok x) : x.2.length ≤ a.length + 3 := by
  unfold age10 at h
  split at h
  · split at h
    · have := age15_len h; simp at this; omega
    · split at h
      · have := age15_len h; omega
      · split at h <;> (have := age15_len h; omega)
  · split at h
    · cases h; simp
    · have := age15_len h; omega
theorem paid15_len {d c a x} (h : paid15 d c a = .ok x) : x.2.length ≤ a.length + 1 := by
  unfold paid15 at h
  split at h
  · cases h; simp
  · split at h
    · cases h; simp
    · split at h <;> (cases h; simp)
theorem step_len {p c e x} (h : sStep p c e = .ok x) : x.2.length ≤ 4 := by
  unfold sStep at h
  split at h
  · cases h
  split at h
  · unfold sAge at h
    split at h
    · cases h
    split at h
    · cases h
    split at h
    · have := age10_len h; simp at this; omega
    · have := age10_len h; simp at this; omega
  split at h
  · unfold sPaid at h
    split at h
    · cases h
    split at h
    · cases h
    split at h
    · cases h
    split at h
    · split at h
      · have := paid15_len h; simp at this; omega
      · have := paid15_len h; simp at this; omega
    · have := paid15_len h; simp at this; omega
  split at h
  · unfold sReturned at h
    split at h
    · cases h
    split at h
    · cases h
    split at h <;> (cases h; simp)
  split at h
  · unfold sPromise at h
    repeat' split at h
    all_goals first | (cases h; done) | (cases h; simp)
  split at h
  · unfold sRestr at h
    repeat' split at h
    all_goals first | (cases h; done) | (cases h; simp)
  split at h
  · unfold sFee at h
    repeat' split at h
    all_goals first | (cases h; done) | (cases h; simp)
  · unfold sClose at h
    repeat' split at h
    all_goals first | (cases h; done) | (cases h; simp)
theorem play_ok {p plan l nn e x} (hb : bookOk (Lbook l)) (h : sPlay p plan l nn e = .ok x) : bookOk (Lbook x.1) ∧ x.2.length ≤ nn.length + 4 := by
  unfold sPlay at h
  split at h
  · cases h
  · rename_i y hy
    obtain ⟨b1, b2⟩ := acts_ok _ (show bookOk (Lbook (setCase l y.1)) from hb) h
    exact ⟨b1, by have := step_len hy; omega⟩
theorem play (d : DeskT) (e : EvT) (d0 : List Int) (d1 : List RowT) (d2 : List NoteT) (hc : (chk d.1 d0).1 = 0) (hb : bookOk (Lbook d.2.1)) (hn : d2.length ≤ 8000) (hp : d1.length ≤ 10000) :
    F_play ((), e, ()) (d, d0, d1, d2, ()) = ⟨true, epan (sPlay d.1 d1 d.2.1 d2 e), (), (ddesk d (sPlay d.1 d1 d.2.1 d2 e), (), (), (), dnote (sPlay d.1 d1 d.2.1 d2 e), ()), (eerr (sPlay d.1 d1 d.2.1 d2 e), ())⟩ := by
  rw [F_play_eq, step d.1 _ e d0 hc]
  have hk : k_play ((), e, ()) (d, d0, d1, d2, ()) = 100 := rfl
  rw [hk]
  unfold sPlay
  cases hr : sStep d.1 (Lcase d.2.1) e with
  | error x =>
    have hx : sStep d.1 d.2.1.2.2.2.2.1 e = .error x := hr
    have hz : x ≠ 0 := by
      have : nz (sStep d.1 (Lcase d.2.1) e) := by
        unfold sStep
        split
        · exact nz_err (by omega)
        split
        · exact nz_age _ _ _ _ _
        split
        · exact nz_paid _ _ _ _
        split
        · exact nz_returned _ _ _
        split
        · exact nz_promise _ _ _ _ _ _
        split
        · exact nz_restr _ _ _
        split
        · exact nz_fee _ _ _ _
        · exact nz_close _ _
      exact this x hr
    have : (x != 0) = true := by simpa using hz
    simp only [stepR, kret, this, ctt, tand, andt]
    rfl
  | ok x =>
    have hx : sStep d.1 d.2.1.2.2.2.2.1 e = .ok x := hr
    have h0 : ((0 : Int) != 0) = false := rfl
    simp only [stepR, kret, kcase, kacts0, h0, cff, tand, andt]
    refine (reta _).trans ?_
    have hl := step_len hr
    have := L_play (d0 := d0) (d1 := d1) x.2 hp (by omega) x.2.length 100 0 (d.1, setCase d.2.1 x.1, d.2.2) d2 (by omega) (by omega) hb (by omega)
    exact this
theorem settle (d : DeskT) (d0 : List Int) (d1 : List RowT) (d2 : List NoteT) (hc : (chk d.1 d0).1 = 0) (hb : bookOk (Lbook d.2.1)) (hn : d2.length ≤ 8000) (hp : d1.length ≤ 10000) :
    F_settle ((), ()) (d, d0, d1, d2, ()) = ⟨true, epan (sSettle d.1 d1 d.2.1 d2), (), (ddesk d (sSettle d.1 d1 d.2.1 d2), (), (), (), dnote (sSettle d.1 d1 d.2.1 d2), ()), (eerr (sSettle d.1 d1 d.2.1 d2), ())⟩ := by
  rw [F_settle_eq, play d _ d0 d1 d2 hc hb hn hp, owedS]
  simp only [sOwed, cff, tand, andt]
  unfold sSettle
  by_cases c : total d.2.1 = 0
  · have : (IntKind.i64.wrap (IntKind.i64.wrap (N d.2.1 3 + N d.2.1 2) + N d.2.1 1) == 0) = true := by
      have c' : IntKind.i64.wrap (IntKind.i64.wrap (N d.2.1 3 + N d.2.1 2) + N d.2.1 1) = 0 := c
      simpa using c'
    rw [if_pos c, this, ctt]
    generalize sPlay d.1 d1 d.2.1 d2 _ = r
    cases r with
    | error e => simp only [epan, ctt]; rfl
    | ok x => simp only [epan, cff]; rfl
  · have : (IntKind.i64.wrap (IntKind.i64.wrap (N d.2.1 3 + N d.2.1 2) + N d.2.1 1) == 0) = false := by
      have c' : ¬ IntKind.i64.wrap (IntKind.i64.wrap (N d.2.1 3 + N d.2.1 2) + N d.2.1 1) = 0 := c
      simpa using c'
    rw [if_neg c, this, cff]
    rfl
theorem settle_ok {p plan l nn x} (hb : bookOk (Lbook l)) (h : sSettle p plan l nn = .ok x) : bookOk (Lbook x.1) ∧ x.2.length ≤ nn.length + 4 := by
  unfold sSettle at h
  split at h
  · exact play_ok hb h
  · cases h; exact ⟨hb, by simp⟩
end
end Go.Proofs.YtlflclfhldghbaaGreatDoor.Fs
end
section
set_option maxRecDepth 20000
namespace Go.Proofs.YtlflclfhldghbaaGreatDoor.Fs
open Go Go.Proofs.YtlflclfhldghbaaGreatDoor.Ls P
noncomputable section
theorem mul64G {x y : Int} (hx : 0 ≤ x) (hx2 : x ≤ 18446744073709551615) (hy : 0 ≤ y) (hy2 : y ≤ 18446744073709551615) :
    F_mul64 (x, y, ()) () = ⟨true, false, (x * y / 18446744073709551616, x * y % 18446744073709551616, ()), (), ()⟩ := by
  rw [F_mul64_eq]
  simp only [m32 hy hy2, m32 hx hx2, fd32]
  obtain ⟨xh, hxh⟩ : ∃ xh, xh = x / 4294967296 := ⟨_, rfl⟩
  obtain ⟨xl, hxl⟩ : ∃ xl, xl = x % 4294967296 := ⟨_, rfl⟩
  obtain ⟨yh, hyh⟩ : ∃ yh, yh = y / 4294967296 := ⟨_, rfl⟩
  obtain ⟨yl, hyl⟩ : ∃ yl, yl = y % 4294967296 := ⟨_, rfl⟩
  rw [← hxh, ← hxl, ← hyh, ← hyl]
  have b1 : 0 ≤ xh ∧ xh ≤ 4294967295 := by omega
  have b2 : 0 ≤ xl ∧ xl ≤ 4294967295 := by omega
  have b3 : 0 ≤ yh ∧ yh ≤ 4294967295 := by omega
  have b4 : 0 ≤ yl ∧ yl ≤ 4294967295 := by omega
  have hS : x * y = xh * yh * 18446744073709551616 + xh * yl * 4294967296 + xl * yh * 4294967296 + xl * yl := by
    have e1 : x = xh * 4294967296 + xl := by omega
    have e2 : y = yh * 4294967296 + yl := by omega
    rw [e1, e2, Int.add_mul, Int.mul_add, Int.mul_add]
    have f1 : xh * 4294967296 * (yh * 4294967296) = xh * yh * 18446744073709551616 := by
      rw [show xh * 4294967296 * (yh * 4294967296) = xh * yh * (4294967296 * 4294967296) from by rw [Int.mul_assoc, Int.mul_assoc, Int.mul_left_comm 4294967296 yh 4294967296]]
      omega
    have f2 : xh * 4294967296 * yl = xh * yl * 4294967296 := by rw [Int.mul_right_comm]
    have f3 : xl * (yh * 4294967296) = xl * yh * 4294967296 := by rw [← Int.mul_assoc]
    rw [f1, f2, f3]; omega
  have pA : 0 ≤ xh * yl ∧ xh * yl ≤ 4294967295 * 4294967295 := ⟨Int.mul_nonneg b1.1 b4.1, Int.mul_le_mul b1.2 b4.2 b4.1 (by omega)⟩
  have pB : 0 ≤ xl * yl ∧ xl * yl ≤ 4294967295 * 4294967295 := ⟨Int.mul_nonneg b2.1 b4.1, Int.mul_le_mul b2.2 b4.2 b4.1 (by omega)⟩
  have pC : 0 ≤ xl * yh ∧ xl * yh ≤ 4294967295 * 4294967295 := ⟨Int.mul_nonneg b2.1 b3.1, Int.mul_le_mul b2.2 b3.2 b3.1 (by omega)⟩
  have pD : 0 ≤ xh * yh ∧ xh * yh ≤ 4294967295 * 4294967295 := ⟨Int.mul_nonneg b1.1 b3.1, Int.mul_le_mul b1.2 b3.2 b3.1 (by omega)⟩
  generalize hAe : xh * yl = A at *
  generalize hBe : xl * yl = B at *
  generalize hCe : xl * yh = C at *
  generalize hDe : xh * yh = D at *
  generalize hQ : x * y = Q at *
  clear hxh hxl hyh hyl hAe hBe hCe hDe
  have q1 : IntKind.u64.wrap A = A := wu64 pA.1 (by omega)
  have q2 : IntKind.u64.wrap B = B := wu64 pB.1 (by omega)
  have q3 : IntKind.u64.wrap C = C := wu64 pC.1 (by omega)
  have q4 : IntKind.u64.wrap D = D := wu64 pD.1 (by omega)
  have q5 : IntKind.u64.wrap (A + B / 4294967296) = A + B / 4294967296 := wu64 (by omega) (by omega)
  simp only [q1, q2, q3, q4, q5]
  have q6 : 0 ≤ A + B / 4294967296 ∧ A + B / 4294967296 ≤ 18446744073709551615 := by omega
  simp only [m32 q6.1 q6.2]
  have q7 : IntKind.u64.wrap ((A + B / 4294967296) % 4294967296 + C) = (A + B / 4294967296) % 4294967296 + C := wu64 (by omega) (by omega)
  have q8 : IntKind.u64.wrap (D + (A + B / 4294967296) / 4294967296) = D + (A + B / 4294967296) / 4294967296 := wu64 (by omega) (by omega)
  simp only [q7, q8]
  have q9 : IntKind.u64.wrap (D + (A + B / 4294967296) / 4294967296 + ((A + B / 4294967296) % 4294967296 + C) / 4294967296) = D + (A + B / 4294967296) / 4294967296 + ((A + B / 4294967296) % 4294967296 + C) / 4294967296 := wu64 (by omega) (by omega)
  rw [q9, uw]
  have r1 : D + (A + B / 4294967296) / 4294967296 + ((A + B / 4294967296) % 4294967296 + C) / 4294967296 = Q / 18446744073709551616 := by omega
  rw [r1]
theorem lz : F_lz64 ((3650000 : Int), ()) () = ⟨true, false, (42 : Int), (), ()⟩ := by kernel_rfl
theorem or42 (a b : Nat) (h : b < 4398046511104) : (a * 4398046511104) ||| b = a * 4398046511104 + b := by
  have := Nat.two_pow_add_eq_or_of_lt (i := 42) (b := b) (by simpa using h) a
  have e : (2 : Nat) ^ 42 = 4398046511104 := by rfl
  rw [e, Nat.mul_comm] at this
  exact this.symm
theorem div64D {hi lo : Int} (h1 : 0 ≤ hi) (h2 : hi < 3650000) (h3 : 0 ≤ lo) (h4 : lo ≤ 18446744073709551615) :
    F_div64 (hi, lo, (3650000 : Int), ()) () = ⟨true, false, ((hi * 18446744073709551616 + lo) / 3650000, (hi * 18446744073709551616 + lo) % 3650000, ()), (), ()⟩ := by
  by_cases hz : hi = 0
  · subst hz
    rw [div64 h3 h4 (by omega)]
    simp
  rw [F_div64_eq, lz]
  have e1 : ((3650000 : Int) == 0) = false := rfl
  have e2 : decide ((3650000 : Int) ≤ hi) = false := decide_eq_false (by omega)
  have e3 : (hi == 0) = false := by simpa using hz
  have u42 : IntKind.u64.wrap (42 : Int) = 42 := wu64 (by omega) (by omega)
  have u22 : IntKind.u64.wrap (64 - (42 : Int)) = 22 := wu64 (by omega) (by omega)
  have t42 : (2 : Int) ^ (min ((42 : Int).toNat) 64) = 4398046511104 := by rfl
  have t22 : (2 : Int) ^ (min ((22 : Int).toNat) 64) = 4194304 := by rfl
  have uY : IntKind.u64.wrap ((3650000 : Int) * 4398046511104) = 16052869765529600000 := by rw [uw]; rfl
  have f1 : (16052869765529600000 : Int).fdiv (2 ^ (min ((32 : Int).toNat) 64)) = 3737600000 := by rw [fd32]; rfl
  have f2 : lo.fdiv 4194304 = lo / 4194304 := Int.fdiv_eq_ediv_of_nonneg _ (by omega)
  have uH : IntKind.u64.wrap (hi * 4398046511104) = hi * 4398046511104 := wu64 (by omega) (by omega)
  have uL : IntKind.u64.wrap (lo * 4398046511104) = (lo % 4194304) * 4398046511104 := by rw [uw]; omega
  have c64 : (((2 ^ 64) : Nat) : Int) = 18446744073709551616 := by rfl
  have hU : IntKind.u64.wrap (((((hi * 4398046511104) % (((2 ^ 64) : Nat) : Int)).toNat ||| ((lo / 4194304) % (((2 ^ 64) : Nat) : Int)).toNat) : Nat) : Int) = hi * 4398046511104 + lo / 4194304 := by
    rw [c64]
    have g1 : ((hi * 4398046511104) % 18446744073709551616).toNat = hi.toNat * 4398046511104 := by omega
    have g2 : ((lo / 4194304) % 18446744073709551616).toNat = (lo / 4194304).toNat := by omega
    rw [g1, g2, or42 _ _ (by omega)]
    rw [wu64 (by omega) (by omega)]; omega
  have m0 : IntKind.u64.wrap ((((16052869765529600000 : Int) % (((2 ^ 64) : Nat) : Int)).toNat &&& (4294967295 % (((2 ^ 64) : Nat) : Int)).toNat : Nat) : Int) = 0 := by
    rw [m32 (by omega) (by omega)]; rfl
  have m1 : IntKind.u64.wrap (((((lo % 4194304) * 4398046511104) % (((2 ^ 64) : Nat) : Int)).toNat &&& (4294967295 % (((2 ^ 64) : Nat) : Int)).toNat : Nat) : Int) = 0 := by
    rw [m32 (by omega) (by omega)]; omega
  have f3 : ((lo % 4194304) * 4398046511104).fdiv (2 ^ (min ((32 : Int).toNat) 64)) = (lo % 4194304) * 1024 := by rw [fd32]; omega
  have d1 : decide ((0 : Int) ≤ 42) = true := rfl
  have d2 : decide ((0 : Int) ≤ 22) = true := rfl
  have n1 : ((3737600000 : Int) != 0) = true := rfl
  simp only [e1, e2, e3, cff, u42, u22, t42, t22, uY, f1, f2, uH, uL, hU, m0, m1, f3, d1, d2, n1, tand, andt]
  refine (reta _).trans ?_
  obtain ⟨U, hUe⟩ : ∃ U, U = hi * 4398046511104 + lo / 4194304 := ⟨_, rfl⟩
  obtain ⟨V, hVe⟩ : ∃ V, V = (lo % 4194304) * 1024 := ⟨_, rfl⟩
  rw [← hUe, ← hVe]
  have bU : 0 ≤ U ∧ U < 16052869765529600000 := by omega
  have bV : 0 ≤ V ∧ V < 4294967296 := by omega
  have tU : U.tdiv 3737600000 = U / 3737600000 := Int.tdiv_eq_ediv_of_nonneg bU.1
  obtain ⟨q1, hq1⟩ : ∃ q, q = U / 3737600000 := ⟨_, rfl⟩
  have bq : 0 ≤ q1 ∧ q1 < 4294967296 := by omega
  have uq : IntKind.u64.wrap (U / 3737600000) = q1 := by rw [← hq1]; exact wu64 bq.1 (by omega)
  have uqy : IntKind.u64.wrap (q1 * 3737600000) = q1 * 3737600000 := wu64 (by omega) (by omega)
  have ur : IntKind.u64.wrap (U - q1 * 3737600000) = U - q1 * 3737600000 := wu64 (by omega) (by omega)
  simp only [tU, uq, uqy, ur]
  have hk : k_div64 (hi, lo, (3650000 : Int), ()) () = 199 + 1 := rfl
  rw [hk, L_div64_18_eq]
  have g1 : decide (q1 ≥ 4294967296) = false := decide_eq_false (by omega)
  have g2 : IntKind.u64.wrap (q1 * 0) = 0 := by rw [Int.mul_zero]; rfl
  have g3 : decide ((0 : Int) > IntKind.u64.wrap (IntKind.u64.wrap (4294967296 * (U - q1 * 3737600000)) + V)) = false := decide_eq_false (by rw [uw, uw]; omega)
  have g4 : IntKind.u64.wrap (IntKind.u64.wrap (IntKind.u64.wrap (U * 4294967296) + V) - IntKind.u64.wrap (q1 * 16052869765529600000)) = (U - q1 * 3737600000) * 4294967296 + V := by
    rw [uw, uw, uw, uw]; omega
  simp only [g1, g2, g3, g4, cff, csame, n1, tand]
  refine (reta _).trans ?_
  obtain ⟨X, hX⟩ : ∃ X, X = (U - q1 * 3737600000) * 4294967296 + V := ⟨_, rfl⟩
  rw [← hX]
  have bX : 0 ≤ X ∧ X < 16052869765529600000 := by omega
  have tX : X.tdiv 3737600000 = X / 3737600000 := Int.tdiv_eq_ediv_of_nonneg bX.1
  obtain ⟨q0, hq0⟩ : ∃ q, q = X / 3737600000 := ⟨_, rfl⟩
  have bq0 : 0 ≤ q0 ∧ q0 < 4294967296 := by omega
  have uq0 : IntKind.u64.wrap (X / 3737600000) = q0 := by rw [← hq0]; exact wu64 bq0.1 (by omega)
  have uqy0 : IntKind.u64.wrap (q0 * 3737600000) = q0 * 3737600000 := wu64 (by omega) (by omega)
  have ur0 : IntKind.u64.wrap (X - q0 * 3737600000) = X - q0 * 3737600000 := wu64 (by omega) (by omega)
  simp only [tX, uq0, uqy0, ur0]
  rw [show (199 : Nat) = 198 + 1 from rfl, L_div64_25_eq]
  have g5 : decide (q0 ≥ 4294967296) = false := decide_eq_false (by omega)
  have g6 : IntKind.u64.wrap (q0 * 0) = 0 := by rw [Int.mul_zero]; rfl
  have g7 : decide ((0 : Int) > IntKind.u64.wrap (IntKind.u64.wrap (4294967296 * (X - q0 * 3737600000)) + 0)) = false := decide_eq_false (by rw [uw, uw]; omega)
  have g8 : IntKind.u64.wrap (IntKind.u64.wrap (q1 * 4294967296) + q0) = q1 * 4294967296 + q0 := by rw [uw, uw]; omega
  have g9 : IntKind.u64.wrap (IntKind.u64.wrap (IntKind.u64.wrap (X * 4294967296) + 0) - IntKind.u64.wrap (q0 * 16052869765529600000)) = (X - q0 * 3737600000) * 4294967296 := by
    rw [uw, uw, uw, uw]; omega
  have g10 : ((X - q0 * 3737600000) * 4294967296).fdiv 4398046511104 = (X - q0 * 3737600000) / 1024 := by
    rw [Int.fdiv_eq_ediv_of_nonneg _ (by omega)]; omega
  simp only [g5, g6, g7, g8, g9, t42, g10, cff, csame, d1, tand]
  have r1 : q1 * 4294967296 + q0 = (hi * 18446744073709551616 + lo) / 3650000 := by omega
  have r2 : (X - q0 * 3737600000) / 1024 = (hi * 18446744073709551616 + lo) % 3650000 := by omega
  rw [r1, r2]
end
end Go.Proofs.YtlflclfhldghbaaGreatDoor.Fs
end
section
set_option maxRecDepth 20000
namespace Go.Proofs.YtlflclfhldghbaaGreatDoor.Fs
open Go Go.Proofs.YtlflclfhldghbaaGreatDoor.Ls P
noncomputable section
def fl (x : Int) : Int × Int × Bool × Unit := if 9223372036854775807 < x / 3650000 then (0, 0, false, ()) else (x / 3650000, x % 3650000, true, ())
theorem mulDivFloor {a b : Int} (ha : 0 ≤ a) (ha2 : a ≤ 9223372036854775807) (hb : 0 ≤ b) (hb2 : b ≤ 9223372036854775807) :
    F_mulDivFloor (a, b, (3650000 : Int), ()) () = ⟨true, false, fl (a * b), (), ()⟩ := by
  rw [F_mulDivFloor_eq]
  have n1 : decide (a < 0) = false := decide_eq_false (by omega)
  have n2 : decide (b < 0) = false := decide_eq_false (by omega)
  have n3 : decide ((3650000 : Int) ≤ 0) = false := rfl
  have wa : IntKind.u64.wrap a = a := wu64 ha (by omega)
  have wb : IntKind.u64.wrap b = b := wu64 hb (by omega)
  have wc : IntKind.u64.wrap (3650000 : Int) = 3650000 := wu64 (by omega) (by omega)
  have hm := mul64G ha (show a ≤ 18446744073709551615 by omega) hb (show b ≤ 18446744073709551615 by omega)
  have hp : 0 ≤ a * b := Int.mul_nonneg ha hb
  have hp2 : a * b ≤ 9223372036854775807 * 9223372036854775807 := Int.mul_le_mul ha2 hb2 hb (by omega)
  generalize a * b = Q at *
  simp only [n1, n2, n3, cff, wa, wb, wc, hm, csame]
  have bb : ((!(false == false)) = false) := rfl
  simp only [bb, cff]
  unfold fl
  by_cases c : Q / 18446744073709551616 ≥ 3650000
  · rw [decide_eq_true c, ctt, if_pos (by omega)]
  · rw [decide_eq_false c, cff, div64D (hi := Q / 18446744073709551616) (lo := Q % 18446744073709551616) (by omega) (by omega) (by omega) (by omega)]
    have e : Q / 18446744073709551616 * 18446744073709551616 + Q % 18446744073709551616 = Q := by omega
    simp only [e, tand]
    rw [F_withSign_eq]
    simp only [cff]
    by_cases d : 9223372036854775807 < Q / 3650000
    · rw [if_pos d, decide_eq_true (show Q / 3650000 > 9223372036854775807 from d)]
      simp only [ctt, Bool.not_false, tand]
    · rw [if_neg d, decide_eq_false (show ¬ Q / 3650000 > 9223372036854775807 from d)]
      simp only [cff, Bool.not_true, tand]
      rw [w64 (x := Q / 3650000) (by omega) (by omega), w64 (x := Q % 3650000) (by omega) (by omega)]
def sSpan (pr rate carry days : Int) : Int × Int × Bool × Unit :=
  if pr < 0 ∨ rate < 0 ∨ 100000 < rate ∨ carry < 0 ∨ 3650000 ≤ carry then (0, 0, false, ())
  else if days < 0 ∨ 3652059 < days then (0, 0, false, ())
  else if 9223372036854775807 < pr * (rate * days) / 3650000 then (0, 0, false, ())
  else if pr * (rate * days) % 3650000 + carry < 3650000 then (pr * (rate * days) / 3650000, pr * (rate * days) % 3650000 + carry, true, ())
  else if pr * (rate * days) / 3650000 = 9223372036854775807 then (0, 0, false, ())
  else (pr * (rate * days) / 3650000 + 1, pr * (rate * days) % 3650000 + carry - 3650000, true, ())
theorem span {pr rate carry days : Int} (hp : pr ≤ 9223372036854775807) : F_span (pr, rate, carry, days, ()) () = ⟨true, false, sSpan pr rate carry days, (), ()⟩ := by
  rw [F_span_eq]
  simp only [csame, cor, cand, tand]
  unfold sSpan
  by_cases c1 : pr < 0
  · rw [decide_eq_true c1, if_pos (.inl c1)]; rfl
  rw [decide_eq_false c1]
  by_cases c2 : rate < 0
  · rw [if_pos (.inr (.inl c2)), decide_eq_false (show ¬ rate ≥ 0 by omega)]; rfl
  rw [decide_eq_true (show rate ≥ 0 by omega)]
  by_cases c3 : 100000 < rate
  · rw [if_pos (.inr (.inr (.inl c3))), decide_eq_false (show ¬ rate ≤ 100000 by omega)]; rfl
  rw [decide_eq_true (show rate ≤ 100000 by omega)]
  by_cases c4 : carry < 0
  · rw [if_pos (.inr (.inr (.inr (.inl c4)))), decide_eq_true c4]; rfl
  rw [decide_eq_false c4]
  by_cases c5 : 3650000 ≤ carry
  · rw [if_pos (.inr (.inr (.inr (.inr c5)))), decide_eq_true (show carry ≥ 3650000 from c5)]; rfl
  rw [decide_eq_false (show ¬ carry ≥ 3650000 from c5), if_neg (by omega)]
  by_cases c6 : days < 0
  · rw [if_pos (.inl c6), decide_eq_true c6]; rfl
  rw [decide_eq_false c6]
  by_cases c7 : 3652059 < days
  · rw [if_pos (.inr c7), decide_eq_true (show days > 3652059 from c7)]; rfl
  rw [decide_eq_false (show ¬ days > 3652059 from c7), if_neg (by omega)]
  have b0 : 0 ≤ rate * days := Int.mul_nonneg (by omega) (by omega)
  have b1 : rate * days ≤ 100000 * 3652059 := Int.mul_le_mul (by omega) (by omega) (by omega) (by omega)
  have wr : IntKind.i64.wrap (rate * days) = rate * days := w64 (by omega) (by omega)
  rw [wr]
  rw [mulDivFloor (a := pr) (b := rate * days) (by omega) hp b0 (by omega)]
  have hq : 0 ≤ pr * (rate * days) := Int.mul_nonneg (by omega) b0
  generalize pr * (rate * days) = Q at *
  simp only [Bool.not_true, Bool.and_true, Bool.and_self, Bool.or_self, cff, tand]
  unfold fl
  by_cases c8 : 9223372036854775807 < Q / 3650000
  · rw [if_pos c8, if_pos c8]; simp only [Bool.not_false, ctt]
  rw [if_neg c8, if_neg c8]
  simp only [Bool.not_true, cff]
  have w1 : IntKind.i64.wrap (Q % 3650000 + carry) = Q % 3650000 + carry := w64 (by omega) (by omega)
  rw [w1]
  by_cases c9 : Q % 3650000 + carry < 3650000
  · rw [if_pos c9, decide_eq_true c9, ctt]
  rw [if_neg c9, decide_eq_false c9, cff]
  by_cases c10 : Q / 3650000 = 9223372036854775807
  · rw [if_pos c10, show (Q / 3650000 == 9223372036854775807) = true from by simpa using c10, ctt]
  rw [if_neg c10, show (Q / 3650000 == 9223372036854775807) = false from by simpa using c10, cff]
  rw [w64 (x := Q / 3650000 + 1) (by omega) (by omega), w64 (x := Q % 3650000 + carry - 3650000) (by omega) (by omega)]
theorem span_le {pr rate carry days : Int} : (sSpan pr rate carry days).1 ≤ 9223372036854775807 := by
  unfold sSpan
  split
  · simp
  split
  · simp
  split
  · simp
  split
  · simp only []; omega
  split
  · simp
  · simp only []; omega
abbrev RL := Except Int LoanT
def sAccrue (l : LoanT) (days : Int) : RL :=
  if lOver (setDay l (W (Lday l + days))) then .ok (setDay l (W (Lday l + days)))
  else if (sSpan (N l 1) (Lterms l).2.2.1 (Lcarry l) days).2.2.1 = false then .error 3
  else match sMove (setDay l (W (Lday l + days))) [(2, (bif Ksusp (Lcase l) then 5 else 7), (sSpan (N l 1) (Lterms l).2.2.1 (Lcarry l) days).1, ())] with
    | .error e => .error e
    | .ok l2 => .ok (setCarry l2 (sSpan (N l 1) (Lterms l).2.2.1 (Lcarry l) days).2.1)
theorem bal1' (l : LoanT) (x : List RowT) : F_balance (l, (1 : Int), ()) (x, ()) = ⟨true, false, N l 1, ((), ()), (0, ())⟩ := bal1 l x
theorem accrue (d : DeskT) (days : Int) (d0 : List Int) (d1 : List RowT) (d2 : List NoteT) (hb : bookOk (Lbook d.2.1)) :
    F_accrue ((), days, ()) (d, d0, d1, d2, ()) = ⟨true, epan (sAccrue d.2.1 days), (), (mdesk d (sAccrue d.2.1 days), (), (), (), ()), (eerr (sAccrue d.2.1 days), ())⟩ := by
  rw [F_accrue_eq, overS, bal1']
  have hR := bR hb
  simp only [cff, tand, andt]
  rw [span (by show net (Lbook d.2.1) 1 ≤ _; omega)]
  simp only [csame, tand]
  unfold sAccrue
  have e1 : lOver (d.2.1.1, d.2.1.2.1, (), d.2.1.2.2.2.1, d.2.1.2.2.2.2.1, IntKind.i64.wrap (d.2.1.2.2.2.2.2.1 + days), d.2.1.2.2.2.2.2.2) = lOver (setDay d.2.1 (W (Lday d.2.1 + days))) := rfl
  have e2 : N (d.2.1.1, d.2.1.2.1, (), d.2.1.2.2.2.1, d.2.1.2.2.2.2.1, IntKind.i64.wrap (d.2.1.2.2.2.2.2.1 + days), d.2.1.2.2.2.2.2.2) 1 = N d.2.1 1 := rfl
  rw [e1, e2]
  cases ho : lOver (setDay d.2.1 (W (Lday d.2.1 + days)))
  · rw [if_neg (show ¬ (false = true) by simp), cff]
    cases hs : (sSpan (N d.2.1 1) (Lterms d.2.1).2.2.1 (Lcarry d.2.1) days).2.2.1
    · rw [if_pos rfl]
      simp only [Bool.not_false, ctt]
      rfl
    · rw [if_neg (show ¬ (true = false) by simp)]
      simp only [Bool.not_true, cff]
      rw [move]
      · generalize hr : sMove _ _ = r
        have hr' : sMove (setDay d.2.1 (W (Lday d.2.1 + days))) [(2, (bif Ksusp (Lcase d.2.1) then 5 else 7), (sSpan (N d.2.1 1) (Lterms d.2.1).2.2.1 (Lcarry d.2.1) days).1, ())] = r := hr
        rw [hr']
        cases r with
        | error e => simp only [epan, ctt]; rfl
        | ok l2 => simp only [epan, cff, mdesk]; rfl
      · exact hb.1
      · simp
      · intro e he
        simp only [List.mem_singleton] at he
        subst he
        exact span_le
  · rw [if_pos rfl, ctt]; rfl
theorem accrue_ok {l days x} (hb : bookOk (Lbook l)) (h : sAccrue l days = .ok x) : bookOk (Lbook x) := by
  unfold sAccrue at h
  split at h
  · cases h; exact hb
  split at h
  · cases h
  split at h
  · cases h
  · rename_i hm; cases h; exact (move_ok hm).1
end
end Go.Proofs.YtlflclfhldghbaaGreatDoor.Fs
end
section
set_option maxRecDepth 20000
namespace Go.Proofs.YtlflclfhldghbaaGreatDoor.Fs
open Go Go.Proofs.YtlflclfhldghbaaGreatDoor.Ls P
noncomputable section
theorem L_some {all : List EntT} (hs : all.length ≤ 1000) : ∀ (n k i : Nat) (out : List EntT), n < k → i + n = all.length → out.length ≤ i →
    L_some__4 k (((), (), ((all.length : Nat) : Int), (i : Int), ()), (all, out, ())) = ⟨true, false, (), ((), out ++ (all.drop i).filter (fun e => decide (0 < e.2.2.1)), ()), ()⟩
  | n, 0, i, out, hk, hn, ho => by omega
  | 0, k + 1, i, out, hk, hn, ho => by
    rw [L_some__4_eq]
    have e : all.drop i = [] := List.drop_eq_nil_of_le (by omega)
    simp only [dF (show ¬ i < all.length by omega), cff, e, List.filter_nil, List.append_nil]
  | n + 1, k + 1, i, out, hk, hn, ho => by
    rw [L_some__4_eq]
    have c : i < all.length := by omega
    rw [drop1 ((0 : Int), (0 : Int), (0 : Int), ()) c]
    have hb : Nat.blt i all.length = true := Nat.ble_eq_true_of_le c
    have h0 : decide ((0 : Int) ≤ (i : Int)) = true := by simp
    simp only [Int.toNat_natCast, dT c, ctt, h0, hb, tand, andt, wN (show i ≤ 10000000 by omega)]
    by_cases z : 0 < (all.getD i ((0 : Int), (0 : Int), (0 : Int), ())).2.2.1
    · rw [decide_eq_true (show (all.getD i ((0 : Int), (0 : Int), (0 : Int), ())).2.2.1 > 0 from z), ctt]
      rw [List.filter_cons, decide_eq_true z, if_pos rfl]
      refine (rstep (ble24 (by simp; omega)) (L_some hs n k (i + 1) (out ++ [all.getD i ((0 : Int), (0 : Int), (0 : Int), ())]) (by omega) (by omega) (by simp; omega))).trans ?_
      simp
    · rw [decide_eq_false (show ¬ (all.getD i ((0 : Int), (0 : Int), (0 : Int), ())).2.2.1 > 0 from z), cff]
      rw [List.filter_cons, decide_eq_false z, if_neg (by simp)]
      refine (reta _).trans ?_
      exact L_some hs n k (i + 1) out (by omega) (by omega) (by omega)
theorem some_ (all : List EntT) (hs : all.length ≤ 1000) : F_some_ ((), ()) (all, ()) = ⟨true, false, (), ((), all.filter (fun e => decide (0 < e.2.2.1)), ()), ()⟩ := by
  rw [F_some__eq]
  have h := L_some hs all.length (all.length + 2) 0 [] (by omega) (by omega) (by simp)
  exact h
def sEntries (q : PartsT) : List EntT := ([(0, 3, q.1, ()), (0, 2, q.2.1, ()), (0, 1, q.2.2.1, ()), (0, 4, q.2.2.2.1, ()), (0, 10, q.2.2.2.2.1, ())] : List EntT).filter (fun e => decide (0 < e.2.2.1))
theorem entries (q : PartsT) : F_entries (q, ()) () = ⟨true, false, (), (sEntries q, ()), ()⟩ := by
  rw [F_entries_eq]
  have h := some_ [(0, 3, q.1, ()), (0, 2, q.2.1, ()), (0, 1, q.2.2.1, ()), (0, 4, q.2.2.2.1, ()), (0, 10, q.2.2.2.2.1, ())] (by simp)
  simp only [h]
  rfl
def swap (e : EntT) : EntT := (e.2.1, e.1, e.2.2)
theorem L_undo : ∀ (n k i : Nat) (out : List EntT), out.length ≤ 1000 → n < k → i + n = out.length →
    L_undo_4 k (((), (), ((out.length : Nat) : Int), (i : Int), ()), (out, ())) = ⟨true, false, (), (out.take i ++ (out.drop i).map swap, ()), ()⟩
  | n, 0, i, out, hs, hk, hn => by omega
  | 0, k + 1, i, out, hs, hk, hn => by
    rw [L_undo_4_eq]
    have e : out.drop i = [] := List.drop_eq_nil_of_le (by omega)
    have e2 : out.take i = out := List.take_of_length_le (by omega)
    simp only [dF (show ¬ i < out.length by omega), cff, e, e2, List.map_nil, List.append_nil]
  | n + 1, k + 1, i, out, hs, hk, hn => by
    rw [L_undo_4_eq]
    have c : i < out.length := by omega
    have hb : Nat.blt i out.length = true := Nat.ble_eq_true_of_le c
    have h0 : decide ((0 : Int) ≤ (i : Int)) = true := by simp
    simp only [Int.toNat_natCast, dT c, ctt, h0, hb, tand, andt, wN (show i ≤ 10000000 by omega)]
    refine (reta _).trans ?_
    have h := L_undo n k (i + 1) (out.set i (swap (out.getD i (0, 0, 0, ())))) (by simpa using hs) (by omega) (by simp; omega)
    rw [List.length_set] at h
    refine Eq.trans h ?_
    rw [drop1 ((0 : Int), (0 : Int), (0 : Int), ()) c, List.drop_set_of_lt (by omega)]
    have : (out.set i (swap (out.getD i ((0 : Int), (0 : Int), (0 : Int), ())))).take (i + 1) = out.take i ++ [swap (out.getD i ((0 : Int), (0 : Int), (0 : Int), ()))] := by
      rw [List.take_add_one, List.take_set_of_le (by omega)]
      simp [List.getElem?_set, show i < out.length by omega]
    rw [this]
    simp
def sUndo (q : PartsT) : List EntT := (sEntries q).map swap
theorem entries_len (q : PartsT) : (sEntries q).length ≤ 5 := by
  unfold sEntries
  exact Nat.le_trans (List.length_filter_le _ _) (by simp)
theorem undo (q : PartsT) : F_undo (q, ()) () = ⟨true, false, (), (sUndo q, ()), ()⟩ := by
  rw [F_undo_eq, entries]
  have hl := entries_len q
  have h := L_undo (sEntries q).length 10 0 (sEntries q) (by omega) (by omega) (by omega)
  simp only [tand]
  refine (reta _).trans ?_
  exact h
theorem entries_le {q : PartsT} (h1 : q.1 ≤ 9223372036854775807) (h2 : q.2.1 ≤ 9223372036854775807) (h3 : q.2.2.1 ≤ 9223372036854775807) (h4 : q.2.2.2.1 ≤ 9223372036854775807) (h5 : q.2.2.2.2.1 ≤ 9223372036854775807) : ∀ e ∈ sEntries q, e.2.2.1 ≤ 9223372036854775807 := by
  intro e he
  unfold sEntries at he
  have := (List.mem_filter.mp he).1
  simp only [List.mem_cons, List.not_mem_nil, or_false] at this
  rcases this with rfl | rfl | rfl | rfl | rfl <;> assumption
theorem undo_le {q : PartsT} (h : ∀ e ∈ sEntries q, e.2.2.1 ≤ 9223372036854775807) : ∀ e ∈ sUndo q, e.2.2.1 ≤ 9223372036854775807 := by
  intro e he
  unfold sUndo at he
  obtain ⟨x, hx, rfl⟩ := List.mem_map.mp he
  exact h x hx
def mn (left want : Int) : Int := if left < want then left else want
def sRecover (left amount : Int) : PartsT × Int × Unit :=
  if left < 0 then (parts0, 2, ()) else if amount < 1 then (parts0, 4, ())
  else ((0, 0, 0, W (amount - mn amount left), mn amount left, ()), 0, ())
theorem recover_ (left amount : Int) : F_recover_ (left, amount, ()) () = ⟨true, false, sRecover left amount, (), ()⟩ := by
  rw [F_recover__eq]
  unfold sRecover
  by_cases c1 : left < 0
  · rw [if_pos c1, decide_eq_true c1, ctt]; rfl
  rw [if_neg c1, decide_eq_false c1, cff]
  by_cases c2 : amount < 1
  · rw [if_pos c2, decide_eq_true c2, ctt]; rfl
  rw [if_neg c2, decide_eq_false c2, cff]
  rfl
def turn (a x y z : Int) : Int × Int × Int × Int :=
  (mn a x, mn (W (a - mn a x)) y, mn (W (W (a - mn a x) - mn (W (a - mn a x)) y)) z, W (W (W (a - mn a x) - mn (W (a - mn a x)) y) - mn (W (W (a - mn a x) - mn (W (a - mn a x)) y)) z))
def sAlloc (order : Int) (o : ZE) (a : Int) : PartsT × Int × Unit :=
  if order < 0 ∨ 6 ≤ order then (parts0, 2, ())
  else if o.1 < 0 ∨ o.2.1 < 0 ∨ o.2.2.1 < 0 then (parts0, 2, ())
  else if a < 1 then (parts0, 4, ())
  else if order = 0 then (((turn a o.1 o.2.1 o.2.2.1).1, (turn a o.1 o.2.1 o.2.2.1).2.1, (turn a o.1 o.2.1 o.2.2.1).2.2.1, (turn a o.1 o.2.1 o.2.2.1).2.2.2, 0, ()), 0, ())
  else if order = 1 then (((turn a o.1 o.2.2.1 o.2.1).1, (turn a o.1 o.2.2.1 o.2.1).2.2.1, (turn a o.1 o.2.2.1 o.2.1).2.1, (turn a o.1 o.2.2.1 o.2.1).2.2.2, 0, ()), 0, ())
  else if order = 2 then (((turn a o.2.1 o.1 o.2.2.1).2.1, (turn a o.2.1 o.1 o.2.2.1).1, (turn a o.2.1 o.1 o.2.2.1).2.2.1, (turn a o.2.1 o.1 o.2.2.1).2.2.2, 0, ()), 0, ())
  else if order = 3 then (((turn a o.2.1 o.2.2.1 o.1).2.2.1, (turn a o.2.1 o.2.2.1 o.1).1, (turn a o.2.1 o.2.2.1 o.1).2.1, (turn a o.2.1 o.2.2.1 o.1).2.2.2, 0, ()), 0, ())
  else if order = 4 then (((turn a o.2.2.1 o.1 o.2.1).2.1, (turn a o.2.2.1 o.1 o.2.1).2.2.1, (turn a o.2.2.1 o.1 o.2.1).1, (turn a o.2.2.1 o.1 o.2.1).2.2.2, 0, ()), 0, ())
  else (((turn a o.2.2.1 o.2.1 o.1).2.2.1, (turn a o.2.2.1 o.2.1 o.1).2.1, (turn a o.2.2.1 o.2.1 o.1).1, (turn a o.2.2.1 o.2.1 o.1).2.2.2, 0, ()), 0, ())
theorem b33 : ((3 : Int) == 3) = true := rfl
theorem b22 : ((2 : Int) == 2) = true := rfl
theorem b11 : ((1 : Int) == 1) = true := rfl
theorem b23 : ((2 : Int) == 3) = false := rfl
theorem b13 : ((1 : Int) == 3) = false := rfl
theorem b12 : ((1 : Int) == 2) = false := rfl
theorem b32 : ((3 : Int) == 2) = false := rfl
theorem g6_0 {α : Type} (a b c e f g d : α) : List.getD [a, b, c, e, f, g] 0 d = a := rfl
theorem g6_1 {α : Type} (a b c e f g d : α) : List.getD [a, b, c, e, f, g] 1 d = b := rfl
theorem g6_2 {α : Type} (a b c e f g d : α) : List.getD [a, b, c, e, f, g] 2 d = c := rfl
theorem g6_3 {α : Type} (a b c e f g d : α) : List.getD [a, b, c, e, f, g] 3 d = e := rfl
theorem g6_4 {α : Type} (a b c e f g d : α) : List.getD [a, b, c, e, f, g] 4 d = f := rfl
theorem g6_5 {α : Type} (a b c e f g d : α) : List.getD [a, b, c, e, f, g] 5 d = g := rfl
theorem l6 {α : Type} (a b c e f g : α) : List.length [a, b, c, e, f, g] = 6 := rfl
theorem mnD (x y : Int) : (if x < y then x else y) = mn x y := rfl
theorem allocate (order : Int) (o : ZE) (a : Int) : F_allocate (order, o, a, ()) () = ⟨true, false, sAlloc order o a, (), ()⟩ := by
  rw [F_allocate_eq]
  simp only [↓mnD]
  simp only [csame, cor, l6]
  unfold sAlloc
  by_cases c1 : order < 0
  · rw [if_pos (Or.inl c1), decide_eq_true c1, Bool.true_or, ctt]; rfl
  by_cases c2 : 6 ≤ order
  · rw [if_pos (Or.inr c2), decide_eq_true (show order ≥ 6 from c2), Bool.or_true, ctt]; rfl
  rw [if_neg (by omega), decide_eq_false c1, decide_eq_false (show ¬ order ≥ 6 from c2), Bool.or_self, cff]
  have h6 : (decide ((0 : Int) ≤ order) && decide (order < ((6 : Nat) : Int)) && Nat.blt order.toNat 6) = true := inI (by omega) (by omega)
  rw [tand, h6]
  by_cases c3 : o.1 < 0 ∨ o.2.1 < 0 ∨ o.2.2.1 < 0
  · rw [if_pos c3]
    have : (decide (o.1 < 0) || (decide (o.2.1 < 0) || decide (o.2.2.1 < 0))) = true := by
      rcases c3 with q | q | q <;> simp [q]
    rw [this, ctt]
    rfl
  rw [if_neg c3]
  have : (decide (o.1 < 0) || (decide (o.2.1 < 0) || decide (o.2.2.1 < 0))) = false := by
    rw [decide_eq_false (fun q => c3 (.inl q)), decide_eq_false (fun q => c3 (.inr (.inl q))), decide_eq_false (fun q => c3 (.inr (.inr q)))]; rfl
  rw [this, cff]
  by_cases c4 : a < 1
  · rw [if_pos c4, decide_eq_true c4, ctt]; rfl
  rw [if_neg c4, decide_eq_false c4, cff]
  by_cases o0 : order = 0
  · subst o0
    rw [if_pos rfl]
    simp only [tn0, g6_0, b33, b22, b11, b23, b13, b12, b32, ctt, cff]
    rfl
  rw [if_neg o0]
  by_cases o1 : order = 1
  · subst o1
    rw [if_pos rfl]
    simp only [tn1, g6_1, b33, b22, b11, b23, b13, b12, b32, ctt, cff]
    rfl
  rw [if_neg o1]
  by_cases o2 : order = 2
  · subst o2
    rw [if_pos rfl]
    simp only [tn2, g6_2, b33, b22, b11, b23, b13, b12, b32, ctt, cff]
    rfl
  rw [if_neg o2]
  by_cases o3 : order = 3
  · subst o3
    rw [if_pos rfl]
    simp only [tn3, g6_3, b33, b22, b11, b23, b13, b12, b32, ctt, cff]
    rfl
  rw [if_neg o3]
  by_cases o4 : order = 4
  · subst o4
    rw [if_pos rfl]
    simp only [tn4, g6_4, b33, b22, b11, b23, b13, b12, b32, ctt, cff]
    rfl
  rw [if_neg o4]
  obtain rfl : order = 5 := by omega
  simp only [tn5, g6_5, b33, b22, b11, b23, b13, b12, b32, ctt, cff]
  rfl
def sTake (p : PolT) (l : LoanT) (amount : Int) : PartsT × Int × Unit :=
  if Kst (Lcase l) = 9 then ((0, 0, 0, amount, 0, ()), 0, ())
  else if Kst (Lcase l) = 8 then sRecover (W (Loff l - -(N l 10))) amount
  else sAlloc (Porder p) (sOwed l) amount
theorem take (d : DeskT) (amount : Int) (d0 : List Int) (d1 : List RowT) (d2 : List NoteT) (hb : bookOk (Lbook d.2.1)) :
    F_take ((), amount, ()) (d, d0, d1, d2, ()) = ⟨true, false, sTake d.1 d.2.1 amount, ((), (), (), (), ()), (0, ())⟩ := by
  rw [F_take_eq, balS d.2.1 d1 (a := 10) (i := 10) (by omega) hb, owedS]
  simp only [cff, tand]
  unfold sTake
  by_cases c1 : Kst (Lcase d.2.1) = 9
  · rw [if_pos c1, show (d.2.1.2.2.2.2.1.1 == 9) = true from by simpa using c1, ctt]
  rw [if_neg c1, show (d.2.1.2.2.2.2.1.1 == 9) = false from by simpa using c1, cff]
  by_cases c2 : Kst (Lcase d.2.1) = 8
  · rw [if_pos c2, show (d.2.1.2.2.2.2.1.1 == 8) = true from by simpa using c2, ctt, recover_]
  rw [if_neg c2, show (d.2.1.2.2.2.2.1.1 == 8) = false from by simpa using c2, cff, allocate]
end
end Go.Proofs.YtlflclfhldghbaaGreatDoor.Fs
end
section
set_option maxRecDepth 20000
namespace Go.Proofs.YtlflclfhldghbaaGreatDoor.Fs
open Go Go.Proofs.YtlflclfhldghbaaGreatDoor.Ls P
noncomputable section
def bpP (a b : Int) : Int :=
  if 5000 < a * b % 10000 ∨ (a * b % 10000 = 5000 ∧ a * b / 10000 % 2 = 1) then a * b / 10000 + 1 else a * b / 10000
theorem bps {b r : Int} (hb : 0 ≤ b) (hb2 : b ≤ 100000000000000) (hr : 0 ≤ r) (hr2 : r ≤ 10000) : F_mulDiv (b, r, (10000 : Int), ()) () = ⟨true, false, (bpP b r, true, ()), (), ()⟩ := by
  have hp0 : 0 ≤ b * r := Int.mul_nonneg hb hr
  have hp1 : b * r ≤ 100000000000000 * 10000 := Int.mul_le_mul hb2 hr2 hr (by omega)
  have n1 : decide (b < 0) = false := decide_eq_false (by omega)
  have n4 : decide (r < 0) = false := decide_eq_false (by omega)
  have n5 : decide ((10000 : Int) < 0) = false := rfl
  have wb : IntKind.u64.wrap b = b := wu64 hb (by omega)
  have wr : IntKind.u64.wrap r = r := wu64 hr (by omega)
  have wc : IntKind.u64.wrap 10000 = 10000 := wu64 (by omega) (by omega)
  have hmul := mul64 hb (by omega) hr (by omega) (show b * r ≤ 18446744073709551615 by omega)
  have hdiv := div64 hp0 (show b * r ≤ 18446744073709551615 by omega) (show (0 : Int) < 10000 by omega)
  rw [F_mulDiv_eq]
  simp only [n1, n4, n5, ctt, cff, wb, wr, wc, hmul, hdiv]
  have e1 : ((10000 : Int) == 0) = false := rfl
  have e2 : decide ((0 : Int) ≥ 10000) = false := rfl
  have e3 : (!(!false == false) == false) = false := rfl
  unfold bpP
  generalize hQ : b * r / 10000 = q
  generalize hM : b * r % 10000 = m
  have hq0 : 0 ≤ q := by omega
  have hq1 : q ≤ 100000000000000 := by omega
  have hm0 : 0 ≤ m := by omega
  have hm1 : m < 10000 := by omega
  have w1 : IntKind.u64.wrap (10000 - m) = 10000 - m := wu64 (by omega) (by omega)
  have w2 : IntKind.u64.wrap (q + 1) = q + 1 := wu64 (by omega) (by omega)
  have e4 : (q + 1 == 0) = false := beq_eq_false_iff_ne.mpr (by omega)
  simp only [e1, e2, e3, ctt, cff, w1, w2, bit1 hq0 (by omega), e4, andt, tand, csame]
  rw [withSign_pos (by omega) (by omega), withSign_pos (by omega) (by omega)]
  by_cases c1 : m > 10000 - m
  · have d1 : decide (m > 10000 - m) = true := decide_eq_true c1
    simp only [d1, ctt]
    rw [if_pos (by omega)]
  · have d1 : decide (m > 10000 - m) = false := decide_eq_false c1
    simp only [d1, cff]
    by_cases c2 : m = 10000 - m
    · have d2 : (m == 10000 - m) = true := by simpa using c2
      simp only [d2, ctt]
      by_cases c3 : q % 2 = 1
      · have d3 : (q % 2 == 1) = true := by simpa using c3
        simp only [d3, ctt]
        rw [if_pos (by omega)]
      · have d3 : (q % 2 == 1) = false := by simpa using c3
        simp only [d3, cff]
        rw [if_neg (by omega)]
    · have d2 : (m == 10000 - m) = false := by simpa using c2
      simp only [d2, cff]
      rw [if_neg (by omega)]
def polOk (p : PolT) : Prop := 0 ≤ p.2.2.2.2.1 ∧ p.2.2.2.2.1 ≤ 10000 ∧ 0 ≤ p.2.2.2.2.2.1 ∧ p.2.2.2.2.2.1 ≤ p.2.2.2.2.2.2.1 ∧ p.2.2.2.2.2.2.1 ≤ 1000000000 ∧ 0 ≤ Pcap p ∧ Pcap p ≤ 1000000000 ∧ 0 ≤ Plife p ∧ Plife p ≤ 1000000000 ∧ 0 ≤ Pgrace p ∧ Pgrace p ≤ 30 ∧ 1 ≤ Poff p ∧ Poff p ≤ 365 ∧ 0 ≤ Pproms p ∧ Pproms p ≤ 8 ∧ 1 ≤ Ppdays p ∧ Ppdays p ≤ 60 ∧ 0 ≤ Prestr p ∧ Prestr p ≤ 4 ∧ 0 ≤ Porder p ∧ Porder p ≤ 5
theorem chk_ok {p : PolT} {s : List Int} (h : (chk p s).1 = 0) : polOk p := by
  unfold chk at h
  have step : ∀ {b : Bool} {x y : Int × Int × Unit}, x.1 = 120 → (bif !b then x else y).1 = 0 → b = true ∧ y.1 = 0 := by
    intro b x y hx hh
    cases b
    · exfalso; simp only [Bool.not_false, cond_true] at hh; omega
    · exact ⟨rfl, hh⟩
  obtain ⟨h1, h⟩ := step rfl h
  obtain ⟨h2, h⟩ := step rfl h
  obtain ⟨h3, h⟩ := step rfl h
  obtain ⟨h4, h⟩ := step rfl h
  obtain ⟨h5, h⟩ := step rfl h
  obtain ⟨h6, h⟩ := step rfl h
  obtain ⟨h7, h⟩ := step rfl h
  obtain ⟨h8, h⟩ := step rfl h
  obtain ⟨h9, h⟩ := step rfl h
  obtain ⟨h10, h⟩ := step rfl h
  obtain ⟨h11, h⟩ := step rfl h
  obtain ⟨h12, h⟩ := step rfl h
  obtain ⟨h13, h⟩ := step rfl h
  unfold c2 at h2
  unfold c4 at h4
  unfold c5 at h5
  unfold c6 at h6
  unfold c7 at h7
  unfold c8 at h8
  unfold c9 at h9
  unfold c10 at h10
  unfold c11 at h11
  unfold c12 at h12
  unfold c13 at h13
  simp only [cand, Bool.and_eq_true, decide_eq_true_eq, ge_iff_le] at h2 h4 h5 h6 h7 h8 h9 h10 h11 h12 h13
  unfold polOk
  exact ⟨h5.1, h5.2, h6.1, h7.1, h7.2, h8.1, h8.2, h9.1, h9.2, h2.1, h2.2, h4.1, h4.2, h10.1, h10.2, h11.1, h11.2, h12.1, h12.2, h13.1, h13.2⟩
def sLate (p : PolT) (amount : Int) : Int :=
  if amount < 0 then 0
  else if bpP amount p.2.2.2.2.1 < p.2.2.2.2.2.1 then p.2.2.2.2.2.1
  else if p.2.2.2.2.2.2.1 < bpP amount p.2.2.2.2.1 then p.2.2.2.2.2.2.1
  else bpP amount p.2.2.2.2.1
theorem lateFee {p : PolT} {p0 : List Int} (hc : (chk p p0).1 = 0) {amount : Int} (ha : amount ≤ 100000000000000) : F_lateFee (p, amount, ()) (p0, ()) = ⟨true, false, sLate p amount, ((), ()), ()⟩ := by
  rw [F_lateFee_eq, check p p0]
  have hp := chk_ok hc
  unfold polOk at hp
  have h0 : (!((chk p p0).1 == 0)) = false := by simp [hc]
  simp only [h0, csame, cor, Bool.false_or, tand, andt]
  unfold sLate
  by_cases c1 : amount < 0
  · rw [if_pos c1, decide_eq_true c1, ctt]
  rw [if_neg c1, decide_eq_false c1, cff, bps (by omega) ha hp.1 hp.2.1]
  simp only []
  by_cases c2 : bpP amount p.2.2.2.2.1 < p.2.2.2.2.2.1
  · rw [if_pos c2, decide_eq_true c2]; simp only [ctt]
  rw [if_neg c2, decide_eq_false c2]; simp only [cff]
  by_cases c3 : p.2.2.2.2.2.2.1 < bpP amount p.2.2.2.2.1
  · rw [if_pos c3, decide_eq_true (show bpP amount p.2.2.2.2.1 > p.2.2.2.2.2.2.1 from c3)]; simp only [ctt]
  rw [if_neg c3, decide_eq_false (show ¬ bpP amount p.2.2.2.2.1 > p.2.2.2.2.2.2.1 from c3)]; simp only [cff]
theorem late_le {p : PolT} (hp : polOk p) (amount : Int) : 0 ≤ sLate p amount ∧ sLate p amount ≤ 1000000000 := by
  unfold polOk at hp
  unfold sLate
  split
  · omega
  split
  · omega
  split
  · omega
  · omega
def room (lim used : Int) : Int := if used ≤ 0 then lim else (if W (lim - used) > 0 then W (lim - used) else 0)
def sAssess (p : PolT) (amount c l : Int) : Int :=
  if sLate p amount = 0 then 0 else mn (room (Plife p) l) (mn (room (Pcap p) c) (sLate p amount))
theorem assess {p : PolT} {p0 : List Int} (hc : (chk p p0).1 = 0) {amount c l : Int} (ha : amount ≤ 100000000000000) : F_assess (p, amount, c, l, ()) (p0, ()) = ⟨true, false, sAssess p amount c l, ((), ()), ()⟩ := by
  rw [F_assess_eq, lateFee hc ha]
  simp only [csame, andt]
  unfold sAssess
  by_cases c1 : sLate p amount = 0
  · rw [if_pos c1, show (sLate p amount == 0) = true from by simpa using c1, ctt]
  rw [if_neg c1, show (sLate p amount == 0) = false from by simpa using c1, cff]
  unfold room
  by_cases c2 : c ≤ 0
  · rw [if_pos c2, decide_eq_true c2]
    by_cases c3 : l ≤ 0
    · rw [if_pos c3, decide_eq_true c3]; rfl
    · rw [if_neg c3, decide_eq_false c3]; rfl
  · rw [if_neg c2, decide_eq_false c2]
    by_cases c3 : l ≤ 0
    · rw [if_pos c3, decide_eq_true c3]; rfl
    · rw [if_neg c3, decide_eq_false c3]; rfl
theorem mn_le (x y : Int) : mn x y ≤ y := by unfold mn; split <;> omega
theorem assess_le {p : PolT} (hp : polOk p) (amount c l : Int) : sAssess p amount c l ≤ 1000000000 := by
  unfold sAssess
  split
  · omega
  · have := late_le hp amount
    have h1 := mn_le (room (Plife p) l) (mn (room (Pcap p) c) (sLate p amount))
    have h2 := mn_le (room (Pcap p) c) (sLate p amount)
    omega
def markR (r : RowT) : RowT := (r.1, r.2.1, r.2.2.1, true, ())
def markL : List RowT → List Int → List RowT
  | out, [] => out
  | out, i :: r => markL (if 0 ≤ i ∧ i < out.length then out.set i.toNat (markR (out.getD i.toNat (0, 0, 0, false, ()))) else out) r
theorem L_mark {plan : List RowT} {rows : List Int} (hs : rows.length ≤ 10000) : ∀ (n k i : Nat) (out : List RowT), n < k → i + n = rows.length →
    L_mark_4 k (((), (), ((rows.length : Nat) : Int), (i : Int), ()), (plan, rows, out, ())) = ⟨true, false, (), ((), (), markL out (rows.drop i), ()), ()⟩
  | n, 0, i, out, hk, hn => by omega
  | 0, k + 1, i, out, hk, hn => by
    rw [L_mark_4_eq]
    have e : rows.drop i = [] := List.drop_eq_nil_of_le (by omega)
    simp only [dF (show ¬ i < rows.length by omega), cff, e, markL]
  | n + 1, k + 1, i, out, hk, hn => by
    rw [L_mark_4_eq]
    have c : i < rows.length := by omega
    rw [drop1 (0 : Int) c]
    have hb : Nat.blt i rows.length = true := Nat.ble_eq_true_of_le c
    have h0 : decide ((0 : Int) ≤ (i : Int)) = true := by simp
    simp only [Int.toNat_natCast, dT c, ctt, h0, hb, tand, andt, csame, cand, wN (show i ≤ 10000000 by omega)]
    unfold markL
    by_cases z : 0 ≤ rows.getD i 0 ∧ rows.getD i 0 < out.length
    · rw [if_pos z, decide_eq_true (show rows.getD i 0 ≥ 0 from z.1), decide_eq_true z.2]
      have hin := inI z.1 z.2
      have z3 : decide ((0 : Int) ≤ rows.getD i 0) = true := decide_eq_true z.1
      have z4 : decide (rows.getD i 0 < ((out.length : Nat) : Int)) = true := decide_eq_true z.2
      rw [z3, z4] at hin
      simp only [Bool.and_self, ctt, tand, z3] at hin ⊢
      rw [hin]
      refine (rstep rfl (L_mark hs n k (i + 1) _ (by omega) (by omega))).trans ?_
      rfl
    · rw [if_neg z]
      have : (decide (rows.getD i 0 ≥ 0) && decide (rows.getD i 0 < ((out.length : Nat) : Int))) = false := by
        rw [Bool.eq_false_iff]; intro q; simp at q; exact z q
      rw [this]
      simp only [cff, tand]
      refine (reta _).trans ?_
      exact L_mark hs n k (i + 1) out (by omega) (by omega)
def sMark (plan : List RowT) (rows : List Int) : List RowT := markL plan rows
theorem ble32 {n : Nat} (h : n ≤ 100000) : Nat.ble (n * 32) 140737488355328 = true := Nat.ble_eq_true_of_le (by omega)
theorem mark {plan : List RowT} {rows : List Int} (hp : plan.length ≤ 10000) (hs : rows.length ≤ 10000) : F_mark ((), (), ()) (plan, rows, ()) = ⟨true, false, (), ((), (), sMark plan rows, ()), ()⟩ := by
  rw [F_mark_eq]
  refine rstep (ble32 (by simp; omega)) ?_
  exact L_mark hs rows.length (rows.length + 2) 0 plan (by omega) (by omega)
end
end Go.Proofs.YtlflclfhldghbaaGreatDoor.Fs
end
section
set_option maxRecDepth 20000
namespace Go.Proofs.YtlflclfhldghbaaGreatDoor.Fs
open Go Go.Proofs.YtlflclfhldghbaaGreatDoor.Ls P
noncomputable section
theorem getD_mem {α : Type} {l : List α} {n : Nat} (x : α) (h : n < l.length) : l.getD n x ∈ l := by
  rw [List.getD_eq_getElem?_getD, List.getElem?_eq_getElem h]
  exact List.getElem_mem h
def rowA (r : RowT) : Prop := 0 ≤ r.2.1 ∧ r.2.1 ≤ 10000000000000 ∧ 0 ≤ r.2.2.1 ∧ r.2.2.1 ≤ 10000000000000
def planA (plan : List RowT) : Prop := ∀ r ∈ plan, rowA r
def rowFee (p : PolT) (plan : List RowT) (l : LoanT) (i : Int) : Int :=
  sAssess p (W ((plan.getD i.toNat (0, 0, 0, false, ())).2.1 + (plan.getD i.toNat (0, 0, 0, false, ())).2.2.1)) (Kcfee (Lcase l)) (Klfee (Lcase l))
def sChargeL (p : PolT) (plan : List RowT) : LoanT → List NoteT → List Int → RD
  | l, nn, [] => .ok (l, nn)
  | l, nn, i :: r =>
    if rowFee p plan l i = 0 then sChargeL p plan l nn r
    else match sPlay p plan l nn (6, 0, 0, rowFee p plan l i, ()) with
      | .error e => .error e
      | .ok x => match sMove x.1 [(3, 8, rowFee p plan l i, ())] with
        | .error e => .error e
        | .ok l2 => sChargeL p plan l2 (sNote l2 x.2 5 (rowFee p plan l i)) r
def cplanR (plan : List RowT) : RD → List RowT | .error _ => [] | .ok _ => plan
theorem missL_in {t g : Int} : ∀ (rs : List RowT) (i : Nat), ∀ x ∈ missL t g i rs, (i : Int) ≤ x ∧ x < ((i + rs.length : Nat) : Int)
  | [], i, x, h => by cases h
  | r :: rs, i, x, h => by
    unfold missL at h
    by_cases c1 : (if t ≤ r.1 then 0 else W (t - r.1)) ≤ (if 0 > g then 0 else g)
    · rw [if_pos c1] at h; cases h
    rw [if_neg c1] at h
    by_cases c2 : r.2.2.2.1 = true
    · rw [if_pos c2] at h
      have := missL_in rs (i + 1) x h
      simp only [List.length_cons]; omega
    · rw [if_neg c2] at h
      rcases List.mem_cons.mp h with rfl | h
      · simp only [List.length_cons]; omega
      · have := missL_in rs (i + 1) x h
        simp only [List.length_cons]; omega
theorem missL_len {t g : Int} : ∀ (rs : List RowT) (i : Nat), (missL t g i rs).length ≤ rs.length
  | [], i => by simp [missL]
  | r :: rs, i => by
    unfold missL
    by_cases c1 : (if t ≤ r.1 then 0 else W (t - r.1)) ≤ (if 0 > g then 0 else g)
    · rw [if_pos c1]; simp
    rw [if_neg c1]
    have := missL_len (t := t) (g := g) rs (i + 1)
    by_cases c2 : r.2.2.2.1 = true
    · rw [if_pos c2]
      simp only [List.length_cons]; omega
    · rw [if_neg c2]
      simp only [List.length_cons]; omega
theorem missed_in {plan : List RowT} {pos : PosT} {t g : Int} (hs : plan.length ≤ 10000) : (∀ x ∈ sMissed plan pos t g, 0 ≤ x ∧ x < plan.length) ∧ (sMissed plan pos t g).length ≤ plan.length := by
  unfold sMissed
  split
  · exact ⟨by simp, by simp⟩
  · rename_i h
    have hl := oldest_lt hs pos (by simpa using h)
    constructor
    · intro x hx
      have := missL_in _ _ x hx
      simp only [List.length_drop] at this
      omega
    · have := missL_len (t := t) (g := g) (plan.drop (sOldest plan pos).1.toNat) (sOldest plan pos).1.toNat
      simp only [List.length_drop] at this
      omega
theorem L_charge {d0 : List Int} {d1 : List RowT} (rows : List Int) (hp : d1.length ≤ 10000) (hA : planA d1) (hr : ∀ x ∈ rows, 0 ≤ x ∧ x < d1.length) (hrl : rows.length ≤ 1000) : ∀ (n k i : Nat) (d : DeskT) (d2 : List NoteT), n < k → i + n = rows.length → (chk d.1 d0).1 = 0 → bookOk (Lbook d.2.1) → d2.length ≤ 1000 + 5 * i →
    L_charge_4 k (((), (), (), ((rows.length : Nat) : Int), (i : Int), ()), (d, d0, d1, d2, rows, ())) = ⟨true, epan (sChargeL d.1 d1 d.2.1 d2 (rows.drop i)), (), (ddesk d (sChargeL d.1 d1 d.2.1 d2 (rows.drop i)), (), (), (), cplanR (sMark d1 rows) (sChargeL d.1 d1 d.2.1 d2 (rows.drop i)), dnote (sChargeL d.1 d1 d.2.1 d2 (rows.drop i)), ()), (eerr (sChargeL d.1 d1 d.2.1 d2 (rows.drop i)), ())⟩
  | n, 0, i, d, d2, hk, hn, hc, hb, h2 => by omega
  | 0, k + 1, i, d, d2, hk, hn, hc, hb, h2 => by
    rw [L_charge_4_eq]
    have e : rows.drop i = [] := List.drop_eq_nil_of_le (by omega)
    rw [dF (show ¬ i < rows.length by omega), cff, e, mark hp (by omega)]
    rfl
  | n + 1, k + 1, i, d, d2, hk, hn, hc, hb, h2 => by
    rw [L_charge_4_eq]
    have c : i < rows.length := by omega
    have hmem : rows.getD i 0 ∈ rows := by simp [List.getD, List.getElem?_eq_getElem c]
    obtain ⟨r1, r2⟩ := hr _ hmem
    have hbl : Nat.blt i rows.length = true := Nat.ble_eq_true_of_le c
    have h0 : decide ((0 : Int) ≤ (i : Int)) = true := by simp
    have hin := inI r1 r2
    have hrow : d1.getD (rows.getD i 0).toNat ((0 : Int), (0 : Int), (0 : Int), false, ()) ∈ d1 := by
      exact getD_mem _ (by omega)
    have ha := hA _ hrow
    unfold rowA at ha
    have hW : W ((d1.getD (rows.getD i 0).toNat ((0 : Int), (0 : Int), (0 : Int), false, ())).2.1 + (d1.getD (rows.getD i 0).toNat ((0 : Int), (0 : Int), (0 : Int), false, ())).2.2.1) ≤ 100000000000000 := by
      unfold W; rw [w64 (by omega) (by omega)]; omega
    rw [drop1 (0 : Int) c]
    simp only [Int.toNat_natCast, dT c, ctt, hbl, h0, tand, andt, wN (show i ≤ 10000000 by omega)]
    have has := assess (p := d.1) (p0 := d0) hc (amount := W ((d1.getD (rows.getD i 0).toNat ((0 : Int), (0 : Int), (0 : Int), false, ())).2.1 + (d1.getD (rows.getD i 0).toNat ((0 : Int), (0 : Int), (0 : Int), false, ())).2.2.1)) (c := Kcfee (Lcase d.2.1)) (l := Klfee (Lcase d.2.1)) hW
    have hfee : F_assess (d.1, IntKind.i64.wrap ((d1.getD (rows.getD i 0).toNat ((0 : Int), (0 : Int), (0 : Int), false, ())).2.1 + (d1.getD (rows.getD i 0).toNat ((0 : Int), (0 : Int), (0 : Int), false, ())).2.2.1), d.2.1.2.2.2.2.1.2.2.2.2.2.2.2.2.2.2.2.2.2) (d0, ()) = ⟨true, false, rowFee d.1 d1 d.2.1 (rows.getD i 0), ((), ()), ()⟩ := has
    rw [hfee]
    have hin2 : (decide ((0 : Int) ≤ rows.getD i 0) && decide (rows.getD i 0 < ((d1.length : Nat) : Int)) && Nat.blt (rows.getD i 0).toNat d1.length) = true := hin
    unfold sChargeL
    by_cases z : rowFee d.1 d1 d.2.1 (rows.getD i 0) = 0
    · rw [if_pos z]
      simp only [show (rowFee d.1 d1 d.2.1 (rows.getD i 0) == 0) = true from by simpa using z, ctt, hin2, tand, andt]
      refine (reta _).trans ?_
      exact L_charge rows hp hA hr hrl n k (i + 1) d d2 (by omega) (by omega) hc hb (by omega)
    · rw [if_neg z]
      simp only [show (rowFee d.1 d1 d.2.1 (rows.getD i 0) == 0) = false from by simpa using z, cff, hin2, tand, andt]
      rw [play d _ d0 d1 d2 hc hb (by omega) hp]
      cases hpl : sPlay d.1 d1 d.2.1 d2 (6, 0, 0, rowFee d.1 d1 d.2.1 (rows.getD i 0), ()) with
      | error e => simp only [epan, ctt]; rfl
      | ok x =>
        obtain ⟨b1, b2⟩ := play_ok hb hpl
        simp only [epan, cff, ddesk, dnote]
        rw [move (d.1, x.1, d.2.2) d0 d1 x.2 [(3, 8, rowFee d.1 d1 d.2.1 (rows.getD i 0), ())] b1.1 (by simp) (by
          intro e he
          simp only [List.mem_singleton] at he
          subst he
          have := assess_le (chk_ok hc) (W ((d1.getD (rows.getD i 0).toNat ((0 : Int), (0 : Int), (0 : Int), false, ())).2.1 + (d1.getD (rows.getD i 0).toNat ((0 : Int), (0 : Int), (0 : Int), false, ())).2.2.1)) (Kcfee (Lcase d.2.1)) (Klfee (Lcase d.2.1))
          show rowFee d.1 d1 d.2.1 (rows.getD i 0) ≤ _
          unfold rowFee
          omega)]
        cases hm : sMove x.1 [(3, 8, rowFee d.1 d1 d.2.1 (rows.getD i 0), ())] with
        | error e => simp only [epan, ctt]; rfl
        | ok l2 =>
          simp only [epan, cff, mdesk, tand]
          rw [note _ _ _ _ _ _ (by omega)]
          simp only [tand]
          refine (reta _).trans ?_
          exact L_charge rows hp hA hr hrl n k (i + 1) (d.1, l2, d.2.2) (sNote l2 x.2 5 (rowFee d.1 d1 d.2.1 (rows.getD i 0))) (by omega) (by omega) hc (move_ok hm).1 (by unfold sNote; simp; omega)
def mayFee (l : LoanT) : Bool := kOpen (Lcase l) && !(Kst (Lcase l) == 4)
def sMissedOf (p : PolT) (plan : List RowT) (l : LoanT) : List Int := sMissed plan (posOf l) (Lday l) (Pgrace p)
def sCharge (p : PolT) (plan : List RowT) (l : LoanT) (nn : List NoteT) : RD :=
  if mayFee l = false then .ok (l, nn) else sChargeL p plan l nn (sMissedOf p plan l)
def sChargeP (p : PolT) (plan : List RowT) (l : LoanT) : List RowT :=
  if mayFee l = false then plan else sMark plan (sMissedOf p plan l)
theorem charge (d : DeskT) (d0 : List Int) (d1 : List RowT) (d2 : List NoteT) (hc : (chk d.1 d0).1 = 0) (hb : bookOk (Lbook d.2.1)) (hn : d2.length ≤ 1000) (hp : d1.length ≤ 1000) (hA : planA d1) :
    F_charge ((), ()) (d, d0, d1, d2, ()) = ⟨true, epan (sCharge d.1 d1 d.2.1 d2), (), (ddesk d (sCharge d.1 d1 d.2.1 d2), (), (), (), cplanR (sChargeP d.1 d1 d.2.1) (sCharge d.1 d1 d.2.1 d2), dnote (sCharge d.1 d1 d.2.1 d2), ()), (eerr (sCharge d.1 d1 d.2.1 d2), ())⟩ := by
  rw [F_charge_eq, positionS]
  simp only [cond3, csame, kOpenD, cff, tand, andt]
  rw [missed (by omega)]
  have hk : k_charge ((), ()) (d, d0, d1, d2, ()) = d1.length + 2 := rfl
  rw [hk]
  unfold sCharge sChargeP
  have hm : (bif kOpen d.2.1.2.2.2.2.1 then (d.2.1.2.2.2.2.1.1 == 4) else true) = !mayFee d.2.1 := by
    unfold mayFee
    cases kOpen d.2.1.2.2.2.2.1 <;> simp
  rw [hm]
  cases hf : mayFee d.2.1
  · rw [if_pos rfl, if_pos rfl, Bool.not_false, ctt]; rfl
  · rw [if_neg (by simp), if_neg (by simp), Bool.not_true, cff]
    obtain ⟨m1, m2⟩ := missed_in (plan := d1) (pos := posOf d.2.1) (t := Lday d.2.1) (g := Pgrace d.1) (by omega)
    simp only [tand]
    refine (reta _).trans ?_
    exact L_charge (d0 := d0) (d1 := d1) (sMissedOf d.1 d1 d.2.1) (by omega) hA m1 (Nat.le_trans m2 hp) (sMissedOf d.1 d1 d.2.1).length (d1.length + 2) 0 d d2 (by have : (sMissedOf d.1 d1 d.2.1).length ≤ d1.length := m2; omega) (by omega) hc hb (by omega)
theorem chargeL_ok {p plan} : ∀ (rows : List Int) {l nn x}, bookOk (Lbook l) → sChargeL p plan l nn rows = .ok x → bookOk (Lbook x.1) ∧ x.2.length ≤ nn.length + 5 * rows.length
  | [], l, nn, x, hb, h => by cases h; exact ⟨hb, by simp⟩
  | i :: r, l, nn, x, hb, h => by
    unfold sChargeL at h
    split at h
    · have := chargeL_ok r hb h
      exact ⟨this.1, by simp only [List.length_cons]; omega⟩
    · split at h
      · cases h
      · rename_i y hy
        obtain ⟨b1, b2⟩ := play_ok hb hy
        split at h
        · cases h
        · rename_i l2 hm
          have := chargeL_ok r (move_ok hm).1 h
          refine ⟨this.1, ?_⟩
          have h2 := this.2
          unfold sNote at h2
          simp only [List.length_append, List.length_singleton] at h2
          simp only [List.length_cons]; omega
theorem charge_ok {p plan l nn x} (hb : bookOk (Lbook l)) (hp : plan.length ≤ 1000) (h : sCharge p plan l nn = .ok x) : bookOk (Lbook x.1) ∧ x.2.length ≤ nn.length + 5 * plan.length := by
  unfold sCharge at h
  split at h
  · cases h; exact ⟨hb, by show nn.length ≤ _; omega⟩
  · have := chargeL_ok _ hb h
    have h2 := (missed_in (plan := plan) (pos := posOf l) (t := Lday l) (g := Pgrace p) (by omega)).2
    unfold sMissedOf at this
    exact ⟨this.1, by omega⟩
theorem markL_keep : ∀ (rows : List Int) (out : List RowT), (markL out rows).length = out.length ∧ (planA out → planA (markL out rows))
  | [], out => ⟨rfl, fun h => h⟩
  | i :: r, out => by
    unfold markL
    by_cases z : 0 ≤ i ∧ i < out.length
    · rw [if_pos z]
      obtain ⟨h1, h2⟩ := markL_keep r (out.set i.toNat (markR (out.getD i.toNat (0, 0, 0, false, ()))))
      refine ⟨by rw [h1, List.length_set], fun h => h2 (fun x hx => ?_)⟩
      rcases List.mem_or_eq_of_mem_set hx with hx | rfl
      · exact h x hx
      · have : out.getD i.toNat ((0 : Int), (0 : Int), (0 : Int), false, ()) ∈ out := by
          exact getD_mem _ (by omega)
        have q : rowA (out.getD i.toNat (0, 0, 0, false, ())) := h _ this
        exact q
    · rw [if_neg z]
      exact markL_keep r out
theorem chargeP_keep (p : PolT) (plan : List RowT) (l : LoanT) : (sChargeP p plan l).length = plan.length ∧ (planA plan → planA (sChargeP p plan l)) := by
  unfold sChargeP
  split
  · exact ⟨rfl, fun h => h⟩
  · exact markL_keep _ _
end
end Go.Proofs.YtlflclfhldghbaaGreatDoor.Fs
end
section
set_option maxRecDepth 100000
namespace Go.Proofs.YtlflclfhldghbaaGreatDoor.Fs
open Go Go.Proofs.YtlflclfhldghbaaGreatDoor.Ls
noncomputable def C_open : Cx TT := cxB tbl75 Go.Proofs.Tryz.f12.ntmps [] [] [1000001] [] []
noncomputable def k_open (a : g_open.args.ty) (h : tysO TT g_open.hp) : Nat := 0
noncomputable def F_open : g_open.args.ty → tysO TT g_open.hp → Res TT g_open := fun a h => bodyG C_open g_open Go.Proofs.Tryz.f12 [] (k_open a h) a h
theorem F_open_ok : FOK prog globs 12 g_open F_open :=
  bodyG_sound (cx := C_open) mix (cxB_ok tbl75_ok _ _ _ _ _ _) (f := 12) (fn := Go.Proofs.Tryz.f12) (by kernel_rfl) (by kernel_rfl) (by kernel_rfl) (by kernel_rfl) _
theorem F_open_eq (p : T23) (id : Int) (t : T25) (p_0 : List Int) : F_open (p, id, t, ()) (p_0, ()) =
  let x0 := (((F_check (p, ()) (p_0, ())).ok && true) && true)
  let x1 := (⟨((x0 && true) && true), false, (((0 : Int), ((0 : Int), (0 : Int), (0 : Int), (0 : Int), (0 : Int), (0 : Int), ()), (), (((0 : Int), (0 : Int), (0 : Int), (0 : Int), (0 : Int), (0 : Int), (0 : Int), (0 : Int), (0 : Int), (0 : Int), (0 : Int), (0 : Int), ()), ()), ((0 : Int), false, (0 : Int), (0 : Int), (0 : Int), (0 : Int), (0 : Int), (0 : Int), (0 : Int), (0 : Int), (0 : Int), (0 : Int), (0 : Int), (0 : Int), (0 : Int), ()), (0 : Int), (0 : Int), (0 : Int), ((0 : Int), (0 : Int), (0 : Int), (0 : Int), (0 : Int), ()), false, (0 : Int), (0 : Int), ()), ((0 : Int), (0 : Int), (0 : Int), (0 : Int), (0 : Int), ()), (), (2 : Int), ()), ((), ([] : List ZR), ([] : List ZN), ()), ()⟩ : Res TT g_open)
  let x2 := ((((F_may (t, ()) ()).ok && true) && (F_plan (t, (), ()) (p_0, ())).ok) && true)
  let x3 := (((F_plan (t, (), ()) (p_0, ())).out : Unit × (List ZR) × Unit).2).1
  let x4 := (F_move ((), (), ()) ((p, (id, t, (), (((0 : Int), (0 : Int), (0 : Int), (0 : Int), (0 : Int), (0 : Int), (0 : Int), (0 : Int), (0 : Int), (0 : Int), (0 : Int), (0 : Int), ()), ()), ((1 : Int), false, (0 : Int), (0 : Int), (0 : Int), (0 : Int), (0 : Int), (0 : Int), (0 : Int), (0 : Int), (0 : Int), (0 : Int), (0 : Int), (0 : Int), (0 : Int), ()), t.2.2.2.2.1, (0 : Int), (0 : Int), ((0 : Int), (0 : Int), (0 : Int), (0 : Int), (0 : Int), ()), false, (0 : Int), (0 : Int), ()), ((0 : Int), (0 : Int), (0 : Int), (0 : Int), (0 : Int), ()), (), ()), p_0, x3, ([] : List ZN), [((1 : Int), (6 : Int), t.2.1, ())], ()))
  let x5 := ((x0 && ((x2 && true) && x4.ok)) && true)
  let x6 := ((x4.out : ZD × Unit × Unit × Unit × Unit × Unit).1).2
  (bif (((F_check (p, ()) (p_0, ())).ret : Int × Int × Unit).1 != 0) then ⟨x0, false, (((0 : Int), ((0 : Int), (0 : Int), (0 : Int), (0 : Int), (0 : Int), (0 : Int), ()), (), (((0 : Int), (0 : Int), (0 : Int), (0 : Int), (0 : Int), (0 : Int), (0 : Int), (0 : Int), (0 : Int), (0 : Int), (0 : Int), (0 : Int), ()), ()), ((0 : Int), false, (0 : Int), (0 : Int), (0 : Int), (0 : Int), (0 : Int), (0 : Int), (0 : Int), (0 : Int), (0 : Int), (0 : Int), (0 : Int), (0 : Int), (0 : Int), ()), (0 : Int), (0 : Int), (0 : Int), ((0 : Int), (0 : Int), (0 : Int), (0 : Int), (0 : Int), ()), false, (0 : Int), (0 : Int), ()), ((0 : Int), (0 : Int), (0 : Int), (0 : Int), (0 : Int), ()), (), ((F_check (p, ()) (p_0, ())).ret : Int × Int × Unit).1, ()), ((), ([] : List ZR), ([] : List ZN), ()), ()⟩ else (bif decide (id ≥ 1) then (bif (!decide (id ≤ 999999)) then x1 else (bif (!((F_may (t, ()) ()).ret : Bool)) then ⟨((x0 && ((F_may (t, ()) ()).ok && true)) && true), false, (((0 : Int), ((0 : Int), (0 : Int), (0 : Int), (0 : Int), (0 : Int), (0 : Int), ()), (), (((0 : Int), (0 : Int), (0 : Int), (0 : Int), (0 : Int), (0 : Int), (0 : Int), (0 : Int), (0 : Int), (0 : Int), (0 : Int), (0 : Int), ()), ()), ((0 : Int), false, (0 : Int), (0 : Int), (0 : Int), (0 : Int), (0 : Int), (0 : Int), (0 : Int), (0 : Int), (0 : Int), (0 : Int), (0 : Int), (0 : Int), (0 : Int), ()), (0 : Int), (0 : Int), (0 : Int), ((0 : Int), (0 : Int), (0 : Int), (0 : Int), (0 : Int), ()), false, (0 : Int), (0 : Int), ()), ((0 : Int), (0 : Int), (0 : Int), (0 : Int), (0 : Int), ()), (), (140 : Int), ()), ((), ([] : List ZR), ([] : List ZN), ()), ()⟩ else (bif (!(((F_plan (t, (), ()) (p_0, ())).ret : Unit × Bool × Unit).2).1) then ⟨((x0 && x2) && true), false, (((0 : Int), ((0 : Int), (0 : Int), (0 : Int), (0 : Int), (0 : Int), (0 : Int), ()), (), (((0 : Int), (0 : Int), (0 : Int), (0 : Int), (0 : Int), (0 : Int), (0 : Int), (0 : Int), (0 : Int), (0 : Int), (0 : Int), (0 : Int), ()), ()), ((0 : Int), false, (0 : Int), (0 : Int), (0 : Int), (0 : Int), (0 : Int), (0 : Int), (0 : Int), (0 : Int), (0 : Int), (0 : Int), (0 : Int), (0 : Int), (0 : Int), ()), (0 : Int), (0 : Int), (0 : Int), ((0 : Int), (0 : Int), (0 : Int), (0 : Int), (0 : Int), ()), false, (0 : Int), (0 : Int), ()), ((0 : Int), (0 : Int), (0 : Int), (0 : Int), (0 : Int), ()), (), (141 : Int), ()), ((), ([] : List ZR), ([] : List ZN), ()), ()⟩ else (bif x4.pan then ⟨x5, false, (((0 : Int), ((0 : Int), (0 : Int), (0 : Int), (0 : Int), (0 : Int), (0 : Int), ()), (), (((0 : Int), (0 : Int), (0 : Int), (0 : Int), (0 : Int), (0 : Int), (0 : Int), (0 : Int), (0 : Int), (0 : Int), (0 : Int), (0 : Int), ()), ()), ((0 : Int), false, (0 : Int), (0 : Int), (0 : Int), (0 : Int), (0 : Int), (0 : Int), (0 : Int), (0 : Int), (0 : Int), (0 : Int), (0 : Int), (0 : Int), (0 : Int), ()), (0 : Int), (0 : Int), (0 : Int), ((0 : Int), (0 : Int), (0 : Int), (0 : Int), (0 : Int), ()), false, (0 : Int), (0 : Int), ()), ((0 : Int), (0 : Int), (0 : Int), (0 : Int), (0 : Int), ()), (), (x4.pv : Int × Unit)), ((), ([] : List ZR), ([] : List ZN), ()), ()⟩ else ⟨x5, false, (x6.1, x6.2.1, (), (0 : Int), ()), ((), x3, ([] : List ZN), ()), ()⟩)))) else x1)) := by kernel_rfl
noncomputable def tbl76 : List (Ent TT) := ⟨12, g_open, F_open⟩ :: tbl75
theorem tbl76_ok : TblOK prog globs tbl76 := tbl_cons (by kernel_rfl) F_open_ok tbl75_ok
noncomputable def C_pay : Cx TT := cxB tbl76 Go.Proofs.Tryz.f9.ntmps [] [] [1000001] [] []
noncomputable def k_pay (a : g_pay.args.ty) (h : tysO TT g_pay.hp) : Nat := 0
noncomputable def F_pay : g_pay.args.ty → tysO TT g_pay.hp → Res TT g_pay := fun a h => bodyG C_pay g_pay Go.Proofs.Tryz.f9 [] (k_pay a h) a h
theorem F_pay_ok : FOK prog globs 9 g_pay F_pay :=
  bodyG_sound (cx := C_pay) mix (cxB_ok tbl76_ok _ _ _ _ _ _) (f := 9) (fn := Go.Proofs.Tryz.f9) (by kernel_rfl) (by kernel_rfl) (by kernel_rfl) (by kernel_rfl) _
theorem F_pay_eq (p : T23) (l : T36) (amount : Int) (p_0 : List Int) (l_0 : List T123) : F_pay (p, l, amount, ()) (p_0, l_0, ()) =
  let x0 := ((Nat.blt 0 l_0.length) && (Nat.ble ((([] : List ZR).length + l_0.length) * 32) 140737488355328))
  let x1 := (((F_check (p, ()) (p_0, ())).ok && true) && x0)
  let x2 := (F_take ((), amount, ()) ((p, l, ((0 : Int), (0 : Int), (0 : Int), (0 : Int), (0 : Int), ()), (), ()), p_0, (([] : List ZR) ++ l_0), ([] : List ZN), ()))
  let x3 := x2.ok
  let x4 := (x2.ret : ZP × Int × Unit)
  let x5 := x4.2
  let x6 := (x3 && true)
  let x7 := x4.1
  let x8 := (F_entries (x7, ()) ())
  let x9 := (F_move ((), (), ()) ((p, l, ((0 : Int), (0 : Int), (0 : Int), (0 : Int), (0 : Int), ()), (), ()), p_0, (([] : List ZR) ++ l_0), ([] : List ZN), (x8.out : (List ZE) × Unit)))
  let x10 := ((x6 && x8.ok) && x9.ok)
  let x11 := (x9.out : ZD × Unit × Unit × Unit × Unit × Unit).1
  let x12 := x11.2.1
  let x13 := (F_over (x12, ()) ((([] : List ZR) ++ l_0), ()))
  let x14 := (x10 && x13.ok)
  let x15 := x12.2
  let x16 := x15.2.2
  let x17 := x16.2
  let x18 := x17.2
  let x19 := x18.2
  let x20 := x19.2
  let x21 := x7.2
  let x22 := (F_pdays ((), ()) ((x11.1, (x12.1, x15.1, (), x16.1, x17.1, x18.1, x19.1, (IntKind.i64.wrap (x20.1 + (IntKind.i64.wrap (x21.1 + x21.2.1)))), x7, true, x20.2.2.2), x7, (), ()), p_0, (([] : List ZR) ++ l_0), ([] : List ZN), ()))
  let x23 := (F_play ((), ((2 : Int), (0 : Int), (x22.ret : Int), amount, ()), ()) ((x11.1, (x12.1, x15.1, (), x16.1, x17.1, x18.1, x19.1, (IntKind.i64.wrap (x20.1 + (IntKind.i64.wrap (x21.1 + x21.2.1)))), x7, true, x20.2.2.2), x7, (), ()), p_0, (([] : List ZR) ++ l_0), ([] : List ZN), ()))
  let x24 := ((x14 && x22.ok) && x23.ok)
  let x25 := (x23.out : ZG)
  let x26 := (F_settle ((), ()) (x25.1, p_0, (([] : List ZR) ++ l_0), x25.2.2.2.2))
  let x27 := (x1 && (x24 && x26.ok))
  let x28 := (x26.out : ZG)
  let x29 := x28.1.2
  (bif (((F_check (p, ()) (p_0, ())).ret : Int × Int × Unit).1 != 0) then ⟨x1, false, (l, ((0 : Int), (0 : Int), (0 : Int), (0 : Int), (0 : Int), ()), (), ((F_check (p, ()) (p_0, ())).ret : Int × Int × Unit).1, ()), ((), (), (([] : List ZR) ++ l_0), ([] : List ZN), ()), ()⟩ else (bif (!decide (amount ≥ 1)) then ⟨((x1 && true) && x0), false, (l, ((0 : Int), (0 : Int), (0 : Int), (0 : Int), (0 : Int), ()), (), (4 : Int), ()), ((), (), (([] : List ZR) ++ l_0), ([] : List ZN), ()), ()⟩ else (bif x2.pan then ⟨((x1 && x3) && x0), false, (l, ((0 : Int), (0 : Int), (0 : Int), (0 : Int), (0 : Int), ()), (), (x2.pv : Int × Unit)), ((), (), (([] : List ZR) ++ l_0), ([] : List ZN), ()), ()⟩ else (bif (x5.1 != 0) then ⟨((x1 && x6) && x0), false, (l, ((0 : Int), (0 : Int), (0 : Int), (0 : Int), (0 : Int), ()), (), x5), ((), (), (([] : List ZR) ++ l_0), ([] : List ZN), ()), ()⟩ else (bif x9.pan then ⟨((x1 && x10) && x0), false, (l, ((0 : Int), (0 : Int), (0 : Int), (0 : Int), (0 : Int), ()), (), (x9.pv : Int × Unit)), ((), (), (([] : List ZR) ++ l_0), ([] : List ZN), ()), ()⟩ else (bif (x13.ret : Bool) then ⟨((x1 && x14) && true), false, (x12, x7, (), (0 : Int), ()), ((), (), (([] : List ZR) ++ l_0), ([] : List ZN), ()), ()⟩ else (bif x22.pan then ⟨false, false, (((0 : Int), ((0 : Int), (0 : Int), (0 : Int), (0 : Int), (0 : Int), (0 : Int), ()), (), (((0 : Int), (0 : Int), (0 : Int), (0 : Int), (0 : Int), (0 : Int), (0 : Int), (0 : Int), (0 : Int), (0 : Int), (0 : Int), (0 : Int), ()), ()), ((0 : Int), false, (0 : Int), (0 : Int), (0 : Int), (0 : Int), (0 : Int), (0 : Int), (0 : Int), (0 : Int), (0 : Int), (0 : Int), (0 : Int), (0 : Int), (0 : Int), ()), (0 : Int), (0 : Int), (0 : Int), ((0 : Int), (0 : Int), (0 : Int), (0 : Int), (0 : Int), ()), false, (0 : Int), (0 : Int), ()), ((0 : Int), (0 : Int), (0 : Int), (0 : Int), (0 : Int), ()), (), (0 : Int), ()), ((), (), ([] : List ZR), ([] : List ZN), ()), ()⟩ else (bif x23.pan then ⟨((x1 && x24) && x0), false, (l, ((0 : Int), (0 : Int), (0 : Int), (0 : Int), (0 : Int), ()), (), (x23.pv : Int × Unit)), ((), (), (([] : List ZR) ++ l_0), ([] : List ZN), ()), ()⟩ else (bif x26.pan then ⟨(x27 && x0), false, (l, ((0 : Int), (0 : Int), (0 : Int), (0 : Int), (0 : Int), ()), (), (x26.pv : Int × Unit)), ((), (), (([] : List ZR) ++ l_0), ([] : List ZN), ()), ()⟩ else ⟨(x27 && true), false, (x29.1, x29.2.1, (), (0 : Int), ()), ((), (), (([] : List ZR) ++ l_0), x28.2.2.2.2), ()⟩))))))))) := by kernel_rfl
noncomputable def tbl77 : List (Ent TT) := ⟨9, g_pay, F_pay⟩ :: tbl76
theorem tbl77_ok : TblOK prog globs tbl77 := tbl_cons (by kernel_rfl) F_pay_ok tbl76_ok
end Go.Proofs.YtlflclfhldghbaaGreatDoor.Fs
end
section
set_option maxRecDepth 100000
namespace Go.Proofs.YtlflclfhldghbaaGreatDoor.Fs
open Go Go.Proofs.YtlflclfhldghbaaGreatDoor.Ls
noncomputable def C_return_ : Cx TT := cxB tbl77 Go.Proofs.Tryz.f13.ntmps [] [] [1000001] [] []
noncomputable def k_return_ (a : g_return_.args.ty) (h : tysO TT g_return_.hp) : Nat := 0
noncomputable def F_return_ : g_return_.args.ty → tysO TT g_return_.hp → Res TT g_return_ := fun a h => bodyG C_return_ g_return_ Go.Proofs.Tryz.f13 [] (k_return_ a h) a h
theorem F_return__ok : FOK prog globs 13 g_return_ F_return_ :=
  bodyG_sound (cx := C_return_) mix (cxB_ok tbl77_ok _ _ _ _ _ _) (f := 13) (fn := Go.Proofs.Tryz.f13) (by kernel_rfl) (by kernel_rfl) (by kernel_rfl) (by kernel_rfl) _
theorem F_return__eq (p : T23) (l : T36) (p_0 : List Int) (l_0 : List T123) : F_return_ (p, l, ()) (p_0, l_0, ()) =
  let x0 := ((Nat.blt 0 l_0.length) && (Nat.ble ((([] : List ZR).length + l_0.length) * 32) 140737488355328))
  let x1 := (((F_check (p, ()) (p_0, ())).ok && true) && x0)
  let x2 := ((F_over (l, ()) ((([] : List ZR) ++ l_0), ())).ok && true)
  let x3 := (x2 && true)
  let x4 := (F_undo (l.2.2.2.2.2.2.2.2.1, ()) ())
  let x5 := (F_move ((), (), ()) ((p, l, ((0 : Int), (0 : Int), (0 : Int), (0 : Int), (0 : Int), ()), (), ()), p_0, (([] : List ZR) ++ l_0), ([] : List ZN), (x4.out : (List ZE) × Unit)))
  let x6 := ((x3 && x4.ok) && x5.ok)
  let x7 := l.2.2.2.2.2.2.2.2.1.2.1
  let x8 := l.2.2.2.2.2.2.2.2.1.2.2
  let x9 := x8.1
  let x10 := x8.2
  let x11 := (x5.out : ZD × Unit × Unit × Unit × Unit × Unit).1
  let x12 := x11.2
  let x13 := x12.1
  let x14 := x13.2
  let x15 := x14.2.2
  let x16 := x15.2
  let x17 := x16.2
  let x18 := x17.2
  let x19 := x18.2
  let x20 := (F_play ((), ((3 : Int), (0 : Int), (0 : Int), (IntKind.i64.wrap ((IntKind.i64.wrap ((IntKind.i64.wrap ((IntKind.i64.wrap (l.2.2.2.2.2.2.2.2.1.1 + x7)) + x9)) + x10.1)) + x10.2.1)), ()), ()) ((x11.1, (x13.1, x14.1, (), x15.1, x16.1, x17.1, x18.1, (IntKind.i64.wrap (x19.1 - (IntKind.i64.wrap (x7 + x9)))), x19.2), x12.2), p_0, (([] : List ZR) ++ l_0), ([] : List ZN), ()))
  let x21 := (x6 && x20.ok)
  let x22 := (x20.out : ZG)
  let x23 := x22.1
  let x24 := (F_note ((), (9 : Int), (IntKind.i64.wrap ((IntKind.i64.wrap ((IntKind.i64.wrap ((IntKind.i64.wrap (l.2.2.2.2.2.2.2.2.1.1 + x7)) + x9)) + x10.1)) + x10.2.1)), ()) ((x23.1, x23.2.1, l.2.2.2.2.2.2.2.2.1, (), ()), p_0, (([] : List ZR) ++ l_0), x22.2.2.2.2))
  let x25 := (x24.out : ZG)
  let x26 := x25.2.2.2.2
  let x27 := (F_forget ((), ()) (x25.1, p_0, (([] : List ZR) ++ l_0), x26))
  let x28 := ((x27.out : ZD × Unit × Unit × Unit × Unit).1).2
  (bif (((F_check (p, ()) (p_0, ())).ret : Int × Int × Unit).1 != 0) then ⟨x1, false, (l, ((0 : Int), (0 : Int), (0 : Int), (0 : Int), (0 : Int), ()), (), ((F_check (p, ()) (p_0, ())).ret : Int × Int × Unit).1, ()), ((), (), (([] : List ZR) ++ l_0), ([] : List ZN), ()), ()⟩ else (bif (!(!((F_over (l, ()) ((([] : List ZR) ++ l_0), ())).ret : Bool))) then ⟨((x1 && x2) && x0), false, (l, ((0 : Int), (0 : Int), (0 : Int), (0 : Int), (0 : Int), ()), (), (130 : Int), ()), ((), (), (([] : List ZR) ++ l_0), ([] : List ZN), ()), ()⟩ else (bif (!l.2.2.2.2.2.2.2.2.2.1) then ⟨((x1 && x3) && x0), false, (l, ((0 : Int), (0 : Int), (0 : Int), (0 : Int), (0 : Int), ()), (), (142 : Int), ()), ((), (), (([] : List ZR) ++ l_0), ([] : List ZN), ()), ()⟩ else (bif x5.pan then ⟨((x1 && x6) && x0), false, (l, ((0 : Int), (0 : Int), (0 : Int), (0 : Int), (0 : Int), ()), (), (x5.pv : Int × Unit)), ((), (), (([] : List ZR) ++ l_0), ([] : List ZN), ()), ()⟩ else (bif x20.pan then ⟨((x1 && x21) && x0), false, (l, ((0 : Int), (0 : Int), (0 : Int), (0 : Int), (0 : Int), ()), (), (x20.pv : Int × Unit)), ((), (), (([] : List ZR) ++ l_0), ([] : List ZN), ()), ()⟩ else ⟨((x1 && ((x21 && x24.ok) && x27.ok)) && true), false, (x28.1, x28.2.1, (), (0 : Int), ()), ((), (), (([] : List ZR) ++ l_0), x26), ()⟩))))) := by kernel_rfl
noncomputable def tbl78 : List (Ent TT) := ⟨13, g_return_, F_return_⟩ :: tbl77
theorem tbl78_ok : TblOK prog globs tbl78 := tbl_cons (by kernel_rfl) F_return__ok tbl77_ok
noncomputable def C_refund : Cx TT := cxB tbl78 Go.Proofs.Tryz.f50.ntmps [] [] [1000001] [] []
noncomputable def k_refund (a : g_refund.args.ty) (h : tysO TT g_refund.hp) : Nat := 0
noncomputable def F_refund : g_refund.args.ty → tysO TT g_refund.hp → Res TT g_refund := fun a h => bodyG C_refund g_refund Go.Proofs.Tryz.f50 [] (k_refund a h) a h
theorem F_refund_ok : FOK prog globs 50 g_refund F_refund :=
  bodyG_sound (cx := C_refund) mix (cxB_ok tbl78_ok _ _ _ _ _ _) (f := 50) (fn := Go.Proofs.Tryz.f50) (by kernel_rfl) (by kernel_rfl) (by kernel_rfl) (by kernel_rfl) _
theorem F_refund_eq (p : T23) (l : T36) (amount : Int) (p_0 : List Int) (l_0 : List T123) : F_refund (p, l, amount, ()) (p_0, l_0, ()) =
  let x0 := ((Nat.blt 0 l_0.length) && (Nat.ble ((([] : List ZR).length + l_0.length) * 32) 140737488355328))
  let x1 := (((F_check (p, ()) (p_0, ())).ok && true) && x0)
  let x2 := ((F_balance (l, (4 : Int), ()) ((([] : List ZR) ++ l_0), ())).ok && true)
  let x3 := (F_move ((), (), ()) ((p, l, ((0 : Int), (0 : Int), (0 : Int), (0 : Int), (0 : Int), ()), (), ()), p_0, (([] : List ZR) ++ l_0), ([] : List ZN), [((4 : Int), (0 : Int), amount, ())], ()))
  let x4 := (x1 && (x2 && x3.ok))
  let x5 := ((x3.out : ZD × Unit × Unit × Unit × Unit × Unit).1).2
  (bif (((F_check (p, ()) (p_0, ())).ret : Int × Int × Unit).1 != 0) then ⟨x1, false, (l, ((0 : Int), (0 : Int), (0 : Int), (0 : Int), (0 : Int), ()), (), ((F_check (p, ()) (p_0, ())).ret : Int × Int × Unit).1, ()), ((), (), (([] : List ZR) ++ l_0), ([] : List ZN), ()), ()⟩ else (bif (!decide (amount ≥ 1)) then ⟨((x1 && true) && x0), false, (l, ((0 : Int), (0 : Int), (0 : Int), (0 : Int), (0 : Int), ()), (), (4 : Int), ()), ((), (), (([] : List ZR) ++ l_0), ([] : List ZN), ()), ()⟩ else (bif (F_balance (l, (4 : Int), ()) ((([] : List ZR) ++ l_0), ())).pan then ⟨false, false, (((0 : Int), ((0 : Int), (0 : Int), (0 : Int), (0 : Int), (0 : Int), (0 : Int), ()), (), (((0 : Int), (0 : Int), (0 : Int), (0 : Int), (0 : Int), (0 : Int), (0 : Int), (0 : Int), (0 : Int), (0 : Int), (0 : Int), (0 : Int), ()), ()), ((0 : Int), false, (0 : Int), (0 : Int), (0 : Int), (0 : Int), (0 : Int), (0 : Int), (0 : Int), (0 : Int), (0 : Int), (0 : Int), (0 : Int), (0 : Int), (0 : Int), ()), (0 : Int), (0 : Int), (0 : Int), ((0 : Int), (0 : Int), (0 : Int), (0 : Int), (0 : Int), ()), false, (0 : Int), (0 : Int), ()), ((0 : Int), (0 : Int), (0 : Int), (0 : Int), (0 : Int), ()), (), (0 : Int), ()), ((), (), ([] : List ZR), ([] : List ZN), ()), ()⟩ else (bif (!decide (amount ≤ ((F_balance (l, (4 : Int), ()) ((([] : List ZR) ++ l_0), ())).ret : Int))) then ⟨((x1 && x2) && x0), false, (l, ((0 : Int), (0 : Int), (0 : Int), (0 : Int), (0 : Int), ()), (), (143 : Int), ()), ((), (), (([] : List ZR) ++ l_0), ([] : List ZN), ()), ()⟩ else (bif x3.pan then ⟨(x4 && x0), false, (l, ((0 : Int), (0 : Int), (0 : Int), (0 : Int), (0 : Int), ()), (), (x3.pv : Int × Unit)), ((), (), (([] : List ZR) ++ l_0), ([] : List ZN), ()), ()⟩ else ⟨(x4 && true), false, (x5.1, x5.2.1, (), (0 : Int), ()), ((), (), (([] : List ZR) ++ l_0), ([] : List ZN), ()), ()⟩))))) := by kernel_rfl
noncomputable def tbl79 : List (Ent TT) := ⟨50, g_refund, F_refund⟩ :: tbl78
theorem tbl79_ok : TblOK prog globs tbl79 := tbl_cons (by kernel_rfl) F_refund_ok tbl78_ok
end Go.Proofs.YtlflclfhldghbaaGreatDoor.Fs
end
section
set_option maxRecDepth 100000
namespace Go.Proofs.YtlflclfhldghbaaGreatDoor.Fs
open Go Go.Proofs.YtlflclfhldghbaaGreatDoor.Ls
noncomputable def C_waive : Cx TT := cxB tbl79 Go.Proofs.Tryz.f51.ntmps [] [] [1000001] [] []
noncomputable def k_waive (a : g_waive.args.ty) (h : tysO TT g_waive.hp) : Nat := 0
noncomputable def F_waive : g_waive.args.ty → tysO TT g_waive.hp → Res TT g_waive := fun a h => bodyG C_waive g_waive Go.Proofs.Tryz.f51 [] (k_waive a h) a h
theorem F_waive_ok : FOK prog globs 51 g_waive F_waive :=
  bodyG_sound (cx := C_waive) mix (cxB_ok tbl79_ok _ _ _ _ _ _) (f := 51) (fn := Go.Proofs.Tryz.f51) (by kernel_rfl) (by kernel_rfl) (by kernel_rfl) (by kernel_rfl) _
theorem F_waive_eq (p : T23) (l : T36) (amount : Int) (p_0 : List Int) (l_0 : List T123) : F_waive (p, l, amount, ()) (p_0, l_0, ()) =
  let x0 := ((Nat.blt 0 l_0.length) && (Nat.ble ((([] : List ZR).length + l_0.length) * 32) 140737488355328))
  let x1 := (((F_check (p, ()) (p_0, ())).ok && true) && x0)
  let x2 := ((F_over (l, ()) ((([] : List ZR) ++ l_0), ())).ok && true)
  let x3 := ((x2 && (F_balance (l, (3 : Int), ()) ((([] : List ZR) ++ l_0), ())).ok) && true)
  let x4 := (F_move ((), (), ()) ((p, l, ((0 : Int), (0 : Int), (0 : Int), (0 : Int), (0 : Int), ()), (), ()), p_0, (([] : List ZR) ++ l_0), ([] : List ZN), [((11 : Int), (3 : Int), amount, ())], ()))
  let x5 := (x3 && x4.ok)
  let x6 := (F_settle ((), ()) ((x4.out : ZD × Unit × Unit × Unit × Unit × Unit).1, p_0, (([] : List ZR) ++ l_0), ([] : List ZN), ()))
  let x7 := (x1 && (x5 && x6.ok))
  let x8 := (x6.out : ZG)
  let x9 := x8.1.2
  (bif (((F_check (p, ()) (p_0, ())).ret : Int × Int × Unit).1 != 0) then ⟨x1, false, (l, ((0 : Int), (0 : Int), (0 : Int), (0 : Int), (0 : Int), ()), (), ((F_check (p, ()) (p_0, ())).ret : Int × Int × Unit).1, ()), ((), (), (([] : List ZR) ++ l_0), ([] : List ZN), ()), ()⟩ else (bif (!decide (amount ≥ 1)) then ⟨((x1 && true) && x0), false, (l, ((0 : Int), (0 : Int), (0 : Int), (0 : Int), (0 : Int), ()), (), (4 : Int), ()), ((), (), (([] : List ZR) ++ l_0), ([] : List ZN), ()), ()⟩ else (bif (!(!((F_over (l, ()) ((([] : List ZR) ++ l_0), ())).ret : Bool))) then ⟨((x1 && x2) && x0), false, (l, ((0 : Int), (0 : Int), (0 : Int), (0 : Int), (0 : Int), ()), (), (130 : Int), ()), ((), (), (([] : List ZR) ++ l_0), ([] : List ZN), ()), ()⟩ else (bif (F_balance (l, (3 : Int), ()) ((([] : List ZR) ++ l_0), ())).pan then ⟨false, false, (((0 : Int), ((0 : Int), (0 : Int), (0 : Int), (0 : Int), (0 : Int), (0 : Int), ()), (), (((0 : Int), (0 : Int), (0 : Int), (0 : Int), (0 : Int), (0 : Int), (0 : Int), (0 : Int), (0 : Int), (0 : Int), (0 : Int), (0 : Int), ()), ()), ((0 : Int), false, (0 : Int), (0 : Int), (0 : Int), (0 : Int), (0 : Int), (0 : Int), (0 : Int), (0 : Int), (0 : Int), (0 : Int), (0 : Int), (0 : Int), (0 : Int), ()), (0 : Int), (0 : Int), (0 : Int), ((0 : Int), (0 : Int), (0 : Int), (0 : Int), (0 : Int), ()), false, (0 : Int), (0 : Int), ()), ((0 : Int), (0 : Int), (0 : Int), (0 : Int), (0 : Int), ()), (), (0 : Int), ()), ((), (), ([] : List ZR), ([] : List ZN), ()), ()⟩ else (bif (!decide (amount ≤ ((F_balance (l, (3 : Int), ()) ((([] : List ZR) ++ l_0), ())).ret : Int))) then ⟨((x1 && x3) && x0), false, (l, ((0 : Int), (0 : Int), (0 : Int), (0 : Int), (0 : Int), ()), (), (143 : Int), ()), ((), (), (([] : List ZR) ++ l_0), ([] : List ZN), ()), ()⟩ else (bif x4.pan then ⟨((x1 && x5) && x0), false, (l, ((0 : Int), (0 : Int), (0 : Int), (0 : Int), (0 : Int), ()), (), (x4.pv : Int × Unit)), ((), (), (([] : List ZR) ++ l_0), ([] : List ZN), ()), ()⟩ else (bif x6.pan then ⟨(x7 && x0), false, (l, ((0 : Int), (0 : Int), (0 : Int), (0 : Int), (0 : Int), ()), (), (x6.pv : Int × Unit)), ((), (), (([] : List ZR) ++ l_0), ([] : List ZN), ()), ()⟩ else ⟨(x7 && true), false, (x9.1, x9.2.1, (), (0 : Int), ()), ((), (), (([] : List ZR) ++ l_0), x8.2.2.2.2), ()⟩))))))) := by kernel_rfl
noncomputable def tbl80 : List (Ent TT) := ⟨51, g_waive, F_waive⟩ :: tbl79
theorem tbl80_ok : TblOK prog globs tbl80 := tbl_cons (by kernel_rfl) F_waive_ok tbl79_ok
noncomputable def C_promise : Cx TT := cxB tbl80 Go.Proofs.Tryz.f52.ntmps [] [] [1000001] [] []
noncomputable def k_promise (a : g_promise.args.ty) (h : tysO TT g_promise.hp) : Nat := 0
noncomputable def F_promise : g_promise.args.ty → tysO TT g_promise.hp → Res TT g_promise := fun a h => bodyG C_promise g_promise Go.Proofs.Tryz.f52 [] (k_promise a h) a h
theorem F_promise_ok : FOK prog globs 52 g_promise F_promise :=
  bodyG_sound (cx := C_promise) mix (cxB_ok tbl80_ok _ _ _ _ _ _) (f := 52) (fn := Go.Proofs.Tryz.f52) (by kernel_rfl) (by kernel_rfl) (by kernel_rfl) (by kernel_rfl) _
theorem F_promise_eq (p : T23) (l : T36) (amount : Int) (days : Int) (p_0 : List Int) (l_0 : List T123) : F_promise (p, l, amount, days, ()) (p_0, l_0, ()) =
  let x0 := ((Nat.blt 0 l_0.length) && (Nat.ble ((([] : List ZR).length + l_0.length) * 32) 140737488355328))
  let x1 := (((F_check (p, ()) (p_0, ())).ok && true) && x0)
  let x2 := (F_play ((), ((4 : Int), l.2.2.2.2.2.1, days, amount, ()), ()) ((p, l, ((0 : Int), (0 : Int), (0 : Int), (0 : Int), (0 : Int), ()), (), ()), p_0, (([] : List ZR) ++ l_0), ([] : List ZN), ()))
  let x3 := (x1 && x2.ok)
  let x4 := (x2.out : ZG)
  let x5 := x4.1.2
  (bif (((F_check (p, ()) (p_0, ())).ret : Int × Int × Unit).1 != 0) then ⟨x1, false, (l, ((0 : Int), (0 : Int), (0 : Int), (0 : Int), (0 : Int), ()), (), ((F_check (p, ()) (p_0, ())).ret : Int × Int × Unit).1, ()), ((), (), (([] : List ZR) ++ l_0), ([] : List ZN), ()), ()⟩ else (bif x2.pan then ⟨(x3 && x0), false, (l, ((0 : Int), (0 : Int), (0 : Int), (0 : Int), (0 : Int), ()), (), (x2.pv : Int × Unit)), ((), (), (([] : List ZR) ++ l_0), ([] : List ZN), ()), ()⟩ else ⟨(x3 && true), false, (x5.1, x5.2.1, (), (0 : Int), ()), ((), (), (([] : List ZR) ++ l_0), x4.2.2.2.2), ()⟩)) := by kernel_rfl
noncomputable def tbl81 : List (Ent TT) := ⟨52, g_promise, F_promise⟩ :: tbl80
theorem tbl81_ok : TblOK prog globs tbl81 := tbl_cons (by kernel_rfl) F_promise_ok tbl80_ok
end Go.Proofs.YtlflclfhldghbaaGreatDoor.Fs
end
section
set_option maxRecDepth 100000
namespace Go.Proofs.YtlflclfhldghbaaGreatDoor.Fs
open Go Go.Proofs.YtlflclfhldghbaaGreatDoor.Ls
noncomputable def C_restructure : Cx TT := cxB tbl81 Go.Proofs.Tryz.f53.ntmps [] [] [1000001] [] []
noncomputable def k_restructure (a : g_restructure.args.ty) (h : tysO TT g_restructure.hp) : Nat := 0
noncomputable def F_restructure : g_restructure.args.ty → tysO TT g_restructure.hp → Res TT g_restructure := fun a h => bodyG C_restructure g_restructure Go.Proofs.Tryz.f53 [] (k_restructure a h) a h
theorem F_restructure_ok : FOK prog globs 53 g_restructure F_restructure :=
  bodyG_sound (cx := C_restructure) mix (cxB_ok tbl81_ok _ _ _ _ _ _) (f := 53) (fn := Go.Proofs.Tryz.f53) (by kernel_rfl) (by kernel_rfl) (by kernel_rfl) (by kernel_rfl) _
theorem F_restructure_eq (p : T23) (l : T36) (count : Int) (rate : Int) (p_0 : List Int) (l_0 : List T123) : F_restructure (p, l, count, rate, ()) (p_0, l_0, ()) =
  let x0 := ((Nat.blt 0 l_0.length) && (Nat.ble ((([] : List ZR).length + l_0.length) * 32) 140737488355328))
  let x1 := (((F_check (p, ()) (p_0, ())).ok && true) && x0)
  let x2 := (⟨((x1 && true) && x0), false, (l, ((0 : Int), (0 : Int), (0 : Int), (0 : Int), (0 : Int), ()), (), (140 : Int), ()), ((), (), (([] : List ZR) ++ l_0), ([] : List ZN), ()), ()⟩ : Res TT g_restructure)
  let x3 := (F_play ((), ((5 : Int), (0 : Int), (0 : Int), (0 : Int), ()), ()) ((p, l, ((0 : Int), (0 : Int), (0 : Int), (0 : Int), (0 : Int), ()), (), ()), p_0, (([] : List ZR) ++ l_0), ([] : List ZN), ()))
  let x4 := x3.ok
  let x5 := (x3.out : ZG)
  let x6 := x5.1
  let x7 := x6.2.1
  let x8 := (F_owed (x7, ()) ((([] : List ZR) ++ l_0), ()))
  let x9 := (x4 && x8.ok)
  let x10 := (x8.ret : ZE)
  let x11 := x10.1
  let x12 := x10.2
  let x13 := x12.1
  let x14 := (IntKind.i64.wrap ((IntKind.i64.wrap (x11 + x13)) + x12.2.1))
  let x15 := ((x9 && true) && true)
  let x16 := x7.2
  let x17 := x16.1
  let x18 := (F_plan ((x17.1, x14, rate, count, x16.2.2.2.2.1, x17.2.2.2.2.2), (), ()) (p_0, ()))
  let x19 := (((x15 && true) && x18.ok) && true)
  let x20 := (F_balance (x7, (5 : Int), ()) ((([] : List ZR) ++ l_0), ()))
  let x21 := x5.2.2.2.2
  let x22 := (F_move ((), (), ()) (x6, p_0, (([] : List ZR) ++ l_0), x21.1, [((1 : Int), (2 : Int), x13, ()), ((1 : Int), (3 : Int), x11, ()), ((5 : Int), (7 : Int), (x20.ret : Int), ())], ()))
  let x23 := ((x19 && x20.ok) && x22.ok)
  let x24 := (x22.out : ZD × Unit × Unit × Unit × Unit × Unit).1
  let x25 := x24.2
  let x26 := x25.1
  let x27 := x26.2.2.2
  let x28 := x27.2
  let x29 := x28.2
  let x30 := x29.2
  let x31 := ((x18.out : Unit × (List ZR) × Unit).2).1
  let x32 := (F_forget ((), ()) ((x24.1, (x26.1, (x17.1, x14, rate, count, x16.2.2.2.2.1, x17.2.2.2.2.2), (), x27.1, x28.1, x29.1, x30.1, (0 : Int), x30.2.2), x25.2), p_0, x31, x21))
  let x33 := (F_note ((), (7 : Int), x14, ()) ((x32.out : ZD × Unit × Unit × Unit × Unit).1, p_0, x31, x21))
  let x34 := (x33.out : ZG)
  let x35 := x34.1.2
  (bif (((F_check (p, ()) (p_0, ())).ret : Int × Int × Unit).1 != 0) then ⟨x1, false, (l, ((0 : Int), (0 : Int), (0 : Int), (0 : Int), (0 : Int), ()), (), ((F_check (p, ()) (p_0, ())).ret : Int × Int × Unit).1, ()), ((), (), (([] : List ZR) ++ l_0), ([] : List ZN), ()), ()⟩ else (bif decide (count ≥ 1) then (bif decide (count ≤ 120) then (bif decide (rate ≥ 0) then (bif (!decide (rate ≤ 100000)) then x2 else (bif x3.pan then ⟨((x1 && x4) && x0), false, (l, ((0 : Int), (0 : Int), (0 : Int), (0 : Int), (0 : Int), ()), (), (x3.pv : Int × Unit)), ((), (), (([] : List ZR) ++ l_0), ([] : List ZN), ()), ()⟩ else (bif x8.pan then ⟨((x1 && x9) && x0), false, (l, ((0 : Int), (0 : Int), (0 : Int), (0 : Int), (0 : Int), ()), (), (x8.pv : Int × Unit)), ((), (), (([] : List ZR) ++ l_0), ([] : List ZN), ()), ()⟩ else (bif (!decide (x14 ≤ 10000000000000)) then ⟨((x1 && x15) && x0), false, (l, ((0 : Int), (0 : Int), (0 : Int), (0 : Int), (0 : Int), ()), (), (3 : Int), ()), ((), (), (([] : List ZR) ++ l_0), ([] : List ZN), ()), ()⟩ else (bif (!((x18.ret : Unit × Bool × Unit).2).1) then ⟨((x1 && x19) && x0), false, (l, ((0 : Int), (0 : Int), (0 : Int), (0 : Int), (0 : Int), ()), (), (141 : Int), ()), ((), (), (([] : List ZR) ++ l_0), ([] : List ZN), ()), ()⟩ else (bif x20.pan then ⟨false, false, (((0 : Int), ((0 : Int), (0 : Int), (0 : Int), (0 : Int), (0 : Int), (0 : Int), ()), (), (((0 : Int), (0 : Int), (0 : Int), (0 : Int), (0 : Int), (0 : Int), (0 : Int), (0 : Int), (0 : Int), (0 : Int), (0 : Int), (0 : Int), ()), ()), ((0 : Int), false, (0 : Int), (0 : Int), (0 : Int), (0 : Int), (0 : Int), (0 : Int), (0 : Int), (0 : Int), (0 : Int), (0 : Int), (0 : Int), (0 : Int), (0 : Int), ()), (0 : Int), (0 : Int), (0 : Int), ((0 : Int), (0 : Int), (0 : Int), (0 : Int), (0 : Int), ()), false, (0 : Int), (0 : Int), ()), ((0 : Int), (0 : Int), (0 : Int), (0 : Int), (0 : Int), ()), (), (0 : Int), ()), ((), (), ([] : List ZR), ([] : List ZN), ()), ()⟩ else (bif x22.pan then ⟨((x1 && x23) && x0), false, (l, ((0 : Int), (0 : Int), (0 : Int), (0 : Int), (0 : Int), ()), (), (x22.pv : Int × Unit)), ((), (), (([] : List ZR) ++ l_0), ([] : List ZN), ()), ()⟩ else ⟨((x1 && ((x23 && x32.ok) && x33.ok)) && true), false, (x35.1, x35.2.1, (), (0 : Int), ()), ((), (), x31, x34.2.2.2.2), ()⟩))))))) else x2) else x2) else x2)) := by kernel_rfl
noncomputable def tbl82 : List (Ent TT) := ⟨53, g_restructure, F_restructure⟩ :: tbl81
theorem tbl82_ok : TblOK prog globs tbl82 := tbl_cons (by kernel_rfl) F_restructure_ok tbl81_ok
end Go.Proofs.YtlflclfhldghbaaGreatDoor.Fs
end
section
set_option maxRecDepth 100000
namespace Go.Proofs.YtlflclfhldghbaaGreatDoor.Fs
open Go Go.Proofs.YtlflclfhldghbaaGreatDoor.Ls
noncomputable def C_roll : Cx TT := cxB tbl82 Go.Proofs.Tryz.f16.ntmps [] [] [1000001] [] []
noncomputable def k_roll (a : g_roll.args.ty) (h : tysO TT g_roll.hp) : Nat := 0
noncomputable def F_roll : g_roll.args.ty → tysO TT g_roll.hp → Res TT g_roll := fun a h => bodyG C_roll g_roll Go.Proofs.Tryz.f16 [] (k_roll a h) a h
theorem F_roll_ok : FOK prog globs 16 g_roll F_roll :=
  bodyG_sound (cx := C_roll) mix (cxB_ok tbl82_ok _ _ _ _ _ _) (f := 16) (fn := Go.Proofs.Tryz.f16) (by kernel_rfl) (by kernel_rfl) (by kernel_rfl) (by kernel_rfl) _
theorem F_roll_eq (p : T23) (l : T36) (p_0 : List Int) (l_0 : List T123) : F_roll (p, l, ()) (p_0, l_0, ()) =
  let x0 := ((Nat.blt 0 l_0.length) && (Nat.ble ((([] : List ZR).length + l_0.length) * 32) 140737488355328))
  let x1 := (((F_check (p, ()) (p_0, ())).ok && true) && x0)
  let x2 := (F_accrue ((), (1 : Int), ()) ((p, l, ((0 : Int), (0 : Int), (0 : Int), (0 : Int), (0 : Int), ()), (), ()), p_0, (([] : List ZR) ++ l_0), ([] : List ZN), ()))
  let x3 := x2.ok
  let x4 := (x2.out : ZD × Unit × Unit × Unit × Unit).1
  let x5 := x4.2
  let x6 := x5.1
  let x7 := (F_over (x6, ()) ((([] : List ZR) ++ l_0), ()))
  let x8 := (x3 && x7.ok)
  let x9 := (F_pdays ((), ()) (x4, p_0, (([] : List ZR) ++ l_0), ([] : List ZN), ()))
  let x10 := (F_play ((), ((1 : Int), x6.2.2.2.2.2.1, (x9.ret : Int), (0 : Int), ()), ()) (x4, p_0, (([] : List ZR) ++ l_0), ([] : List ZN), ()))
  let x11 := ((x8 && x9.ok) && x10.ok)
  let x12 := (x10.out : ZG)
  let x13 := (F_charge ((), ()) (x12.1, p_0, (([] : List ZR) ++ l_0), x12.2.2.2.2))
  let x14 := (x1 && (x11 && x13.ok))
  let x15 := (x13.out : ZD × Unit × Unit × Unit × (List ZR) × (List ZN) × Unit)
  let x16 := x15.1.2
  (bif (((F_check (p, ()) (p_0, ())).ret : Int × Int × Unit).1 != 0) then ⟨x1, false, (l, ((0 : Int), (0 : Int), (0 : Int), (0 : Int), (0 : Int), ()), (), ((F_check (p, ()) (p_0, ())).ret : Int × Int × Unit).1, ()), ((), (), (([] : List ZR) ++ l_0), ([] : List ZN), ()), ()⟩ else (bif (!decide (l.2.2.2.2.2.1 < 3652059)) then ⟨((x1 && true) && x0), false, (l, ((0 : Int), (0 : Int), (0 : Int), (0 : Int), (0 : Int), ()), (), (141 : Int), ()), ((), (), (([] : List ZR) ++ l_0), ([] : List ZN), ()), ()⟩ else (bif x2.pan then ⟨((x1 && x3) && x0), false, (l, ((0 : Int), (0 : Int), (0 : Int), (0 : Int), (0 : Int), ()), (), (x2.pv : Int × Unit)), ((), (), (([] : List ZR) ++ l_0), ([] : List ZN), ()), ()⟩ else (bif (x7.ret : Bool) then ⟨((x1 && x8) && true), false, (x6, x5.2.1, (), (0 : Int), ()), ((), (), (([] : List ZR) ++ l_0), ([] : List ZN), ()), ()⟩ else (bif x9.pan then ⟨false, false, (((0 : Int), ((0 : Int), (0 : Int), (0 : Int), (0 : Int), (0 : Int), (0 : Int), ()), (), (((0 : Int), (0 : Int), (0 : Int), (0 : Int), (0 : Int), (0 : Int), (0 : Int), (0 : Int), (0 : Int), (0 : Int), (0 : Int), (0 : Int), ()), ()), ((0 : Int), false, (0 : Int), (0 : Int), (0 : Int), (0 : Int), (0 : Int), (0 : Int), (0 : Int), (0 : Int), (0 : Int), (0 : Int), (0 : Int), (0 : Int), (0 : Int), ()), (0 : Int), (0 : Int), (0 : Int), ((0 : Int), (0 : Int), (0 : Int), (0 : Int), (0 : Int), ()), false, (0 : Int), (0 : Int), ()), ((0 : Int), (0 : Int), (0 : Int), (0 : Int), (0 : Int), ()), (), (0 : Int), ()), ((), (), ([] : List ZR), ([] : List ZN), ()), ()⟩ else (bif x10.pan then ⟨((x1 && x11) && x0), false, (l, ((0 : Int), (0 : Int), (0 : Int), (0 : Int), (0 : Int), ()), (), (x10.pv : Int × Unit)), ((), (), (([] : List ZR) ++ l_0), ([] : List ZN), ()), ()⟩ else (bif x13.pan then ⟨(x14 && x0), false, (l, ((0 : Int), (0 : Int), (0 : Int), (0 : Int), (0 : Int), ()), (), (x13.pv : Int × Unit)), ((), (), (([] : List ZR) ++ l_0), ([] : List ZN), ()), ()⟩ else ⟨(x14 && true), false, (x16.1, x16.2.1, (), (0 : Int), ()), x15.2.2, ()⟩))))))) := by kernel_rfl
noncomputable def tbl83 : List (Ent TT) := ⟨16, g_roll, F_roll⟩ :: tbl82
theorem tbl83_ok : TblOK prog globs tbl83 := tbl_cons (by kernel_rfl) F_roll_ok tbl82_ok
noncomputable def C_accrueC : Cx TT := cxB tbl83 Go.Proofs.Tryz.f54.ntmps [] [] [1000001] [] []
noncomputable def k_accrueC (a : g_accrueC.args.ty) (h : tysO TT g_accrueC.hp) : Nat := 0
noncomputable def F_accrueC : g_accrueC.args.ty → tysO TT g_accrueC.hp → Res TT g_accrueC := fun a h => bodyG C_accrueC g_accrueC Go.Proofs.Tryz.f54 [] (k_accrueC a h) a h
theorem F_accrueC_ok : FOK prog globs 54 g_accrueC F_accrueC :=
  bodyG_sound (cx := C_accrueC) mix (cxB_ok tbl83_ok _ _ _ _ _ _) (f := 54) (fn := Go.Proofs.Tryz.f54) (by kernel_rfl) (by kernel_rfl) (by kernel_rfl) (by kernel_rfl) _
theorem F_accrueC_eq (p : T23) (l : T36) (days : Int) (p_0 : List Int) (l_0 : List T123) : F_accrueC (p, l, days, ()) (p_0, l_0, ()) =
  let x0 := ((Nat.blt 0 l_0.length) && (Nat.ble ((([] : List ZR).length + l_0.length) * 32) 140737488355328))
  let x1 := (((F_check (p, ()) (p_0, ())).ok && true) && x0)
  let x2 := ((x1 && true) && x0)
  let x3 := (F_accrue ((), days, ()) ((p, l, ((0 : Int), (0 : Int), (0 : Int), (0 : Int), (0 : Int), ()), (), ()), p_0, (([] : List ZR) ++ l_0), ([] : List ZN), ()))
  let x4 := (x1 && x3.ok)
  let x5 := ((x3.out : ZD × Unit × Unit × Unit × Unit).1).2
  (bif (((F_check (p, ()) (p_0, ())).ret : Int × Int × Unit).1 != 0) then ⟨x1, false, (l, ((0 : Int), (0 : Int), (0 : Int), (0 : Int), (0 : Int), ()), (), ((F_check (p, ()) (p_0, ())).ret : Int × Int × Unit).1, ()), ((), (), (([] : List ZR) ++ l_0), ([] : List ZN), ()), ()⟩ else (bif (!decide (days ≥ 0)) then ⟨x2, false, (l, ((0 : Int), (0 : Int), (0 : Int), (0 : Int), (0 : Int), ()), (), (2 : Int), ()), ((), (), (([] : List ZR) ++ l_0), ([] : List ZN), ()), ()⟩ else (bif (!decide (days ≤ (IntKind.i64.wrap (3652059 - l.2.2.2.2.2.1)))) then ⟨x2, false, (l, ((0 : Int), (0 : Int), (0 : Int), (0 : Int), (0 : Int), ()), (), (141 : Int), ()), ((), (), (([] : List ZR) ++ l_0), ([] : List ZN), ()), ()⟩ else (bif x3.pan then ⟨(x4 && x0), false, (l, ((0 : Int), (0 : Int), (0 : Int), (0 : Int), (0 : Int), ()), (), (x3.pv : Int × Unit)), ((), (), (([] : List ZR) ++ l_0), ([] : List ZN), ()), ()⟩ else ⟨(x4 && true), false, (x5.1, x5.2.1, (), (0 : Int), ()), ((), (), (([] : List ZR) ++ l_0), ([] : List ZN), ()), ()⟩)))) := by kernel_rfl
noncomputable def tbl84 : List (Ent TT) := ⟨54, g_accrueC, F_accrueC⟩ :: tbl83
theorem tbl84_ok : TblOK prog globs tbl84 := tbl_cons (by kernel_rfl) F_accrueC_ok tbl83_ok
end Go.Proofs.YtlflclfhldghbaaGreatDoor.Fs
end
section
set_option maxRecDepth 20000
namespace Go.Proofs.YtlflclfhldghbaaGreatDoor.Fs
open Go Go.Proofs.YtlflclfhldghbaaGreatDoor.Ls P
noncomputable section
abbrev CR := Except Int (LoanT × PartsT × List RowT × List NoteT)
abbrev OutT := LoanT × PartsT × Unit × Int × Unit
def cret (l : LoanT) : CR → OutT | .error e => (l, parts0, (), e, ()) | .ok x => (x.1, x.2.1, (), 0, ())
def cplan (pl : List RowT) : CR → List RowT | .error _ => pl | .ok x => x.2.2.1
def cnote : CR → List NoteT | .error _ => [] | .ok x => x.2.2.2
def wk (p : PolT) (p0 : List Int) (r : CR) : CR := if (chk p p0).1 = 0 then r else .error (chk p p0).1
def lastA (q : PartsT) : Prop := q.1 ≤ 9223372036854775807 ∧ q.2.1 ≤ 9223372036854775807 ∧ q.2.2.1 ≤ 9223372036854775807 ∧ q.2.2.2.1 ≤ 9223372036854775807 ∧ q.2.2.2.2.1 ≤ 9223372036854775807
def LI (l : LoanT) (plan : List RowT) : Prop := bookOk (Lbook l) ∧ 1 ≤ plan.length ∧ plan.length ≤ 120 ∧ planA plan ∧ lastA (Llast l)
theorem room0 {l0 : List RowT} (h1 : 1 ≤ l0.length) (h2 : l0.length ≤ 120) : ((Nat.blt 0 l0.length) && (Nat.ble ((([] : List RowT).length + l0.length) * 32) 140737488355328)) = true := by
  have a : Nat.blt 0 l0.length = true := Nat.ble_eq_true_of_le h1
  rw [a, ble32 (by simp; omega)]; rfl
theorem mn_le9 {x y : Int} (h : y ≤ 9223372036854775807) : mn x y ≤ 9223372036854775807 := Int.le_trans (mn_le x y) h
theorem turn_le {a x y z : Int} (hx : x ≤ 9223372036854775807) (hy : y ≤ 9223372036854775807) (hz : z ≤ 9223372036854775807) :
    (turn a x y z).1 ≤ 9223372036854775807 ∧ (turn a x y z).2.1 ≤ 9223372036854775807 ∧ (turn a x y z).2.2.1 ≤ 9223372036854775807 ∧ (turn a x y z).2.2.2 ≤ 9223372036854775807 :=
  ⟨mn_le9 hx, mn_le9 hy, mn_le9 hz, wle _⟩
theorem take_le {p : PolT} {l : LoanT} {amount : Int} (hb : bookOk (Lbook l)) (ha : amount ≤ 9223372036854775807) : lastA (sTake p l amount).1 := by
  have hR := bR hb
  have h3 : N l 3 ≤ 9223372036854775807 := by unfold N; omega
  have h2 : N l 2 ≤ 9223372036854775807 := by unfold N; omega
  have h1 : N l 1 ≤ 9223372036854775807 := by unfold N; omega
  have z : lastA parts0 := by unfold lastA parts0; simp
  unfold sTake
  split
  · unfold lastA; simp; omega
  split
  · unfold sRecover
    split
    · exact z
    split
    · exact z
    · exact ⟨by simp, by simp, by simp, wle _, mn_le9 (wle _)⟩
  · unfold sAlloc sOwed
    split
    · exact z
    split
    · exact z
    split
    · exact z
    have t1 := turn_le (a := amount) h3 h2 h1
    have t2 := turn_le (a := amount) h3 h1 h2
    have t3 := turn_le (a := amount) h2 h3 h1
    have t4 := turn_le (a := amount) h2 h1 h3
    have t5 := turn_le (a := amount) h1 h3 h2
    have t6 := turn_le (a := amount) h1 h2 h3
    split
    · exact ⟨t1.1, t1.2.1, t1.2.2.1, t1.2.2.2, by simp⟩
    split
    · exact ⟨t2.1, t2.2.2.1, t2.2.1, t2.2.2.2, by simp⟩
    split
    · exact ⟨t3.2.1, t3.1, t3.2.2.1, t3.2.2.2, by simp⟩
    split
    · exact ⟨t4.2.2.1, t4.1, t4.2.1, t4.2.2.2, by simp⟩
    split
    · exact ⟨t5.2.1, t5.2.2.1, t5.1, t5.2.2.2, by simp⟩
    · exact ⟨t6.2.2.1, t6.2.1, t6.1, t6.2.2.2, by simp⟩
def paidL (l1 : LoanT) (q : PartsT) : LoanT := setLast (setApp l1 (W (Lapp l1 + W (q.2.1 + q.2.2.1)))) q true
def sPay (p : PolT) (plan : List RowT) (l : LoanT) (amount : Int) : CR :=
  if amount < 1 then .error 4
  else if (sTake p l amount).2.1 ≠ 0 then .error (sTake p l amount).2.1
  else match sMove l (sEntries (sTake p l amount).1) with
    | .error e => .error e
    | .ok l1 =>
      if lOver l1 then .ok (l1, (sTake p l amount).1, plan, [])
      else match sPlay p plan (paidL l1 (sTake p l amount).1) [] (2, 0, sDays plan (posOf (paidL l1 (sTake p l amount).1)) (Lday (paidL l1 (sTake p l amount).1)), amount, ()) with
        | .error e => .error e
        | .ok x => match sSettle p plan x.1 x.2 with
          | .error e => .error e
          | .ok y => .ok (y.1, (sTake p l amount).1, plan, y.2)
set_option maxHeartbeats 1000000 in
theorem pay (p : PolT) (p0 : List Int) (l : LoanT) (l0 : List RowT) (amount : Int) (hI : LI l l0) (ha : amount ≤ 9223372036854775807) :
    F_pay (p, l, amount, ()) (p0, l0, ()) = ⟨true, false, cret l (wk p p0 (sPay p l0 l amount)), ((), (), cplan l0 (wk p p0 (sPay p l0 l amount)), cnote (wk p p0 (sPay p l0 l amount)), ()), ()⟩ := by
  obtain ⟨hb, hl1, hl2, hA, hlast⟩ := hI
  rw [F_pay_eq, check p p0]
  simp only [room0 hl1 hl2, List.nil_append]
  unfold wk
  by_cases hc : (chk p p0).1 = 0
  · rw [if_pos hc]
    have hc0 : ((chk p p0).1 != 0) = false := by simpa using hc
    rw [hc0, cff]
    unfold sPay
    by_cases c1 : amount < 1
    · rw [if_pos c1, decide_eq_false (show ¬ amount ≥ 1 by omega)]; rfl
    rw [if_neg c1, decide_eq_true (show amount ≥ 1 by omega), Bool.not_true, cff]
    rw [take _ _ _ _ _ hb]
    simp only []
    rw [cff]
    by_cases c2 : (sTake p l amount).2.1 = 0
    · rw [if_neg (by simpa using c2), show ((sTake p l amount).2.1 != 0) = false from by simpa using c2, cff]
      rw [entries]
      simp only []
      have htl := take_le (p := p) (l := l) (amount := amount) hb ha
      obtain ⟨t1, t2, t3, t4, t5⟩ := htl
      rw [move (p, l, (0, 0, 0, 0, 0, ()), (), ()) p0 l0 [] (sEntries (sTake p l amount).1) hb.1 (Nat.le_trans (entries_len _) (by omega)) (entries_le t1 t2 t3 t4 t5)]
      cases hm : sMove l (sEntries (sTake p l amount).1) with
      | error e => simp only [hm, epan, ctt, tand]; rfl
      | ok l1 =>
        have hb1 := (move_ok hm).1
        simp only [hm, epan, cff, mdesk, tand]
        rw [overS]
        cases ho : lOver l1
        · simp only [cff, tand]
          rw [if_neg (show ¬ (false = true) by simp)]
          rw [pdays _ _ _ _ (by omega)]
          simp only [cff, tand]
          rw [play _ _ _ _ _ hc hb1 (by simp) (by omega)]
          simp only []
          generalize hr : sPlay p l0 _ _ _ = r
          have hr' : sPlay p l0 (paidL l1 (sTake p l amount).1) [] (2, 0, sDays l0 (posOf (paidL l1 (sTake p l amount).1)) (Lday (paidL l1 (sTake p l amount).1)), amount, ()) = r := hr
          rw [hr']
          cases r with
          | error e => simp only [epan, ctt, tand]; rfl
          | ok x =>
            have hbx := play_ok (show bookOk (Lbook (paidL l1 (sTake p l amount).1)) from hb1) hr'
            simp only [epan, cff, tand, ddesk, dnote]
            rw [settle _ _ _ _ hc hbx.1 (by have := hbx.2; simp at this; omega) (by omega)]
            simp only []
            cases hs : sSettle p l0 x.1 x.2 with
            | error e => simp only [hs, epan, ctt, tand]; rfl
            | ok y => simp only [hs, epan, cff, tand]; rfl
        · simp only [ctt, tand]
          rw [if_pos trivial]; rfl
    · rw [if_pos c2, show ((sTake p l amount).2.1 != 0) = true from by simpa using c2, ctt]; rfl
  · rw [if_neg hc]
    have hc0 : ((chk p p0).1 != 0) = true := by simpa using hc
    rw [hc0, ctt]; rfl
end
end Go.Proofs.YtlflclfhldghbaaGreatDoor.Fs
end
section
set_option maxRecDepth 20000
namespace Go.Proofs.YtlflclfhldghbaaGreatDoor.Fs
open Go Go.Proofs.YtlflclfhldghbaaGreatDoor.Ls P
noncomputable section
def lastSum (q : PartsT) : Int := W (W (W (W (q.1 + q.2.1) + q.2.2.1) + q.2.2.2.1) + q.2.2.2.2.1)
def backL (l1 : LoanT) (q : PartsT) : LoanT := setApp l1 (W (Lapp l1 - W (q.2.1 + q.2.2.1)))
def sReturn (p : PolT) (plan : List RowT) (l : LoanT) : CR :=
  if lOver l then .error 130
  else if Lhas l = false then .error 142
  else match sMove l (sUndo (Llast l)) with
    | .error e => .error e
    | .ok l1 => match sPlay p plan (backL l1 (Llast l)) [] (3, 0, 0, lastSum (Llast l), ()) with
      | .error e => .error e
      | .ok x => .ok (sForget x.1, Llast l, plan, sNote x.1 x.2 9 (lastSum (Llast l)))
set_option maxHeartbeats 1000000 in
theorem return_ (p : PolT) (p0 : List Int) (l : LoanT) (l0 : List RowT) (hI : LI l l0) :
    F_return_ (p, l, ()) (p0, l0, ()) = ⟨true, false, cret l (wk p p0 (sReturn p l0 l)), ((), (), cplan l0 (wk p p0 (sReturn p l0 l)), cnote (wk p p0 (sReturn p l0 l)), ()), ()⟩ := by
  obtain ⟨hb, hl1, hl2, hA, hlast⟩ := hI
  rw [F_return__eq, check p p0]
  simp only [room0 hl1 hl2, List.nil_append]
  unfold wk
  by_cases hc : (chk p p0).1 = 0
  · rw [if_pos hc]
    have hc0 : ((chk p p0).1 != 0) = false := by simpa using hc
    rw [hc0, cff, overS]
    unfold sReturn
    cases ho : lOver l
    · simp only [cff, Bool.not_false, Bool.not_true]
      rw [if_neg (show ¬ (false = true) by simp)]
      cases hh : l.2.2.2.2.2.2.2.2.2.1
      · rw [if_pos (show Lhas l = false from hh)]; rfl
      · rw [if_neg (show ¬ Lhas l = false from fun q => by have := hh.symm.trans q; cases this)]
        simp only [cff, Bool.not_true]
        rw [undo]
        simp only []
        rw [move (p, l, (0, 0, 0, 0, 0, ()), (), ()) p0 l0 [] (sUndo (Llast l)) hb.1 (by unfold sUndo; rw [List.length_map]; exact Nat.le_trans (entries_len _) (by omega)) (undo_le (entries_le hlast.1 hlast.2.1 hlast.2.2.1 hlast.2.2.2.1 hlast.2.2.2.2))]
        cases hm : sMove l (sUndo (Llast l)) with
        | error e => simp only [hm, epan, ctt, tand]; rfl
        | ok l1 =>
          have hb1 := (move_ok hm).1
          simp only [hm, epan, cff, mdesk, tand]
          rw [play _ _ _ _ _ hc hb1 (by simp) (by omega)]
          simp only []
          generalize hr : sPlay p l0 _ _ _ = r
          have hr' : sPlay p l0 (backL l1 (Llast l)) [] (3, 0, 0, lastSum (Llast l), ()) = r := hr
          rw [hr']
          cases r with
          | error e => simp only [epan, ctt, tand]; rfl
          | ok x =>
            have hbx := play_ok (show bookOk (Lbook (backL l1 (Llast l))) from hb1) hr'
            simp only [epan, cff, tand, ddesk, dnote]
            rw [note _ _ _ _ _ _ (by have := hbx.2; simp at this; omega)]
            simp only []
            rw [forget]
            rfl
    · simp only [ctt, Bool.not_false, Bool.not_true]
      rw [if_pos trivial]; rfl
  · rw [if_neg hc]
    have hc0 : ((chk p p0).1 != 0) = true := by simpa using hc
    rw [hc0, ctt]; rfl
def sRefund (plan : List RowT) (l : LoanT) (amount : Int) : CR :=
  if amount < 1 then .error 4
  else if -(N l 4) < amount then .error 143
  else match sMove l [(4, 0, amount, ())] with
    | .error e => .error e
    | .ok l1 => .ok (l1, parts0, plan, [])
set_option maxHeartbeats 1000000 in
theorem refund (p : PolT) (p0 : List Int) (l : LoanT) (l0 : List RowT) (amount : Int) (hI : LI l l0) (ha : amount ≤ 9223372036854775807) :
    F_refund (p, l, amount, ()) (p0, l0, ()) = ⟨true, false, cret l (wk p p0 (sRefund l0 l amount)), ((), (), cplan l0 (wk p p0 (sRefund l0 l amount)), cnote (wk p p0 (sRefund l0 l amount)), ()), ()⟩ := by
  obtain ⟨hb, hl1, hl2, hA, hlast⟩ := hI
  have hbal := balS l (([] : List RowT) ++ l0) (a := 4) (i := 4) (by omega) hb
  rw [F_refund_eq, check p p0, hbal]
  simp only [room0 hl1 hl2, List.nil_append]
  unfold wk
  by_cases hc : (chk p p0).1 = 0
  · rw [if_pos hc]
    have hc0 : ((chk p p0).1 != 0) = false := by simpa using hc
    rw [hc0, cff]
    unfold sRefund
    by_cases c1 : amount < 1
    · rw [if_pos c1, decide_eq_false (show ¬ amount ≥ 1 by omega)]; rfl
    rw [if_neg c1, decide_eq_true (show amount ≥ 1 by omega), Bool.not_true, cff]
    simp only [cff]
    by_cases c2 : -(N l 4) < amount
    · rw [if_pos c2, decide_eq_false (show ¬ amount ≤ -(N l 4) by omega)]; rfl
    rw [if_neg c2, decide_eq_true (show amount ≤ -(N l 4) by omega), Bool.not_true, cff]
    rw [move (p, l, (0, 0, 0, 0, 0, ()), (), ()) p0 l0 [] [(4, 0, amount, ())] hb.1 (by simp) (by intro e he; simp only [List.mem_singleton] at he; subst he; exact ha)]
    cases hm : sMove l [(4, 0, amount, ())] with
    | error e => simp only [hm, epan, ctt, tand]; rfl
    | ok l1 => simp only [hm, epan, cff, mdesk, tand]; rfl
  · rw [if_neg hc]
    have hc0 : ((chk p p0).1 != 0) = true := by simpa using hc
    rw [hc0, ctt]; rfl
theorem bal3' (l : LoanT) (x : List RowT) : F_balance (l, (3 : Int), ()) (x, ()) = ⟨true, false, N l 3, ((), ()), (0, ())⟩ := bal3 l x
def sWaive (p : PolT) (plan : List RowT) (l : LoanT) (amount : Int) : CR :=
  if amount < 1 then .error 4
  else if lOver l then .error 130
  else if N l 3 < amount then .error 143
  else match sMove l [(11, 3, amount, ())] with
    | .error e => .error e
    | .ok l1 => match sSettle p plan l1 [] with
      | .error e => .error e
      | .ok y => .ok (y.1, parts0, plan, y.2)
set_option maxHeartbeats 1000000 in
theorem waive (p : PolT) (p0 : List Int) (l : LoanT) (l0 : List RowT) (amount : Int) (hI : LI l l0) (ha : amount ≤ 9223372036854775807) :
    F_waive (p, l, amount, ()) (p0, l0, ()) = ⟨true, false, cret l (wk p p0 (sWaive p l0 l amount)), ((), (), cplan l0 (wk p p0 (sWaive p l0 l amount)), cnote (wk p p0 (sWaive p l0 l amount)), ()), ()⟩ := by
  obtain ⟨hb, hl1, hl2, hA, hlast⟩ := hI
  rw [F_waive_eq, check p p0, bal3']
  simp only [room0 hl1 hl2, List.nil_append]
  unfold wk
  by_cases hc : (chk p p0).1 = 0
  · rw [if_pos hc]
    have hc0 : ((chk p p0).1 != 0) = false := by simpa using hc
    rw [hc0, cff, overS]
    unfold sWaive
    by_cases c1 : amount < 1
    · rw [if_pos c1, decide_eq_false (show ¬ amount ≥ 1 by omega)]; rfl
    rw [if_neg c1, decide_eq_true (show amount ≥ 1 by omega), Bool.not_true, cff]
    cases ho : lOver l
    · simp only [cff, Bool.not_false, Bool.not_true]
      rw [if_neg (show ¬ (false = true) by simp)]
      by_cases c2 : N l 3 < amount
      · rw [if_pos c2, decide_eq_false (show ¬ amount ≤ N l 3 by omega)]; rfl
      rw [if_neg c2, decide_eq_true (show amount ≤ N l 3 by omega), Bool.not_true, cff]
      rw [move (p, l, (0, 0, 0, 0, 0, ()), (), ()) p0 l0 [] [(11, 3, amount, ())] hb.1 (by simp) (by intro e he; simp only [List.mem_singleton] at he; subst he; exact ha)]
      cases hm : sMove l [(11, 3, amount, ())] with
      | error e => simp only [hm, epan, ctt, tand]; rfl
      | ok l1 =>
        have hb1 := (move_ok hm).1
        simp only [hm, epan, cff, mdesk, tand]
        rw [settle _ _ _ _ hc hb1 (by simp) (by omega)]
        simp only []
        cases hs : sSettle p l0 l1 [] with
        | error e => simp only [hs, epan, ctt, tand]; rfl
        | ok y => simp only [hs, epan, cff, tand]; rfl
    · simp only [ctt, Bool.not_false, Bool.not_true]
      rw [if_pos trivial]; rfl
  · rw [if_neg hc]
    have hc0 : ((chk p p0).1 != 0) = true := by simpa using hc
    rw [hc0, ctt]; rfl
def sPromiseC (p : PolT) (plan : List RowT) (l : LoanT) (amount days : Int) : CR :=
  match sPlay p plan l [] (4, Lday l, days, amount, ()) with
  | .error e => .error e
  | .ok x => .ok (x.1, parts0, plan, x.2)
set_option maxHeartbeats 1000000 in
theorem promise (p : PolT) (p0 : List Int) (l : LoanT) (l0 : List RowT) (amount days : Int) (hI : LI l l0) :
    F_promise (p, l, amount, days, ()) (p0, l0, ()) = ⟨true, false, cret l (wk p p0 (sPromiseC p l0 l amount days)), ((), (), cplan l0 (wk p p0 (sPromiseC p l0 l amount days)), cnote (wk p p0 (sPromiseC p l0 l amount days)), ()), ()⟩ := by
  obtain ⟨hb, hl1, hl2, hA, hlast⟩ := hI
  rw [F_promise_eq, check p p0]
  simp only [room0 hl1 hl2, List.nil_append]
  unfold wk
  by_cases hc : (chk p p0).1 = 0
  · rw [if_pos hc]
    have hc0 : ((chk p p0).1 != 0) = false := by simpa using hc
    rw [hc0, cff]
    rw [play _ _ _ _ _ hc hb (by simp) (by omega)]
    simp only []
    unfold sPromiseC
    cases hs : sPlay p l0 l [] (4, Lday l, days, amount, ()) with
    | error e => simp only [hs, epan, ctt, tand]; rfl
    | ok y => simp only [hs, epan, cff, tand]; rfl
  · rw [if_neg hc]
    have hc0 : ((chk p p0).1 != 0) = true := by simpa using hc
    rw [hc0, ctt]; rfl
def sAccrueC (plan : List RowT) (l : LoanT) (days : Int) : CR :=
  if days < 0 then .error 2
  else if W (3652059 - Lday l) < days then .error 141
  else match sAccrue l days with
    | .error e => .error e
    | .ok l1 => .ok (l1, parts0, plan, [])
set_option maxHeartbeats 1000000 in
theorem accrueC (p : PolT) (p0 : List Int) (l : LoanT) (l0 : List RowT) (days : Int) (hI : LI l l0) :
    F_accrueC (p, l, days, ()) (p0, l0, ()) = ⟨true, false, cret l (wk p p0 (sAccrueC l0 l days)), ((), (), cplan l0 (wk p p0 (sAccrueC l0 l days)), cnote (wk p p0 (sAccrueC l0 l days)), ()), ()⟩ := by
  obtain ⟨hb, hl1, hl2, hA, hlast⟩ := hI
  rw [F_accrueC_eq, check p p0]
  simp only [room0 hl1 hl2, List.nil_append]
  unfold wk
  by_cases hc : (chk p p0).1 = 0
  · rw [if_pos hc]
    have hc0 : ((chk p p0).1 != 0) = false := by simpa using hc
    rw [hc0, cff]
    unfold sAccrueC
    by_cases c1 : days < 0
    · rw [if_pos c1, decide_eq_false (show ¬ days ≥ 0 by omega)]; rfl
    rw [if_neg c1, decide_eq_true (show days ≥ 0 by omega), Bool.not_true, cff]
    by_cases c2 : W (3652059 - Lday l) < days
    · rw [if_pos c2, decide_eq_false (show ¬ days ≤ IntKind.i64.wrap (3652059 - l.2.2.2.2.2.1) from fun q => absurd c2 (Int.not_lt.mpr q))]; rfl
    rw [if_neg c2, decide_eq_true (show days ≤ IntKind.i64.wrap (3652059 - l.2.2.2.2.2.1) from Int.not_lt.mp c2), Bool.not_true, cff]
    rw [accrue _ _ _ _ _ hb]
    simp only []
    cases hs : sAccrue l days with
    | error e => simp only [hs, epan, ctt, tand]; rfl
    | ok y => simp only [hs, epan, cff, tand, mdesk]; rfl
  · rw [if_neg hc]
    have hc0 : ((chk p p0).1 != 0) = true := by simpa using hc
    rw [hc0, ctt]; rfl
def sRoll (p : PolT) (plan : List RowT) (l : LoanT) : CR :=
  if 3652059 ≤ Lday l then .error 141
  else match sAccrue l 1 with
    | .error e => .error e
    | .ok l1 =>
      if lOver l1 then .ok (l1, parts0, plan, [])
      else match sPlay p plan l1 [] (1, Lday l1, sDays plan (posOf l1) (Lday l1), 0, ()) with
        | .error e => .error e
        | .ok x => match sCharge p plan x.1 x.2 with
          | .error e => .error e
          | .ok y => .ok (y.1, parts0, sChargeP p plan x.1, y.2)
set_option maxHeartbeats 1000000 in
theorem roll (p : PolT) (p0 : List Int) (l : LoanT) (l0 : List RowT) (hI : LI l l0) :
    F_roll (p, l, ()) (p0, l0, ()) = ⟨true, false, cret l (wk p p0 (sRoll p l0 l)), ((), (), cplan l0 (wk p p0 (sRoll p l0 l)), cnote (wk p p0 (sRoll p l0 l)), ()), ()⟩ := by
  obtain ⟨hb, hl1, hl2, hA, hlast⟩ := hI
  rw [F_roll_eq, check p p0]
  simp only [room0 hl1 hl2, List.nil_append]
  unfold wk
  by_cases hc : (chk p p0).1 = 0
  · rw [if_pos hc]
    have hc0 : ((chk p p0).1 != 0) = false := by simpa using hc
    rw [hc0, cff]
    unfold sRoll
    by_cases c1 : 3652059 ≤ Lday l
    · rw [if_pos c1, decide_eq_false (show ¬ l.2.2.2.2.2.1 < 3652059 from Int.not_lt.mpr c1)]; rfl
    rw [if_neg c1, decide_eq_true (show l.2.2.2.2.2.1 < 3652059 from Int.not_le.mp c1), Bool.not_true, cff]
    rw [accrue _ _ _ _ _ hb]
    simp only []
    cases hs : sAccrue l 1 with
    | error e => simp only [hs, epan, ctt, tand]; rfl
    | ok l1 =>
      have hb1 := accrue_ok hb hs
      simp only [hs, epan, cff, tand, mdesk]
      rw [overS]
      cases ho : lOver l1
      · simp only [cff, tand]
        rw [if_neg (show ¬ (false = true) by simp)]
        rw [pdays _ _ _ _ (by omega)]
        simp only [cff, tand]
        rw [play _ _ _ _ _ hc hb1 (by simp) (by omega)]
        simp only []
        cases hr : sPlay p l0 l1 [] (1, Lday l1, sDays l0 (posOf l1) (Lday l1), 0, ()) with
        | error e => simp only [hr, epan, ctt, tand]; rfl
        | ok x =>
          have hbx := play_ok hb1 hr
          simp only [hr, epan, cff, tand, ddesk, dnote]
          rw [charge _ _ _ _ hc hbx.1 (by have := hbx.2; simp at this; omega) (by omega) hA]
          simp only []
          cases hg : sCharge p l0 x.1 x.2 with
          | error e => simp only [hg, epan, ctt, tand]; rfl
          | ok y => simp only [hg, epan, cff, tand]; rfl
      · simp only [ctt, tand]
        rw [if_pos trivial]; rfl
  · rw [if_neg hc]
    have hc0 : ((chk p p0).1 != 0) = true := by simpa using hc
    rw [hc0, ctt]; rfl
end
end Go.Proofs.YtlflclfhldghbaaGreatDoor.Fs
end
section
set_option maxRecDepth 20000
namespace Go.Proofs.YtlflclfhldghbaaGreatDoor.Fs
open Go Go.Proofs.YtlflclfhldghbaaGreatDoor.Ls P
noncomputable section
def sPlan (t : TermsT) (s : List Int) : Bool × List RowT := Classical.choose (plans t s)
theorem planS (t : TermsT) (s : List Int) : F_plan (t, (), ()) (s, ()) = ⟨true, false, ((), (sPlan t s).1, ()), ((), (sPlan t s).2, ()), ()⟩ ∧ (sPlan t s).2.length ≤ 120 ∧ ((sPlan t s).1 = true → okT t = true ∧ (sPlan t s).2 ≠ []) ∧ (∀ x ∈ (sPlan t s).2, rowB x) := Classical.choose_spec (plans t s)
theorem may (t : TermsT) : F_may (t, ()) () = ⟨true, false, okT t, (), ()⟩ := by
  rw [F_may_eq]
  simp only [csame, cft]
  unfold okT
  generalize decide (t.1 ≥ 0) = a1
  generalize decide (t.1 ≤ 2) = a2
  generalize decide (t.2.1 ≥ 1) = a3
  generalize decide (t.2.1 ≤ 10000000000000) = a4
  generalize decide (t.2.2.1 ≥ 0) = a5
  generalize decide (t.2.2.1 ≤ 100000) = a5'
  generalize decide (t.2.2.2.1 ≥ 1) = a6
  generalize decide (t.2.2.2.1 ≤ 120) = a7
  generalize decide (t.2.2.2.2.1 ≥ 1) = a8
  generalize decide (t.2.2.2.2.1 ≤ 3652059) = a9
  generalize decide (t.2.2.2.2.2.1 ≥ 0) = a10
  generalize decide (t.2.2.2.2.2.1 ≤ 3) = a11
  congr 1
  cases a1 <;> cases a2 <;> cases a10 <;> cases a11 <;> cases a3 <;> cases a4 <;> cases a5 <;> simp
def openL (id : Int) (t : TermsT) : LoanT := (id, t, (), (net0, ()), (1, false, 0, 0, 0, 0, 0, 0, 0, 0, 0, 0, 0, 0, 0, ()), t.2.2.2.2.1, 0, 0, parts0, false, 0, 0, ())
def sOpen (p0 : List Int) (id : Int) (t : TermsT) : CR :=
  if id < 1 ∨ 999999 < id then .error 2
  else if okT t = false then .error 140
  else if (sPlan t p0).1 = false then .error 141
  else match sMove (openL id t) [(1, 6, t.2.1, ())] with
    | .error e => .error e
    | .ok l => .ok (l, parts0, (sPlan t p0).2, [])
theorem okT_pr {t : TermsT} (h : okT t = true) : 1 ≤ t.2.1 ∧ t.2.1 ≤ 10000000000000 ∧ 0 ≤ t.2.2.1 ∧ t.2.2.1 ≤ 100000 ∧ 1 ≤ t.2.2.2.2.1 ∧ t.2.2.2.2.1 ≤ 3652059 := by
  obtain ⟨a, b, c, d, e, f, ⟨⟩⟩ := t
  have := okT_out h
  simp only []
  omega
theorem openB (id : Int) (t : TermsT) : allR (net (Lbook (openL id t))) := by
  unfold allR inR
  refine ⟨?_, ?_, ?_, ?_, ?_, ?_, ?_, ?_, ?_, ?_, ?_, ?_⟩ <;> (show (-9223372036854775808 : Int) < 0 ∧ (0 : Int) ≤ 9223372036854775807; omega)
set_option maxHeartbeats 1000000 in
theorem open_ (p : PolT) (p0 : List Int) (id : Int) (t : TermsT) :
    F_open (p, id, t, ()) (p0, ()) = ⟨true, false, cret loan0 (wk p p0 (sOpen p0 id t)), ((), cplan [] (wk p p0 (sOpen p0 id t)), cnote (wk p p0 (sOpen p0 id t)), ()), ()⟩ := by
  have hpl := (planS t p0).1
  rw [F_open_eq, check p p0, may t, hpl]
  unfold wk
  by_cases hc : (chk p p0).1 = 0
  · rw [if_pos hc]
    have hc0 : ((chk p p0).1 != 0) = false := by simpa using hc
    simp only [hc0, cff, tand, andt]
    unfold sOpen
    by_cases c1 : id < 1
    · rw [if_pos (Or.inl c1), decide_eq_false (show ¬ id ≥ 1 by omega), cff]; rfl
    rw [decide_eq_true (show id ≥ 1 by omega), ctt]
    by_cases c2 : 999999 < id
    · rw [if_pos (Or.inr c2), decide_eq_false (show ¬ id ≤ 999999 by omega), Bool.not_false, ctt]; rfl
    rw [if_neg (by omega), decide_eq_true (show id ≤ 999999 by omega), Bool.not_true, cff]
    cases ht : okT t
    · rw [if_pos rfl, Bool.not_false, ctt]; rfl
    rw [if_neg (show ¬ (true = false) by simp), Bool.not_true, cff]
    cases hp : (sPlan t p0).1
    · rw [if_pos rfl, Bool.not_false, ctt]; rfl
    rw [if_neg (show ¬ (true = false) by simp), Bool.not_true, cff]
    rw [move]
    · simp only []
      generalize hr : sMove _ _ = r
      have hr' : sMove (openL id t) [(1, 6, t.2.1, ())] = r := hr
      rw [hr']
      cases r with
      | error e => simp only [epan, ctt, tand]; rfl
      | ok l1 => simp only [epan, cff, mdesk, tand]; rfl
    · exact openB id t
    · simp
    · intro e he
      simp only [List.mem_singleton] at he
      subst he
      have := okT_pr ht
      show t.2.1 ≤ _
      omega
  · rw [if_neg hc]
    have hc0 : ((chk p p0).1 != 0) = true := by simpa using hc
    simp only [hc0, ctt, tand, andt]; rfl
def newT (l : LoanT) (count rate : Int) : TermsT := ((Lterms l).1, total l, rate, count, Lday l, (Lterms l).2.2.2.2.2)
def newL (l2 : LoanT) (t : TermsT) : LoanT := sForget (setApp (setTerms l2 t) 0)
def sRestructure (p : PolT) (p0 : List Int) (plan : List RowT) (l : LoanT) (count rate : Int) : CR :=
  if count < 1 ∨ 120 < count ∨ rate < 0 ∨ 100000 < rate then .error 140
  else match sPlay p plan l [] (5, 0, 0, 0, ()) with
    | .error e => .error e
    | .ok x =>
      if 10000000000000 < total x.1 then .error 3
      else if (sPlan (newT x.1 count rate) p0).1 = false then .error 141
      else match sMove x.1 [(1, 2, N x.1 2, ()), (1, 3, N x.1 3, ()), (5, 7, -(N x.1 5), ())] with
        | .error e => .error e
        | .ok l2 => .ok (newL l2 (newT x.1 count rate), parts0, (sPlan (newT x.1 count rate) p0).2, sNote (newL l2 (newT x.1 count rate)) x.2 7 (total x.1))
set_option maxHeartbeats 400000 in
theorem restructure (p : PolT) (p0 : List Int) (l : LoanT) (l0 : List RowT) (count rate : Int) (hI : LI l l0) :
    F_restructure (p, l, count, rate, ()) (p0, l0, ()) = ⟨true, false, cret l (wk p p0 (sRestructure p p0 l0 l count rate)), ((), (), cplan l0 (wk p p0 (sRestructure p p0 l0 l count rate)), cnote (wk p p0 (sRestructure p p0 l0 l count rate)), ()), ()⟩ := by
  obtain ⟨hb, hl1, hl2, hA, hlast⟩ := hI
  by_cases hc : (chk p p0).1 = 0
  · have hwk : wk p p0 (sRestructure p p0 l0 l count rate) = sRestructure p p0 l0 l count rate := by unfold wk; rw [if_pos hc]
    rw [hwk, F_restructure_eq, check p p0]
    have hc0 : ((chk p p0).1 != 0) = false := by simpa using hc
    rw [play (p, l, (0, 0, 0, 0, 0, ()), (), ()) (5, 0, 0, 0, ()) p0 (([] : List RowT) ++ l0) [] hc hb (by simp) (by simp; omega)]
    have hr0 := room0 hl1 hl2
    rw [hr0, hc0]
    generalize hr : sPlay (p, l, (0, 0, 0, 0, 0, ()), (), ()).1 (([] : List RowT) ++ l0) (p, l, (0, 0, 0, 0, 0, ()), (), ()).2.1 [] (5, 0, 0, 0, ()) = r
    have hr : sPlay p l0 l [] (5, 0, 0, 0, ()) = r := hr
    unfold sRestructure
    rw [hr]
    by_cases c1 : count < 1
    · rw [if_pos (Or.inl c1), decide_eq_false (show ¬ count ≥ 1 by omega)]
      simp only [cff, List.nil_append, tand]; rfl
    rw [decide_eq_true (show count ≥ 1 by omega)]
    by_cases c2 : 120 < count
    · rw [if_pos (Or.inr (Or.inl c2)), decide_eq_false (show ¬ count ≤ 120 by omega)]
      simp only [ctt, cff, List.nil_append, tand]; rfl
    rw [decide_eq_true (show count ≤ 120 by omega)]
    by_cases c3 : rate < 0
    · rw [if_pos (Or.inr (Or.inr (Or.inl c3))), decide_eq_false (show ¬ rate ≥ 0 by omega)]
      simp only [ctt, cff, List.nil_append, tand]; rfl
    rw [decide_eq_true (show rate ≥ 0 by omega)]
    by_cases c4 : 100000 < rate
    · rw [if_pos (Or.inr (Or.inr (Or.inr c4))), decide_eq_false (show ¬ rate ≤ 100000 by omega)]
      simp only [ctt, cff, List.nil_append, tand, Bool.not_false]; rfl
    rw [if_neg (by omega), decide_eq_true (show rate ≤ 100000 by omega)]
    cases r with
    | error e => simp only [hr, epan, ctt, cff, tand, Bool.not_true, List.nil_append]; rfl
    | ok x =>
      have hbx := play_ok hb hr
      simp only [epan, ctt, cff, tand, andt, ddesk, dnote, Bool.not_true, List.nil_append]
      have h := owedS x.1 l0
      have hR := bR hbx.1
      have hbal := balS x.1 l0 (a := 5) (i := 5) (by omega) hbx.1
      have hpl : F_plan ((x.1.2.1.1, IntKind.i64.wrap (IntKind.i64.wrap (N x.1 3 + N x.1 2) + N x.1 1), rate, count, x.1.2.2.2.2.2.1, x.1.2.1.2.2.2.2.2), (), ()) (p0, ()) = ⟨true, false, ((), (sPlan (newT x.1 count rate) p0).1, ()), ((), (sPlan (newT x.1 count rate) p0).2, ()), ()⟩ := (planS (newT x.1 count rate) p0).1
      have hmv := move (p, x.1, (0, 0, 0, 0, 0, ()), (), ()) p0 l0 x.2 [(1, 2, N x.1 2, ()), (1, 3, N x.1 3, ()), (5, 7, -(N x.1 5), ())] hbx.1.1 (by simp) (by
        intro e he
        simp only [List.mem_cons, List.not_mem_nil, or_false] at he
        rcases he with rfl | rfl | rfl
        · show N x.1 2 ≤ _; unfold N; omega
        · show N x.1 3 ≤ _; unfold N; omega
        · show -(N x.1 5) ≤ _; unfold N; omega)
      simp only [h, cff, sOwed, tand, hpl, hbal, hmv]
      have htot : IntKind.i64.wrap (IntKind.i64.wrap (N x.1 3 + N x.1 2) + N x.1 1) = total x.1 := rfl
      simp only [htot]
      by_cases c5 : 10000000000000 < total x.1
      · rw [if_pos c5]
        simp only [decide_eq_false (show ¬ total x.1 ≤ 10000000000000 by omega), Bool.not_false, ctt]; rfl
      rw [if_neg c5]
      simp only [decide_eq_true (show total x.1 ≤ 10000000000000 by omega), Bool.not_true, cff]
      cases hp : (sPlan (newT x.1 count rate) p0).1
      · rw [if_pos rfl]
        simp only [Bool.not_false, ctt]; rfl
      rw [if_neg (show ¬ (true = false) by simp)]
      simp only [Bool.not_true, cff]
      cases hm : sMove x.1 [(1, 2, N x.1 2, ()), (1, 3, N x.1 3, ()), (5, 7, -(N x.1 5), ())] with
      | error e => simp only [hm, epan, ctt, tand]; rfl
      | ok l2 =>
        simp only [hm, epan, cff, mdesk, tand]
        rw [forget]
        simp only [tand]
        rw [note _ _ _ _ _ _ (by have := hbx.2; simp at this; omega)]
        rfl
  · have hwk : wk p p0 (sRestructure p p0 l0 l count rate) = .error (chk p p0).1 := by unfold wk; rw [if_neg hc]
    rw [hwk, F_restructure_eq, check p p0]
    have hc0 : ((chk p p0).1 != 0) = true := by simpa using hc
    rw [hc0, room0 hl1 hl2, ctt]
    rfl
end
end Go.Proofs.YtlflclfhldghbaaGreatDoor.Fs
end
section
set_option maxRecDepth 100000
namespace Go.Proofs.YtlflclfhldghbaaGreatDoor.Fs
open Go Go.Proofs.YtlflclfhldghbaaGreatDoor.Ls
noncomputable def C_samePlan : Cx TT := cxB tbl84 Go.Proofs.Tryz.f55.ntmps [(5, s_samePlan_5)] [] [] [] []
noncomputable def k_samePlan (a : g_samePlan.args.ty) (h : tysO TT g_samePlan.hp) : Nat := h.1.length + 2
noncomputable def F_samePlan : g_samePlan.args.ty → tysO TT g_samePlan.hp → Res TT g_samePlan := fun a h => bodyG C_samePlan g_samePlan Go.Proofs.Tryz.f55 [] (k_samePlan a h) a h
theorem F_samePlan_ok : FOK prog globs 55 g_samePlan F_samePlan :=
  bodyG_sound (cx := C_samePlan) mix (cxB_ok tbl84_ok _ _ _ _ _ _) (f := 55) (fn := Go.Proofs.Tryz.f55) (by kernel_rfl) (by kernel_rfl) (by kernel_rfl) (by kernel_rfl) _
noncomputable def tbl85 : List (Ent TT) := ⟨55, g_samePlan, F_samePlan⟩ :: tbl84
theorem tbl85_ok : TblOK prog globs tbl85 := tbl_cons (by kernel_rfl) F_samePlan_ok tbl84_ok
noncomputable def C_sameLoan : Cx TT := cxB tbl85 Go.Proofs.Tryz.f20.ntmps [] [] [] [] []
noncomputable def k_sameLoan (a : g_sameLoan.args.ty) (h : tysO TT g_sameLoan.hp) : Nat := 0
noncomputable def F_sameLoan : g_sameLoan.args.ty → tysO TT g_sameLoan.hp → Res TT g_sameLoan := fun a h => bodyG C_sameLoan g_sameLoan Go.Proofs.Tryz.f20 [] (k_sameLoan a h) a h
theorem F_sameLoan_ok : FOK prog globs 20 g_sameLoan F_sameLoan :=
  bodyG_sound (cx := C_sameLoan) mix (cxB_ok tbl85_ok _ _ _ _ _ _) (f := 20) (fn := Go.Proofs.Tryz.f20) (by kernel_rfl) (by kernel_rfl) (by kernel_rfl) (by kernel_rfl) _
noncomputable def tbl86 : List (Ent TT) := ⟨20, g_sameLoan, F_sameLoan⟩ :: tbl85
theorem tbl86_ok : TblOK prog globs tbl86 := tbl_cons (by kernel_rfl) F_sameLoan_ok tbl85_ok
end Go.Proofs.YtlflclfhldghbaaGreatDoor.Fs
end
section
set_option maxRecDepth 100000
namespace Go.Proofs.YtlflclfhldghbaaGreatDoor.Fs
open Go Go.Proofs.YtlflclfhldghbaaGreatDoor.Ls
noncomputable def C_call : Cx TT := cxB tbl86 Go.Proofs.Tryz.f19.ntmps [] [] [] [] []
noncomputable def k_call (a : g_call.args.ty) (h : tysO TT g_call.hp) : Nat := 0
noncomputable def F_call : g_call.args.ty → tysO TT g_call.hp → Res TT g_call := fun a h => bodyG C_call g_call Go.Proofs.Tryz.f19 [] (k_call a h) a h
theorem F_call_ok : FOK prog globs 19 g_call F_call :=
  bodyG_sound (cx := C_call) mix (cxB_ok tbl86_ok _ _ _ _ _ _) (f := 19) (fn := Go.Proofs.Tryz.f19) (by kernel_rfl) (by kernel_rfl) (by kernel_rfl) (by kernel_rfl) _
noncomputable def tbl87 : List (Ent TT) := ⟨19, g_call, F_call⟩ :: tbl86
theorem tbl87_ok : TblOK prog globs tbl87 := tbl_cons (by kernel_rfl) F_call_ok tbl86_ok
noncomputable def C_works : Cx TT := cxB tbl87 Go.Proofs.Tryz.f8.ntmps [(2, s_works_2), (3, s_works_3), (4, s_works_4), (5, s_works_5)] [] [] [] [2, 3, 4, 5]
noncomputable def k_works (a : g_works.args.ty) (h : tysO TT g_works.hp) : Nat := 10
noncomputable def F_works : g_works.args.ty → tysO TT g_works.hp → Res TT g_works := fun a h => bodyG C_works g_works Go.Proofs.Tryz.f8 [] (k_works a h) a h
theorem F_works_ok : FOK prog globs 8 g_works F_works :=
  bodyG_sound (cx := C_works) mix (cxB_ok tbl87_ok _ _ _ _ _ _) (f := 8) (fn := Go.Proofs.Tryz.f8) (by kernel_rfl) (by kernel_rfl) (by kernel_rfl) (by kernel_rfl) _
noncomputable def L_works_2 (k : Nat) (v : s_works_2.ty TT) : Res TT g_works := loopG C_works g_works Go.Proofs.Tryz.f8 [] k (todoG Go.Proofs.Tryz.f8 2) (SS.st s_works_2 0 v)
noncomputable def L_works_3 (k : Nat) (v : s_works_3.ty TT) : Res TT g_works := loopG C_works g_works Go.Proofs.Tryz.f8 [] k (todoG Go.Proofs.Tryz.f8 3) (SS.st s_works_3 0 v)
noncomputable def L_works_4 (k : Nat) (v : s_works_4.ty TT) : Res TT g_works := loopG C_works g_works Go.Proofs.Tryz.f8 [] k (todoG Go.Proofs.Tryz.f8 4) (SS.st s_works_4 0 v)
noncomputable def L_works_5 (k : Nat) (v : s_works_5.ty TT) : Res TT g_works := loopG C_works g_works Go.Proofs.Tryz.f8 [] k (todoG Go.Proofs.Tryz.f8 5) (SS.st s_works_5 0 v)
theorem F_works_eqk (k : Nat) : bodyG C_works g_works Go.Proofs.Tryz.f8 [] k () () =
  (L_works_2 k ((), ())) := by kernel_rfl
theorem F_works_eq : F_works () () =
  (L_works_2 (k_works () ()) ((), ())) := F_works_eqk _
theorem L_works_2_eq (k : Nat)  : L_works_2 (k + 1) ((), ()) =
  (L_works_3 k (((), (), ()), ((738000 : Int), (10 : Int), (90 : Int), (120 : Int), (500 : Int), (1500 : Int), (10000 : Int), (20000 : Int), (50000 : Int), (3 : Int), (14 : Int), (2 : Int), (0 : Int), (0 : Int), (2 : Int), (16 : Int), (0 : Int), (), ()), ((1 : Int), (3650000 : Int), (1000 : Int), (2 : Int), (738000 : Int), (0 : Int), ()), ([] : List Int), ())) := by kernel_rfl
theorem L_works_3_eq (k : Nat) (p : T23) (t : T25) (p_r : List Int) : L_works_3 (k + 1) (((), (), ()), (p, t, p_r, ())) =
  let x0 := (L_works_4 k (((), (), ()), p, ((F_open (p, (1 : Int), t, ()) (p_r, ())).ret : ZO), p_r, ((F_open (p, (1 : Int), t, ()) (p_r, ())).out : ZH).2))
  ⟨((F_open (p, (1 : Int), t, ()) (p_r, ())).ok && x0.ok), x0.pan, x0.ret, x0.out, x0.pv⟩ := by kernel_rfl
theorem L_works_4_eq (k : Nat) (p : T23) (o : T43) (p_r : List Int) (o_r : List T123) (o_r' : List T53) : L_works_4 (k + 1) (((), (), ()), (p, o, p_r, o_r, o_r', ())) =
  let x0 := (F_roll (p, o.1, ()) (p_r, o_r, ()))
  let x1 := (L_works_5 k (((), (), (), ()), p, o, (x0.ret : ZO), p_r, o_r, o_r', ((x0.out : ZF).2).2))
  ⟨(x0.ok && x1.ok), x1.pan, x1.ret, x1.out, x1.pv⟩ := by kernel_rfl
theorem L_works_5_eq (k : Nat) (p : T23) (o : T43) (r : T43) (p_r : List Int) (o_r : List T123) (o_r' : List T53) (r_r : List T123) (r_r' : List T53) : L_works_5 (k + 1) (((), (), (), ()), (p, o, r, p_r, o_r, o_r', r_r, r_r', ())) =
  let x0 := (F_pay (p, r.1, (600 : Int), ()) (p_r, r_r, ()))
  let x1 := (x0.ret : ZO)
  let x2 := x1.2
  let x3 := (x2.2.2.1 != 0)
  let x4 := (r.1.2.2.2.1.1.2.2.1 != 1000)
  let x5 := x0.ok
  let x6 := (bif (o.2.2.2.1 != 0) then x5 else (bif (r.2.2.2.1 != 0) then x5 else (bif x3 then x5 else (bif (r.1.2.2.2.2.2.1 != 738001) then x5 else (bif x4 then x5 else x5)))))
  let x7 := (x2.1.2.1 == 600)
  let x8 := x1.1.2.2.2.1.1
  let x9 := (x8.2.2.1 == 400)
  (bif (bif (o.2.2.2.1 != 0) then true else (bif (r.2.2.2.1 != 0) then true else (bif x3 then true else (bif (r.1.2.2.2.2.2.1 != 738001) then true else (bif x4 then true else (r.1.2.2.2.1.1.2.2.2.2.2.2.2.1 != (-1000))))))) then ⟨x6, false, false, (), ()⟩ else ⟨(bif x7 then (bif x9 then x6 else x6) else x6), false, (bif x7 then (bif x9 then (x8.1 == 600) else false) else false), (), ()⟩) := by kernel_rfl
noncomputable def tbl88 : List (Ent TT) := ⟨8, g_works, F_works⟩ :: tbl87
theorem tbl88_ok : TblOK prog globs tbl88 := tbl_cons (by kernel_rfl) F_works_ok tbl87_ok
end Go.Proofs.YtlflclfhldghbaaGreatDoor.Fs
end
