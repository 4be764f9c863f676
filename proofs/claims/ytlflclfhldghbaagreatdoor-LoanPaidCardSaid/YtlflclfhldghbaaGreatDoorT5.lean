-- Texts of this claim, joined and cut down to what it uses (a program of this session).
import Derived.Test.YtlflclfhldghbaaGreatDoorT4
import Derived.Test.YtlflclfhldghbaaGreatDoorProg
import Derived.KernelRfl
import Derived.Below
set_option linter.unusedVariables false
set_option linter.unusedSimpArgs false
set_option linter.unnecessarySimpa false
section
set_option maxRecDepth 100000
namespace Go.Proofs.YtlflclfhldghbaaGreatDoor.Fs
open Go Go.Proofs.YtlflclfhldghbaaGreatDoor.Ls
noncomputable def C_pays : Cx TT := cxB tbl20 Go.Proofs.Tryz.f148.ntmps [(3, s_pays_3)] [] [] [] []
noncomputable def k_pays (a : g_pays.args.ty) (h : tysO TT g_pays.hp) : Nat := a.2.2.2.1.toNat + 2
noncomputable def F_pays : g_pays.args.ty → tysO TT g_pays.hp → Res TT g_pays := fun a h => bodyG C_pays g_pays Go.Proofs.Tryz.f148 [] (k_pays a h) a h
theorem F_pays_ok : FOK prog globs 148 g_pays F_pays :=
  bodyG_sound (cx := C_pays) mix (cxB_ok tbl20_ok _ _ _ _ _ _) (f := 148) (fn := Go.Proofs.Tryz.f148) (by kernel_rfl) (by kernel_rfl) (by kernel_rfl) (by kernel_rfl) _
noncomputable def L_pays_3 (k : Nat) (v : s_pays_3.ty TT) : Res TT g_pays := loopG C_pays g_pays Go.Proofs.Tryz.f148 [] k (todoF Go.Proofs.Tryz.f148 3) (SS.st s_pays_3 0 v)
theorem F_pays_eq (payment : Int) (balance : Int) (rate : Int) (count : Int) : F_pays (payment, balance, rate, count, ()) () =
  (L_pays_3 (k_pays (payment, balance, rate, count, ()) ()) ((payment, balance, rate, count, (0 : Int), ()), ())) := by kernel_rfl
theorem L_pays_3_eq (k : Nat) (payment : Int) (balance : Int) (rate : Int) (t11 : Int) (t12 : Int) : L_pays_3 (k + 1) ((payment, balance, rate, t11, t12, ()), ()) =
  let x0 := (IntKind.i64.wrap (payment - ((F_month (balance, rate, ()) ()).ret : Int × Bool × Unit).1))
  let x1 := (L_pays_3 k ((payment, (IntKind.i64.wrap (balance - x0)), rate, t11, (IntKind.i64.wrap (t12 + 1)), ()), ()))
  (bif decide (t12 < t11) then (bif decide (payment ≤ ((F_month (balance, rate, ()) ()).ret : Int × Bool × Unit).1) then ⟨(F_month (balance, rate, ()) ()).ok, false, false, (), ()⟩ else (bif decide (balance ≤ x0) then ⟨(F_month (balance, rate, ()) ()).ok, false, true, (), ()⟩ else ⟨((F_month (balance, rate, ()) ()).ok && x1.ok), x1.pan, x1.ret, x1.out, x1.pv⟩)) else ⟨true, false, false, (), ()⟩) := by kernel_rfl
noncomputable def tbl21 : List (Ent TT) := ⟨148, g_pays, F_pays⟩ :: tbl20
theorem tbl21_ok : TblOK prog globs tbl21 := tbl_cons (by kernel_rfl) F_pays_ok tbl20_ok
noncomputable def C_least : Cx TT := cxB tbl21 Go.Proofs.Tryz.f149.ntmps [(2, s_least_2)] [] [] [] []
noncomputable def k_least (a : g_least.args.ty) (h : tysO TT g_least.hp) : Nat := 200
noncomputable def F_least : g_least.args.ty → tysO TT g_least.hp → Res TT g_least := fun a h => bodyG C_least g_least Go.Proofs.Tryz.f149 [] (k_least a h) a h
theorem F_least_ok : FOK prog globs 149 g_least F_least :=
  bodyG_sound (cx := C_least) mix (cxB_ok tbl21_ok _ _ _ _ _ _) (f := 149) (fn := Go.Proofs.Tryz.f149) (by kernel_rfl) (by kernel_rfl) (by kernel_rfl) (by kernel_rfl) _
noncomputable def L_least_2 (k : Nat) (v : s_least_2.ty TT) : Res TT g_least := loopG C_least g_least Go.Proofs.Tryz.f149 [] k (todoF Go.Proofs.Tryz.f149 2) (SS.st s_least_2 0 v)
theorem F_least_eq (low : Int) (high : Int) (principal : Int × Unit) (rate : Int × Unit) (count : Int × Unit) : F_least (low, high, ((), (), (), ()), ()) (principal, rate, count, ()) =
  (L_least_2 (k_least (low, high, ((), (), (), ()), ()) (principal, rate, count, ())) ((low, high, ((), (), (), ()), ()), principal, rate, count, ())) := by kernel_rfl
theorem L_least_2_eq (k : Nat) (low : Int) (high : Int) (enough : Unit × Unit × Unit × Unit) (principal : Int × Unit) (rate : Int × Unit) (count : Int × Unit) : L_least_2 (k + 1) ((low, high, enough, ()), (principal, rate, count, ())) =
  let x0 := (IntKind.i64.wrap (low + (IntKind.i64.wrap ((IntKind.i64.wrap (high - low)).tdiv (2 : Int)))))
  let x1 := (F_pays (x0, principal.1, rate.1, count) ())
  let x2 := (x1.ret : Bool)
  let x3 := x1.ok
  let x4 := (L_least_2 k (((bif x2 then low else (IntKind.i64.wrap (x0 + 1))), (bif x2 then x0 else high), ((), (), (), ()), ()), principal, rate, count, ()))
  (bif decide (low < high) then ⟨((bif x2 then x3 else x3) && x4.ok), x4.pan, x4.ret, x4.out, x4.pv⟩ else ⟨true, false, low, ((), (), (), ()), ()⟩) := by kernel_rfl
noncomputable def tbl22 : List (Ent TT) := ⟨149, g_least, F_least⟩ :: tbl21
theorem tbl22_ok : TblOK prog globs tbl22 := tbl_cons (by kernel_rfl) F_least_ok tbl21_ok
noncomputable def C_level : Cx TT := cxB tbl22 Go.Proofs.Tryz.f87.ntmps [] [] [] [] []
noncomputable def k_level (a : g_level.args.ty) (h : tysO TT g_level.hp) : Nat := 0
noncomputable def F_level : g_level.args.ty → tysO TT g_level.hp → Res TT g_level := fun a h => bodyG C_level g_level Go.Proofs.Tryz.f87 [] (k_level a h) a h
theorem F_level_ok : FOK prog globs 87 g_level F_level :=
  bodyG_sound (cx := C_level) mix (cxB_ok tbl22_ok _ _ _ _ _ _) (f := 87) (fn := Go.Proofs.Tryz.f87) (by kernel_rfl) (by kernel_rfl) (by kernel_rfl) (by kernel_rfl) _
theorem F_level_eq (principal : Int) (rate : Int) (count : Int) : F_level (principal, rate, count, ()) () =
  let x0 := (bif decide (principal < 1) then true else (bif (!(bif decide (rate ≥ 0) then decide (rate ≤ 100000) else false)) then (bif decide (rate ≥ 0) then true else true) else (bif decide (count < 1) then (bif decide (rate ≥ 0) then true else true) else (bif decide (rate ≥ 0) then true else true))))
  let x1 := (x0 && (F_pays ((9223372036854775807 : Int), principal, rate, count, ()) ()).ok)
  let x2 := (F_least ((1 : Int), (9223372036854775807 : Int), ((), (), (), ()), ()) ((principal, ()), (rate, ()), (count, ()), ()))
  (bif (bif decide (principal < 1) then true else (bif (!(bif decide (rate ≥ 0) then decide (rate ≤ 100000) else false)) then true else (bif decide (count < 1) then true else decide (count > 120)))) then ⟨x0, false, ((0 : Int), false, ()), (), ()⟩ else (bif (!((F_pays ((9223372036854775807 : Int), principal, rate, count, ()) ()).ret : Bool)) then ⟨x1, false, ((0 : Int), false, ()), (), ()⟩ else ⟨(x1 && x2.ok), false, ((x2.ret : Int), true, ()), (), ()⟩)) := by kernel_rfl
noncomputable def tbl23 : List (Ent TT) := ⟨87, g_level, F_level⟩ :: tbl22
theorem tbl23_ok : TblOK prog globs tbl23 := tbl_cons (by kernel_rfl) F_level_ok tbl22_ok
noncomputable def C_valid : Cx TT := cxB tbl23 Go.Proofs.Tryz.f85.ntmps [] [] [] [] []
noncomputable def k_valid (a : g_valid.args.ty) (h : tysO TT g_valid.hp) : Nat := 0
noncomputable def F_valid : g_valid.args.ty → tysO TT g_valid.hp → Res TT g_valid := fun a h => bodyG C_valid g_valid Go.Proofs.Tryz.f85 [] (k_valid a h) a h
theorem F_valid_ok : FOK prog globs 85 g_valid F_valid :=
  bodyG_sound (cx := C_valid) mix (cxB_ok tbl23_ok _ _ _ _ _ _) (f := 85) (fn := Go.Proofs.Tryz.f85) (by kernel_rfl) (by kernel_rfl) (by kernel_rfl) (by kernel_rfl) _
theorem F_valid_eq (t : T25) : F_valid (t, ()) () =
  let x0 := (bif decide (t.2.2.1 ≥ 0) then decide (t.2.2.1 ≤ 100000) else false)
  ⟨(bif decide (t.1 ≥ 0) then (bif decide (t.1 ≤ 2) then (bif decide (t.2.1 ≥ 1) then (bif decide (t.2.1 ≤ 10000000000000) then (bif x0 then (bif decide (t.2.2.2.1 ≥ 1) then (bif decide (t.2.2.2.1 ≤ 120) then (bif decide (t.2.2.2.2.1 ≥ 1) then (bif decide (t.2.2.2.2.1 ≤ 3652059) then (bif decide (t.2.2.2.2.2.1 ≥ 0) then (bif decide (t.2.2.1 ≥ 0) then true else true) else (bif decide (t.2.2.1 ≥ 0) then true else true)) else (bif decide (t.2.2.1 ≥ 0) then true else true)) else (bif decide (t.2.2.1 ≥ 0) then true else true)) else (bif decide (t.2.2.1 ≥ 0) then true else true)) else (bif decide (t.2.2.1 ≥ 0) then true else true)) else (bif decide (t.2.2.1 ≥ 0) then true else true)) else true) else true) else true) else true), false, (bif decide (t.1 ≥ 0) then (bif decide (t.1 ≤ 2) then (bif decide (t.2.1 ≥ 1) then (bif decide (t.2.1 ≤ 10000000000000) then (bif x0 then (bif decide (t.2.2.2.1 ≥ 1) then (bif decide (t.2.2.2.1 ≤ 120) then (bif decide (t.2.2.2.2.1 ≥ 1) then (bif decide (t.2.2.2.2.1 ≤ 3652059) then (bif decide (t.2.2.2.2.2.1 ≥ 0) then decide (t.2.2.2.2.2.1 ≤ 3) else false) else false) else false) else false) else false) else false) else false) else false) else false) else false), (), ()⟩ := by kernel_rfl
noncomputable def tbl24 : List (Ent TT) := ⟨85, g_valid, F_valid⟩ :: tbl23
theorem tbl24_ok : TblOK prog globs tbl24 := tbl_cons (by kernel_rfl) F_valid_ok tbl23_ok
noncomputable def C_plan : Cx TT := cxB tbl24 Go.Proofs.Tryz.f38.ntmps [(17, s_plan_17), (17, s_plan_17_1), (17, s_plan_17_2)] [] [42, 62, 1000018] [] []
noncomputable def k_plan (a : g_plan.args.ty) (h : tysO TT g_plan.hp) : Nat := a.1.2.2.2.1.toNat + 2
noncomputable def F_plan : g_plan.args.ty → tysO TT g_plan.hp → Res TT g_plan := fun a h => bodyG C_plan g_plan Go.Proofs.Tryz.f38 [] (k_plan a h) a h
theorem F_plan_ok : FOK prog globs 38 g_plan F_plan :=
  bodyG_sound (cx := C_plan) mix (cxB_ok tbl24_ok _ _ _ _ _ _) (f := 38) (fn := Go.Proofs.Tryz.f38) (by kernel_rfl) (by kernel_rfl) (by kernel_rfl) (by kernel_rfl) _
noncomputable def L_plan_17 (k : Nat) (v : s_plan_17.ty TT) : Res TT g_plan := loopG C_plan g_plan Go.Proofs.Tryz.f38 [] k (todoF Go.Proofs.Tryz.f38 17) (SS.st s_plan_17 0 v)
noncomputable def L_plan_17_1 (k : Nat) (v : s_plan_17_1.ty TT) : Res TT g_plan := loopG C_plan g_plan Go.Proofs.Tryz.f38 [] k (todoF Go.Proofs.Tryz.f38 17) (SS.st s_plan_17_1 0 v)
noncomputable def L_plan_17_2 (k : Nat) (v : s_plan_17_2.ty TT) : Res TT g_plan := loopG C_plan g_plan Go.Proofs.Tryz.f38 [] k (todoF Go.Proofs.Tryz.f38 17) (SS.st s_plan_17_2 0 v)
theorem F_plan_eq (t : T25) (holidays : List Int) : F_plan (t, (), ()) (holidays, ()) =
  let x0 := (bif (!((F_valid (t, ()) ()).ret : Bool)) then (F_valid (t, ()) ()).ok else (F_valid (t, ()) ()).ok)
  let x1 := (((F_civil (t.2.2.2.2.1, ()) ()).ret : (Int × Int × Int × Unit) × Bool × Unit).2).1
  let x2 := (x0 && (F_civil (t.2.2.2.2.1, ()) ()).ok)
  let x3 := (F_level (t.2.1, t.2.2.1, t.2.2.2.1, ()) ())
  let x4 := (x3.ret : Int × Bool × Unit)
  let x5 := (((((F_civil (t.2.2.2.2.1, ()) ()).ret : (Int × Int × Int × Unit) × Bool × Unit).1).2).2).1
  let x6 := (L_plan_17 (k_plan (t, (), ()) (holidays, ())) (((), x4.2.1, (), (), (1 : Int), ()), holidays, t, (t, (), x5, x4.1, t.2.1, ((), ()), ()), ([] : List (Int × Int × Int × Bool × Unit)), ()))
  let x7 := (L_plan_17_1 (k_plan (t, (), ()) (holidays, ())) (((), x1, (), (), (1 : Int), ()), holidays, t, (t, (), x5, (0 : Int), t.2.1, ((), ()), ()), ([] : List (Int × Int × Int × Bool × Unit)), ()))
  let x8 := (L_plan_17_2 (k_plan (t, (), ()) (holidays, ())) (((), x1, (), (), (1 : Int), ()), holidays, t, (t, (), x5, (0 : Int), t.2.1, ((), ()), ()), ([] : List (Int × Int × Int × Bool × Unit)), ()))
  (bif (bif (!((F_valid (t, ()) ()).ret : Bool)) then true else decide (((holidays.length : Nat) : Int) > 64)) then ⟨x0, false, ((), false, ()), ((), ([] : List (Int × Int × Int × Bool × Unit)), ()), ()⟩ else (bif (!x1) then ⟨x2, false, ((), false, ()), ((), ([] : List (Int × Int × Int × Bool × Unit)), ()), ()⟩ else (bif (t.1 == 0) then ⟨((x2 && x3.ok) && x6.ok), x6.pan, x6.ret, x6.out, x6.pv⟩ else (bif (t.1 == 1) then ⟨(x2 && x7.ok), x7.pan, x7.ret, x7.out, x7.pv⟩ else ⟨(x2 && x8.ok), x8.pan, x8.ret, x8.out, x8.pv⟩)))) := by kernel_rfl
theorem L_plan_17_eq (k : Nat) (ok : Bool) (k_ : Int) (holidays : List Int) (t : T25) (p : (T25 × Unit × Int × Int × Int × (Unit × Unit) × Unit)) (plan : List T123) : L_plan_17 (k + 1) (((), ok, (), (), k_, ()), (holidays, t, p, plan, ())) =
  let x0 := (F_month (p.2.2.2.2.1, p.1.2.2.1, ()) ())
  let x1 := (x0.ret : Int × Bool × Unit)
  let x2 := (bif ok then (bif decide (p.2.2.2.2.1 > 0) then true else true) else true)
  let x3 := x0.ok
  let x4 := (L_plan_17 k (((), false, (), (), (IntKind.i64.wrap (k_ + 1)), ()), holidays, t, p, ([] : List (Int × Int × Int × Bool × Unit)), ()))
  let x5 := x4.ok
  let x6 := x4.pan
  let x7 := (x4.ret : Unit × Bool × Unit)
  let x8 := (x4.out : Unit × (List (Int × Int × Int × Bool × Unit)) × Unit)
  let x9 := (x4.pv : Unit)
  let x10 := x1.1
  let x11 := (x10 == 0)
  let x12 := (IntKind.i64.wrap (p.2.2.2.1 - x10))
  let x13 := (if (p.2.2.2.2.1 < x12) then p.2.2.2.2.1 else x12)
  let x14 := (x3 && true)
  let x15 := (bif x11 then x14 else x14)
  let x16 := (L_plan_17 k (((), true, (), (), (IntKind.i64.wrap (k_ + 1)), ()), holidays, t, p, plan, ()))
  let x17 := (F_addMonths (p.1.2.2.2.2.1, k_, p.2.2.1, ()) ())
  let x18 := (x17.ret : Int × Bool × Unit)
  let x19 := (!x18.2.1)
  let x20 := (F_adjust (x18.1, (), p.1.2.2.2.2.2) (holidays, ()))
  let x21 := (x20.ret : Int × Bool × Unit)
  let x22 := x17.ok
  let x23 := (bif x19 then (x15 && x22) else (x15 && (x22 && x20.ok)))
  let x24 := [((bif x19 then (0 : Int) else x21.1), x10, x13, false, ())]
  let x25 := (L_plan_17 k (((), true, (), (), (IntKind.i64.wrap (k_ + 1)), ()), holidays, t, (p.1, (), p.2.2.1, p.2.2.2.1, (IntKind.i64.wrap (p.2.2.2.2.1 - x13)), ((), ()), ()), (plan ++ x24), ()))
  (bif (bif ok then (bif decide (p.2.2.2.2.1 > 0) then decide (k_ ≤ t.2.2.2.1) else false) else false) then (bif (!x1.2.1) then ⟨((x2 && x3) && x5), x6, x7, x8, x9⟩ else (bif (bif x11 then (x13 == 0) else false) then ⟨((x2 && x15) && x16.ok), x16.pan, x16.ret, x16.out, x16.pv⟩ else (bif (!(bif x19 then false else x21.2.1)) then ⟨((x2 && x23) && x5), x6, x7, x8, x9⟩ else ⟨((x2 && (x23 && (Nat.ble ((plan.length + x24.length) * 32) 140737488355328))) && x25.ok), x25.pan, x25.ret, x25.out, x25.pv⟩))) else (bif (!ok) then ⟨x2, false, ((), false, ()), ((), ([] : List (Int × Int × Int × Bool × Unit)), ()), ()⟩ else ⟨x2, false, ((), true, ()), ((), plan, ()), ()⟩)) := by kernel_rfl
theorem L_plan_17_1_eq (k : Nat) (ok : Bool) (k_ : Int) (holidays : List Int) (t : T25) (p : (T25 × Unit × Int × Int × Int × (Unit × Unit) × Unit)) (plan : List T123) : L_plan_17_1 (k + 1) (((), ok, (), (), k_, ()), (holidays, t, p, plan, ())) =
  let x0 := (F_month (p.2.2.2.2.1, p.1.2.2.1, ()) ())
  let x1 := (x0.ret : Int × Bool × Unit)
  let x2 := (bif ok then (bif decide (p.2.2.2.2.1 > 0) then true else true) else true)
  let x3 := x0.ok
  let x4 := (L_plan_17_1 k (((), false, (), (), (IntKind.i64.wrap (k_ + 1)), ()), holidays, t, p, ([] : List (Int × Int × Int × Bool × Unit)), ()))
  let x5 := x4.ok
  let x6 := x4.pan
  let x7 := (x4.ret : Unit × Bool × Unit)
  let x8 := (x4.out : Unit × (List (Int × Int × Int × Bool × Unit)) × Unit)
  let x9 := (x4.pv : Unit)
  let x10 := x1.1
  let x11 := (x10 == 0)
  let x12 := decide (k_ ≤ (p.1.2.1.tmod p.1.2.2.2.1))
  let x13 := (IntKind.i64.wrap (p.1.2.1.tdiv p.1.2.2.2.1))
  let x14 := (bif x12 then (IntKind.i64.wrap (x13 + 1)) else x13)
  let x15 := ((p.1.2.2.2.1 != 0) && (p.1.2.2.2.1 != 0))
  let x16 := (x3 && (bif x12 then x15 else x15))
  let x17 := (bif x11 then x16 else x16)
  let x18 := (L_plan_17_1 k (((), true, (), (), (IntKind.i64.wrap (k_ + 1)), ()), holidays, t, p, plan, ()))
  let x19 := (F_addMonths (p.1.2.2.2.2.1, k_, p.2.2.1, ()) ())
  let x20 := (x19.ret : Int × Bool × Unit)
  let x21 := (!x20.2.1)
  let x22 := (F_adjust (x20.1, (), p.1.2.2.2.2.2) (holidays, ()))
  let x23 := (x22.ret : Int × Bool × Unit)
  let x24 := x19.ok
  let x25 := (bif x21 then (x17 && x24) else (x17 && (x24 && x22.ok)))
  let x26 := [((bif x21 then (0 : Int) else x23.1), x10, x14, false, ())]
  let x27 := (L_plan_17_1 k (((), true, (), (), (IntKind.i64.wrap (k_ + 1)), ()), holidays, t, (p.1, (), p.2.2.1, p.2.2.2.1, (IntKind.i64.wrap (p.2.2.2.2.1 - x14)), ((), ()), ()), (plan ++ x26), ()))
  (bif (bif ok then (bif decide (p.2.2.2.2.1 > 0) then decide (k_ ≤ t.2.2.2.1) else false) else false) then (bif (!x1.2.1) then ⟨((x2 && x3) && x5), x6, x7, x8, x9⟩ else (bif (bif x11 then (x14 == 0) else false) then ⟨((x2 && x17) && x18.ok), x18.pan, x18.ret, x18.out, x18.pv⟩ else (bif (!(bif x21 then false else x23.2.1)) then ⟨((x2 && x25) && x5), x6, x7, x8, x9⟩ else ⟨((x2 && (x25 && (Nat.ble ((plan.length + x26.length) * 32) 140737488355328))) && x27.ok), x27.pan, x27.ret, x27.out, x27.pv⟩))) else (bif (!ok) then ⟨x2, false, ((), false, ()), ((), ([] : List (Int × Int × Int × Bool × Unit)), ()), ()⟩ else ⟨x2, false, ((), true, ()), ((), plan, ()), ()⟩)) := by kernel_rfl
theorem L_plan_17_2_eq (k : Nat) (ok : Bool) (k_ : Int) (holidays : List Int) (t : T25) (p : (T25 × Unit × Int × Int × Int × (Unit × Unit) × Unit)) (plan : List T123) : L_plan_17_2 (k + 1) (((), ok, (), (), k_, ()), (holidays, t, p, plan, ())) =
  let x0 := (F_month (p.2.2.2.2.1, p.1.2.2.1, ()) ())
  let x1 := (x0.ret : Int × Bool × Unit)
  let x2 := (bif ok then (bif decide (p.2.2.2.2.1 > 0) then true else true) else true)
  let x3 := x0.ok
  let x4 := (L_plan_17_2 k (((), false, (), (), (IntKind.i64.wrap (k_ + 1)), ()), holidays, t, p, ([] : List (Int × Int × Int × Bool × Unit)), ()))
  let x5 := x4.ok
  let x6 := x4.pan
  let x7 := (x4.ret : Unit × Bool × Unit)
  let x8 := (x4.out : Unit × (List (Int × Int × Int × Bool × Unit)) × Unit)
  let x9 := (x4.pv : Unit)
  let x10 := x1.1
  let x11 := (x10 == 0)
  let x12 := (bif decide (k_ < p.1.2.2.2.1) then (0 : Int) else p.2.2.2.2.1)
  let x13 := (x3 && true)
  let x14 := (bif decide (k_ < p.1.2.2.2.1) then x13 else x13)
  let x15 := (bif x11 then x14 else x14)
  let x16 := (L_plan_17_2 k (((), true, (), (), (IntKind.i64.wrap (k_ + 1)), ()), holidays, t, p, plan, ()))
  let x17 := (F_addMonths (p.1.2.2.2.2.1, k_, p.2.2.1, ()) ())
  let x18 := (x17.ret : Int × Bool × Unit)
  let x19 := (!x18.2.1)
  let x20 := (F_adjust (x18.1, (), p.1.2.2.2.2.2) (holidays, ()))
  let x21 := (x20.ret : Int × Bool × Unit)
  let x22 := x17.ok
  let x23 := (bif x19 then (x15 && x22) else (x15 && (x22 && x20.ok)))
  let x24 := [((bif x19 then (0 : Int) else x21.1), x10, x12, false, ())]
  let x25 := (L_plan_17_2 k (((), true, (), (), (IntKind.i64.wrap (k_ + 1)), ()), holidays, t, (p.1, (), p.2.2.1, p.2.2.2.1, (IntKind.i64.wrap (p.2.2.2.2.1 - x12)), ((), ()), ()), (plan ++ x24), ()))
  (bif (bif ok then (bif decide (p.2.2.2.2.1 > 0) then decide (k_ ≤ t.2.2.2.1) else false) else false) then (bif (!x1.2.1) then ⟨((x2 && x3) && x5), x6, x7, x8, x9⟩ else (bif (bif x11 then (x12 == 0) else false) then ⟨((x2 && x15) && x16.ok), x16.pan, x16.ret, x16.out, x16.pv⟩ else (bif (!(bif x19 then false else x21.2.1)) then ⟨((x2 && x23) && x5), x6, x7, x8, x9⟩ else ⟨((x2 && (x23 && (Nat.ble ((plan.length + x24.length) * 32) 140737488355328))) && x25.ok), x25.pan, x25.ret, x25.out, x25.pv⟩))) else (bif (!ok) then ⟨x2, false, ((), false, ()), ((), ([] : List (Int × Int × Int × Bool × Unit)), ()), ()⟩ else ⟨x2, false, ((), true, ()), ((), plan, ()), ()⟩)) := by kernel_rfl
noncomputable def tbl25 : List (Ent TT) := ⟨38, g_plan, F_plan⟩ :: tbl24
theorem tbl25_ok : TblOK prog globs tbl25 := tbl_cons (by kernel_rfl) F_plan_ok tbl24_ok
noncomputable def C_days : Cx TT := cxB tbl25 Go.Proofs.Tryz.f123.ntmps [(6, s_days_6)] [] [] [] []
noncomputable def k_days (a : g_days.args.ty) (h : tysO TT g_days.hp) : Nat := h.1.length + 2
noncomputable def F_days : g_days.args.ty → tysO TT g_days.hp → Res TT g_days := fun a h => bodyG C_days g_days Go.Proofs.Tryz.f123 [] (k_days a h) a h
theorem F_days_ok : FOK prog globs 123 g_days F_days :=
  bodyG_sound (cx := C_days) mix (cxB_ok tbl25_ok _ _ _ _ _ _) (f := 123) (fn := Go.Proofs.Tryz.f123) (by kernel_rfl) (by kernel_rfl) (by kernel_rfl) (by kernel_rfl) _
noncomputable def L_days_6 (k : Nat) (v : s_days_6.ty TT) : Res TT g_days := loopG C_days g_days Go.Proofs.Tryz.f123 [] k (todoF Go.Proofs.Tryz.f123 6) (SS.st s_days_6 0 v)
theorem F_days_eq (p : T23) (p_0 : List Int) : F_days (p, ()) (p_0, ()) =
  (bif decide (((p_0.length : Nat) : Int) > 64) then ⟨true, false, false, ((), ()), ()⟩ else (L_days_6 (k_days (p, ()) (p_0, ())) (((0 : Int), (), ((p_0.length : Nat) : Int), (0 : Int), ()), p_0, ()))) := by kernel_rfl
theorem L_days_6_eq (k : Nat) (last : Int) (t12 : Int) (t13 : Int) (p_0 : List Int) : L_days_6 (k + 1) ((last, (), t12, t13, ()), (p_0, ())) =
  let x0 := ((decide (0 ≤ t13) && decide (t13 < ((p_0.length : Nat) : Int))) && (Nat.blt t13.toNat p_0.length))
  let x1 := (bif decide ((p_0.getD t13.toNat (0 : Int)) ≤ last) then x0 else x0)
  let x2 := (L_days_6 k (((p_0.getD t13.toNat (0 : Int)), (), t12, (IntKind.i64.wrap (t13 + 1)), ()), p_0, ()))
  (bif decide (t13 < t12) then (bif (bif decide ((p_0.getD t13.toNat (0 : Int)) ≤ last) then true else decide ((p_0.getD t13.toNat (0 : Int)) > 3652059)) then ⟨x1, false, false, ((), ()), ()⟩ else ⟨(x1 && x2.ok), x2.pan, x2.ret, x2.out, x2.pv⟩) else ⟨true, false, true, ((), ()), ()⟩) := by kernel_rfl
noncomputable def tbl26 : List (Ent TT) := ⟨123, g_days, F_days⟩ :: tbl25
theorem tbl26_ok : TblOK prog globs tbl26 := tbl_cons (by kernel_rfl) F_days_ok tbl25_ok
noncomputable def C_check : Cx TT := cxB tbl26 Go.Proofs.Tryz.f18.ntmps [] [] [] [9] []
noncomputable def k_check (a : g_check.args.ty) (h : tysO TT g_check.hp) : Nat := 0
noncomputable def F_check : g_check.args.ty → tysO TT g_check.hp → Res TT g_check := fun a h => bodyG C_check g_check Go.Proofs.Tryz.f18 [3] (k_check a h + 19) a h
theorem F_check_ok : FOK prog globs 18 g_check F_check :=
  bodyG_sound (cx := C_check) mix (cxB_ok tbl26_ok _ _ _ _ _ _) (f := 18) (fn := Go.Proofs.Tryz.f18) (by kernel_rfl) (by kernel_rfl) (by kernel_rfl) (by kernel_rfl) _
theorem F_check_eq (p : T23) (p_0 : List Int) : F_check (p, ()) (p_0, ()) =
  let x0 := ((bif decide (p.1 ≥ 1) then true else true) && (bif decide (p.2.1 ≥ 0) then true else true))
  let x1 := decide (p.2.2.1 ≥ (IntKind.i64.wrap (p.2.1 + 1)))
  let x2 := (x0 && (bif x1 then true else true))
  let x3 := (IntKind.i64.wrap ((IntKind.i64.wrap ((IntKind.i64.wrap ((0 : Int) + (1 : Int))) + 1)) + 1))
  let x4 := (x2 && (bif decide (p.2.2.2.1 ≥ 1) then true else true))
  let x5 := (IntKind.i64.wrap (x3 + 1))
  let x6 := (x4 && (bif decide (p.2.2.2.2.1 ≥ 0) then true else true))
  let x7 := (IntKind.i64.wrap (x5 + 1))
  let x8 := (x6 && (bif decide (p.2.2.2.2.2.1 ≥ 0) then true else true))
  let x9 := (IntKind.i64.wrap (x7 + 1))
  let x10 := decide (p.2.2.2.2.2.2.1 ≥ p.2.2.2.2.2.1)
  let x11 := (x8 && (bif x10 then true else true))
  let x12 := (IntKind.i64.wrap (x9 + 1))
  let x13 := decide (p.2.2.2.2.2.2.2.1 ≥ 0)
  let x14 := (x11 && (bif x13 then true else true))
  let x15 := (IntKind.i64.wrap (x12 + 1))
  let x16 := decide (p.2.2.2.2.2.2.2.2.1 ≥ 0)
  let x17 := (x14 && (bif x16 then true else true))
  let x18 := (IntKind.i64.wrap (x15 + 1))
  let x19 := decide (p.2.2.2.2.2.2.2.2.2.1 ≥ 0)
  let x20 := (x17 && (bif x19 then true else true))
  let x21 := (IntKind.i64.wrap (x18 + 1))
  let x22 := p.2.2.2.2.2.2.2.2.2.2.1
  let x23 := decide (x22 ≥ 1)
  let x24 := (x20 && (bif x23 then true else true))
  let x25 := (IntKind.i64.wrap (x21 + 1))
  let x26 := p.2.2.2.2.2.2.2.2.2.2.2
  let x27 := x26.1
  let x28 := decide (x27 ≥ 0)
  let x29 := (x24 && (bif x28 then true else true))
  let x30 := (IntKind.i64.wrap (x25 + 1))
  let x31 := x26.2
  let x32 := x31.1
  let x33 := decide (x32 ≥ 0)
  let x34 := (x29 && (bif x33 then true else true))
  let x35 := (IntKind.i64.wrap (x30 + 1))
  let x36 := x31.2
  let x37 := x36.1
  let x38 := decide (x37 ≥ 0)
  let x39 := (x34 && (bif x38 then true else true))
  let x40 := (IntKind.i64.wrap (x35 + 1))
  let x41 := x36.2
  let x42 := x41.1
  let x43 := decide (x42 ≥ 1)
  let x44 := (x39 && (bif x43 then true else true))
  let x45 := (IntKind.i64.wrap (x40 + 1))
  let x46 := x41.2
  let x47 := x46.1
  let x48 := decide (x47 ≥ x42)
  let x49 := (x44 && (bif x48 then true else true))
  let x50 := (IntKind.i64.wrap (x45 + 1))
  let x51 := x46.2.1
  let x52 := decide (x51 ≥ 0)
  let x53 := (x49 && (bif x52 then true else true))
  let x54 := (IntKind.i64.wrap (x50 + 1))
  let x55 := (x53 && (F_days (p, ()) (p_0, ())).ok)
  (bif (!(bif decide (p.1 ≥ 1) then decide (p.1 ≤ 3652059) else false)) then ⟨(bif decide (p.1 ≥ 1) then true else true), false, ((120 : Int), (IntKind.i64.wrap ((0 : Int) + (1 : Int))), ()), ((), ()), ()⟩ else (bif (!(bif decide (p.2.1 ≥ 0) then decide (p.2.1 ≤ 30) else false)) then ⟨x0, false, ((120 : Int), (IntKind.i64.wrap ((IntKind.i64.wrap ((0 : Int) + (1 : Int))) + 1)), ()), ((), ()), ()⟩ else (bif (!(bif x1 then decide (p.2.2.1 ≤ 365) else false)) then ⟨x2, false, ((120 : Int), x3, ()), ((), ()), ()⟩ else (bif (!(bif decide (p.2.2.2.1 ≥ 1) then decide (p.2.2.2.1 ≤ 365) else false)) then ⟨x4, false, ((120 : Int), x5, ()), ((), ()), ()⟩ else (bif (!(bif decide (p.2.2.2.2.1 ≥ 0) then decide (p.2.2.2.2.1 ≤ 10000) else false)) then ⟨x6, false, ((120 : Int), x7, ()), ((), ()), ()⟩ else (bif (!(bif decide (p.2.2.2.2.2.1 ≥ 0) then decide (p.2.2.2.2.2.1 ≤ 1000000000) else false)) then ⟨x8, false, ((120 : Int), x9, ()), ((), ()), ()⟩ else (bif (!(bif x10 then decide (p.2.2.2.2.2.2.1 ≤ 1000000000) else false)) then ⟨x11, false, ((120 : Int), x12, ()), ((), ()), ()⟩ else (bif (!(bif x13 then decide (p.2.2.2.2.2.2.2.1 ≤ 1000000000) else false)) then ⟨x14, false, ((120 : Int), x15, ()), ((), ()), ()⟩ else (bif (!(bif x16 then decide (p.2.2.2.2.2.2.2.2.1 ≤ 1000000000) else false)) then ⟨x17, false, ((120 : Int), x18, ()), ((), ()), ()⟩ else (bif (!(bif x19 then decide (p.2.2.2.2.2.2.2.2.2.1 ≤ 8) else false)) then ⟨x20, false, ((120 : Int), x21, ()), ((), ()), ()⟩ else (bif (!(bif x23 then decide (x22 ≤ 60) else false)) then ⟨x24, false, ((120 : Int), x25, ()), ((), ()), ()⟩ else (bif (!(bif x28 then decide (x27 ≤ 4) else false)) then ⟨x29, false, ((120 : Int), x30, ()), ((), ()), ()⟩ else (bif (!(bif x33 then decide (x32 ≤ 5) else false)) then ⟨x34, false, ((120 : Int), x35, ()), ((), ()), ()⟩ else (bif (!(bif x38 then decide (x37 ≤ 3) else false)) then ⟨x39, false, ((120 : Int), x40, ()), ((), ()), ()⟩ else (bif (!(bif x43 then decide (x42 ≤ 64) else false)) then ⟨x44, false, ((120 : Int), x45, ()), ((), ()), ()⟩ else (bif (!(bif x48 then decide (x47 ≤ 64) else false)) then ⟨x49, false, ((120 : Int), x50, ()), ((), ()), ()⟩ else (bif (!(bif x52 then decide (x51 ≤ 1000) else false)) then ⟨x53, false, ((120 : Int), x54, ()), ((), ()), ()⟩ else (bif (!((F_days (p, ()) (p_0, ())).ret : Bool)) then ⟨x55, false, ((120 : Int), (IntKind.i64.wrap (x54 + 1)), ()), ((), ()), ()⟩ else ⟨x55, false, ((0 : Int), (0 : Int), ()), ((), ()), ()⟩)))))))))))))))))) := by kernel_rfl
noncomputable def tbl27 : List (Ent TT) := ⟨18, g_check, F_check⟩ :: tbl26
theorem tbl27_ok : TblOK prog globs tbl27 := tbl_cons (by kernel_rfl) F_check_ok tbl26_ok
end Go.Proofs.YtlflclfhldghbaaGreatDoor.Fs
end
section
set_option maxRecDepth 100000
namespace Go.Proofs.YtlflclfhldghbaaGreatDoor.Fs
open Go Go.Proofs.YtlflclfhldghbaaGreatDoor.Ls
noncomputable def C_post : Cx TT := cxB tbl27 Go.Proofs.Tryz.f79.ntmps [(9, s_post_9)] [] [] [22, 66, 89] []
noncomputable def k_post (a : g_post.args.ty) (h : tysO TT g_post.hp) : Nat := h.1.length + 100
noncomputable def F_post : g_post.args.ty → tysO TT g_post.hp → Res TT g_post := fun a h => bodyG C_post g_post Go.Proofs.Tryz.f79 [4, 19, 27] (k_post a h + 40) a h
theorem F_post_ok : FOK prog globs 79 g_post F_post :=
  bodyG_sound (cx := C_post) mix (cxB_ok tbl27_ok _ _ _ _ _ _) (f := 79) (fn := Go.Proofs.Tryz.f79) (by kernel_rfl) (by kernel_rfl) (by kernel_rfl) (by kernel_rfl) _
noncomputable def L_post_9 (k : Nat) (v : s_post_9.ty TT) : Res TT g_post := loopG C_post g_post Go.Proofs.Tryz.f79 [4, 19, 27] k (todoF Go.Proofs.Tryz.f79 9) (SS.st s_post_9 0 v)
theorem F_post_eq (b : T30) (entries : List T93) : F_post (b, (), ()) (entries, ()) =
  let x0 := b.1.2.2.2.2.2.2.2.2.2.2
  let x1 := [b.1.1, b.1.2.1, b.1.2.2.1, b.1.2.2.2.1, b.1.2.2.2.2.1, b.1.2.2.2.2.2.1, b.1.2.2.2.2.2.2.1, b.1.2.2.2.2.2.2.2.1, b.1.2.2.2.2.2.2.2.2.1, b.1.2.2.2.2.2.2.2.2.2.1, x0.1, x0.2.1]
  let x2 := [((0 : Int), (0 : Int), ()), ((0 : Int), (0 : Int), ()), ((0 : Int), (0 : Int), ()), ((0 : Int), (0 : Int), ()), ((0 : Int), (0 : Int), ()), ((0 : Int), (0 : Int), ()), ((0 : Int), (0 : Int), ()), ((0 : Int), (0 : Int), ()), ((0 : Int), (0 : Int), ()), ((0 : Int), (0 : Int), ()), ((0 : Int), (0 : Int), ()), ((0 : Int), (0 : Int), ())]
  let x3 := (x1.getD 0 (0 : Int))
  let x4 := (((0 : Int).toNat + (IntKind.u64.wrap x3).toNat) + (0 : Int).toNat)
  let x5 := (x2.set ((0 : Int).toNat) ((IntKind.i64.wrap ((IntKind.i64.wrap (0 + (x3.fdiv (2 ^ (min ((63 : Int).toNat) 64))))) + (IntKind.i64.wrap (((x4 / 18446744073709551616) : Nat) : Int)))), (((x4 % 18446744073709551616) : Nat) : Int), ()))
  let x6 := (x1.getD 1 (0 : Int))
  let x7 := (((0 : Int).toNat + (IntKind.u64.wrap x6).toNat) + (0 : Int).toNat)
  let x8 := (x5.set ((IntKind.i64.wrap ((0 : Int) + (1 : Int))).toNat) ((IntKind.i64.wrap ((IntKind.i64.wrap (0 + (x6.fdiv (2 ^ (min ((63 : Int).toNat) 64))))) + (IntKind.i64.wrap (((x7 / 18446744073709551616) : Nat) : Int)))), (((x7 % 18446744073709551616) : Nat) : Int), ()))
  let x9 := (IntKind.i64.wrap ((IntKind.i64.wrap ((IntKind.i64.wrap ((0 : Int) + (1 : Int))) + 1)) + 1))
  let x10 := x9.toNat
  let x11 := (x1.getD 2 (0 : Int))
  let x12 := (((0 : Int).toNat + (IntKind.u64.wrap x11).toNat) + (0 : Int).toNat)
  let x13 := (x8.set ((IntKind.i64.wrap ((IntKind.i64.wrap ((0 : Int) + (1 : Int))) + 1)).toNat) ((IntKind.i64.wrap ((IntKind.i64.wrap (0 + (x11.fdiv (2 ^ (min ((63 : Int).toNat) 64))))) + (IntKind.i64.wrap (((x12 / 18446744073709551616) : Nat) : Int)))), (((x12 % 18446744073709551616) : Nat) : Int), ()))
  let x14 := (IntKind.i64.wrap (x9 + 1))
  let x15 := x14.toNat
  let x16 := (x1.getD 3 (0 : Int))
  let x17 := (((0 : Int).toNat + (IntKind.u64.wrap x16).toNat) + (0 : Int).toNat)
  let x18 := (x13.set x10 ((IntKind.i64.wrap ((IntKind.i64.wrap (0 + (x16.fdiv (2 ^ (min ((63 : Int).toNat) 64))))) + (IntKind.i64.wrap (((x17 / 18446744073709551616) : Nat) : Int)))), (((x17 % 18446744073709551616) : Nat) : Int), ()))
  let x19 := (IntKind.i64.wrap (x14 + 1))
  let x20 := x19.toNat
  let x21 := (x1.getD 4 (0 : Int))
  let x22 := (((0 : Int).toNat + (IntKind.u64.wrap x21).toNat) + (0 : Int).toNat)
  let x23 := (x18.set x15 ((IntKind.i64.wrap ((IntKind.i64.wrap (0 + (x21.fdiv (2 ^ (min ((63 : Int).toNat) 64))))) + (IntKind.i64.wrap (((x22 / 18446744073709551616) : Nat) : Int)))), (((x22 % 18446744073709551616) : Nat) : Int), ()))
  let x24 := (IntKind.i64.wrap (x19 + 1))
  let x25 := x24.toNat
  let x26 := (x1.getD 5 (0 : Int))
  let x27 := (((0 : Int).toNat + (IntKind.u64.wrap x26).toNat) + (0 : Int).toNat)
  let x28 := (x23.set x20 ((IntKind.i64.wrap ((IntKind.i64.wrap (0 + (x26.fdiv (2 ^ (min ((63 : Int).toNat) 64))))) + (IntKind.i64.wrap (((x27 / 18446744073709551616) : Nat) : Int)))), (((x27 % 18446744073709551616) : Nat) : Int), ()))
  let x29 := (IntKind.i64.wrap (x24 + 1))
  let x30 := x29.toNat
  let x31 := (x1.getD 6 (0 : Int))
  let x32 := (((0 : Int).toNat + (IntKind.u64.wrap x31).toNat) + (0 : Int).toNat)
  let x33 := (x28.set x25 ((IntKind.i64.wrap ((IntKind.i64.wrap (0 + (x31.fdiv (2 ^ (min ((63 : Int).toNat) 64))))) + (IntKind.i64.wrap (((x32 / 18446744073709551616) : Nat) : Int)))), (((x32 % 18446744073709551616) : Nat) : Int), ()))
  let x34 := (IntKind.i64.wrap (x29 + 1))
  let x35 := x34.toNat
  let x36 := (x1.getD 7 (0 : Int))
  let x37 := (((0 : Int).toNat + (IntKind.u64.wrap x36).toNat) + (0 : Int).toNat)
  let x38 := (x33.set x30 ((IntKind.i64.wrap ((IntKind.i64.wrap (0 + (x36.fdiv (2 ^ (min ((63 : Int).toNat) 64))))) + (IntKind.i64.wrap (((x37 / 18446744073709551616) : Nat) : Int)))), (((x37 % 18446744073709551616) : Nat) : Int), ()))
  let x39 := (IntKind.i64.wrap (x34 + 1))
  let x40 := x39.toNat
  let x41 := (x1.getD 8 (0 : Int))
  let x42 := (((0 : Int).toNat + (IntKind.u64.wrap x41).toNat) + (0 : Int).toNat)
  let x43 := (x38.set x35 ((IntKind.i64.wrap ((IntKind.i64.wrap (0 + (x41.fdiv (2 ^ (min ((63 : Int).toNat) 64))))) + (IntKind.i64.wrap (((x42 / 18446744073709551616) : Nat) : Int)))), (((x42 % 18446744073709551616) : Nat) : Int), ()))
  let x44 := (IntKind.i64.wrap (x39 + 1))
  let x45 := x44.toNat
  let x46 := (x1.getD 9 (0 : Int))
  let x47 := (((0 : Int).toNat + (IntKind.u64.wrap x46).toNat) + (0 : Int).toNat)
  let x48 := (x43.set x40 ((IntKind.i64.wrap ((IntKind.i64.wrap (0 + (x46.fdiv (2 ^ (min ((63 : Int).toNat) 64))))) + (IntKind.i64.wrap (((x47 / 18446744073709551616) : Nat) : Int)))), (((x47 % 18446744073709551616) : Nat) : Int), ()))
  let x49 := (IntKind.i64.wrap (x44 + 1))
  let x50 := x49.toNat
  let x51 := (x1.getD 10 (0 : Int))
  let x52 := (((0 : Int).toNat + (IntKind.u64.wrap x51).toNat) + (0 : Int).toNat)
  let x53 := (x48.set x45 ((IntKind.i64.wrap ((IntKind.i64.wrap (0 + (x51.fdiv (2 ^ (min ((63 : Int).toNat) 64))))) + (IntKind.i64.wrap (((x52 / 18446744073709551616) : Nat) : Int)))), (((x52 % 18446744073709551616) : Nat) : Int), ()))
  let x54 := (x1.getD 11 (0 : Int))
  let x55 := (((0 : Int).toNat + (IntKind.u64.wrap x54).toNat) + (0 : Int).toNat)
  let x56 := (L_post_9 ((((((((((((((((((((((((((((k_post (b, (), ()) (entries, ())) + 1) + 1) + 1) + 1) + 1) + 1) + 1) + 1) + 1) + 1) + 1) + 1) + 1) + 1) + 1) + 1) + 1) + 1) + 1) + 1) + 1) + 1) + 1) + 1) + 1) + 1) + 1) (((), (), (), (), ((entries.length : Nat) : Int), (0 : Int), ()), entries, x1, [(0 : Int), (0 : Int), (0 : Int), (0 : Int), (0 : Int), (0 : Int), (0 : Int), (0 : Int), (0 : Int), (0 : Int), (0 : Int), (0 : Int)], (x53.set x50 ((IntKind.i64.wrap ((IntKind.i64.wrap (0 + (x54.fdiv (2 ^ (min ((63 : Int).toNat) 64))))) + (IntKind.i64.wrap (((x55 / 18446744073709551616) : Nat) : Int)))), (((x55 % 18446744073709551616) : Nat) : Int), ())), ()))
  ⟨((((((((((((((((((((((((((((((((((((((Nat.beq x1.length (12 / 1)) && (Nat.ble ((0 : Int).toNat) ((instOfNatNat 1).ofNat))) && (decide ((0 : Int) ≤ (0 : Int)) && decide (0 < ((12 : Nat) : Int)))) && (Nat.blt ((0 : Int).toNat) x2.length)) && (Nat.ble ((0 : Int).toNat) ((instOfNatNat 1).ofNat))) && (decide (0 ≤ (IntKind.i64.wrap ((0 : Int) + (1 : Int)))) && decide ((IntKind.i64.wrap ((0 : Int) + (1 : Int))) < ((12 : Nat) : Int)))) && (Nat.blt ((IntKind.i64.wrap ((0 : Int) + (1 : Int))).toNat) x5.length)) && (Nat.ble ((0 : Int).toNat) ((instOfNatNat 1).ofNat))) && (decide (0 ≤ (IntKind.i64.wrap ((IntKind.i64.wrap ((0 : Int) + (1 : Int))) + 1))) && decide ((IntKind.i64.wrap ((IntKind.i64.wrap ((0 : Int) + (1 : Int))) + 1)) < ((12 : Nat) : Int)))) && (Nat.blt ((IntKind.i64.wrap ((IntKind.i64.wrap ((0 : Int) + (1 : Int))) + 1)).toNat) x8.length)) && (Nat.ble ((0 : Int).toNat) ((instOfNatNat 1).ofNat))) && (decide (0 ≤ x9) && decide (x9 < ((12 : Nat) : Int)))) && (Nat.blt x10 x13.length)) && (Nat.ble ((0 : Int).toNat) ((instOfNatNat 1).ofNat))) && (decide (0 ≤ x14) && decide (x14 < ((12 : Nat) : Int)))) && (Nat.blt x15 x18.length)) && (Nat.ble ((0 : Int).toNat) ((instOfNatNat 1).ofNat))) && (decide (0 ≤ x19) && decide (x19 < ((12 : Nat) : Int)))) && (Nat.blt x20 x23.length)) && (Nat.ble ((0 : Int).toNat) ((instOfNatNat 1).ofNat))) && (decide (0 ≤ x24) && decide (x24 < ((12 : Nat) : Int)))) && (Nat.blt x25 x28.length)) && (Nat.ble ((0 : Int).toNat) ((instOfNatNat 1).ofNat))) && (decide (0 ≤ x29) && decide (x29 < ((12 : Nat) : Int)))) && (Nat.blt x30 x33.length)) && (Nat.ble ((0 : Int).toNat) ((instOfNatNat 1).ofNat))) && (decide (0 ≤ x34) && decide (x34 < ((12 : Nat) : Int)))) && (Nat.blt x35 x38.length)) && (Nat.ble ((0 : Int).toNat) ((instOfNatNat 1).ofNat))) && (decide (0 ≤ x39) && decide (x39 < ((12 : Nat) : Int)))) && (Nat.blt x40 x43.length)) && (Nat.ble ((0 : Int).toNat) ((instOfNatNat 1).ofNat))) && (decide (0 ≤ x44) && decide (x44 < ((12 : Nat) : Int)))) && (Nat.blt x45 x48.length)) && (Nat.ble ((0 : Int).toNat) ((instOfNatNat 1).ofNat))) && (decide (0 ≤ x49) && decide (x49 < ((12 : Nat) : Int)))) && (Nat.blt x50 x53.length)) && x56.ok), x56.pan, x56.ret, x56.out, x56.pv⟩ := by kernel_rfl
theorem L_post_9_eq (k : Nat) (t32 : Int) (t33 : Int) (entries : List T93) (b_r : List Int) (t4_r : List Int) (nets_r : List T193) : L_post_9 ((k + 40) + 1) (((), (), (), (), t32, t33, ()), (entries, b_r, t4_r, nets_r, ())) =
  let x0 := (entries.getD t33.toNat ((0 : Int), (0 : Int), (0 : Int), ())).1
  let x1 := decide (x0 < 0)
  let x2 := decide (x0 ≥ 12)
  let x3 := (entries.getD t33.toNat ((0 : Int), (0 : Int), (0 : Int), ())).2
  let x4 := x3.1
  let x5 := decide (x4 < 0)
  let x6 := decide (x4 ≥ 12)
  let x7 := (bif x1 then true else (bif x2 then true else (bif x5 then true else (bif x6 then true else (x0 == x4)))))
  let x8 := x3.2.1
  let x9 := decide (x8 < 1)
  let x10 := (bif x7 then (80 : Int) else (bif x9 then (4 : Int) else (0 : Int)))
  let x11 := (((decide (0 ≤ t33) && decide (t33 < ((entries.length : Nat) : Int))) && (Nat.blt t33.toNat entries.length)) && (bif x1 then true else (bif x2 then true else (bif x5 then true else (bif x6 then true else true)))))
  let x12 := (bif x7 then x11 else (bif x9 then x11 else x11))
  let x13 := [(b_r.getD 0 (0 : Int)), (b_r.getD 1 (0 : Int)), (b_r.getD 2 (0 : Int)), (b_r.getD 3 (0 : Int)), (b_r.getD 4 (0 : Int)), (b_r.getD 5 (0 : Int)), (b_r.getD 6 (0 : Int)), (b_r.getD 7 (0 : Int)), (b_r.getD 8 (0 : Int)), (b_r.getD 9 (0 : Int)), (b_r.getD 10 (0 : Int)), (b_r.getD 11 (0 : Int))]
  let x14 := x13.length
  let x15 := (Nat.beq t4_r.length x14)
  let x16 := (Nat.beq x14 (12 / 1))
  let x17 := (decide (0 ≤ x0) && decide (x0 < ((12 : Nat) : Int)))
  let x18 := x0.toNat
  let x19 := (Nat.blt x18 nets_r.length)
  let x20 := (decide (0 ≤ x4) && decide (x4 < ((12 : Nat) : Int)))
  let x21 := x4.toNat
  let x22 := (nets_r.getD x18 ((0 : Int), (0 : Int), ()))
  let x23 := (x8.fdiv (2 ^ (min ((63 : Int).toNat) 64)))
  let x24 := (IntKind.u64.wrap x8).toNat
  let x25 := ((x22.2.1.toNat + x24) + (0 : Int).toNat)
  let x26 := (nets_r.set x18 ((IntKind.i64.wrap ((IntKind.i64.wrap (x22.1 + x23)) + (IntKind.i64.wrap (((x25 / 18446744073709551616) : Nat) : Int)))), (((x25 % 18446744073709551616) : Nat) : Int), ()))
  let x27 := (Nat.blt x21 x26.length)
  let x28 := (x26.getD x21 ((0 : Int), (0 : Int), ()))
  let x29 := x28.2.1.toNat
  let x30 := (L_post_9 (k + 40) (((), (), (), (), t32, (IntKind.i64.wrap (t33 + 1)), ()), entries, b_r, t4_r, (x26.set x21 ((IntKind.i64.wrap ((IntKind.i64.wrap (x28.1 - x23)) - (IntKind.i64.wrap (((bif (Nat.blt x29 (x24 + (0 : Int).toNat)) then 1 else 0) : Nat) : Int)))), ((((((x29 + 18446744073709551616) - x24) - (0 : Int).toNat) % 18446744073709551616) : Nat) : Int), ())), ()))
  let x31 := (IntKind.i64.wrap (((nets_r.getD 0 ((0 : Int), (0 : Int), ())).2).1))
  let x32 := (!((nets_r.getD 0 ((0 : Int), (0 : Int), ())).1 == (x31.fdiv (2 ^ (min ((63 : Int).toNat) 64)))))
  let x33 := ((Nat.beq nets_r.length (24 / (1 + (1 + 0)))) && true)
  let x34 := (bif x32 then x33 else x33)
  let x35 := (IntKind.i64.wrap (((nets_r.getD 1 ((0 : Int), (0 : Int), ())).2).1))
  let x36 := (!((nets_r.getD 1 ((0 : Int), (0 : Int), ())).1 == (x35.fdiv (2 ^ (min ((63 : Int).toNat) 64)))))
  let x37 := [(0 : Int), (0 : Int), (0 : Int), (0 : Int), (0 : Int), (0 : Int), (0 : Int), (0 : Int), (0 : Int), (0 : Int), (0 : Int), (0 : Int)]
  let x38 := (((x34 && (decide ((0 : Int) ≤ (0 : Int)) && decide (0 < ((12 : Nat) : Int)))) && (Nat.blt ((0 : Int).toNat) x37.length)) && true)
  let x39 := (bif x36 then x38 else x38)
  let x40 := (IntKind.i64.wrap (((nets_r.getD 2 ((0 : Int), (0 : Int), ())).2).1))
  let x41 := (!((nets_r.getD 2 ((0 : Int), (0 : Int), ())).1 == (x40.fdiv (2 ^ (min ((63 : Int).toNat) 64)))))
  let x42 := (decide (0 ≤ (IntKind.i64.wrap ((0 : Int) + (1 : Int)))) && decide ((IntKind.i64.wrap ((0 : Int) + (1 : Int))) < ((12 : Nat) : Int)))
  let x43 := (x37.set ((0 : Int).toNat) x31)
  let x44 := (((x39 && x42) && (Nat.blt ((IntKind.i64.wrap ((0 : Int) + (1 : Int))).toNat) x43.length)) && true)
  let x45 := (bif x41 then x44 else x44)
  let x46 := (IntKind.i64.wrap (((nets_r.getD 3 ((0 : Int), (0 : Int), ())).2).1))
  let x47 := (!((nets_r.getD 3 ((0 : Int), (0 : Int), ())).1 == (x46.fdiv (2 ^ (min ((63 : Int).toNat) 64)))))
  let x48 := (decide (0 ≤ (IntKind.i64.wrap ((IntKind.i64.wrap ((0 : Int) + (1 : Int))) + 1))) && decide ((IntKind.i64.wrap ((IntKind.i64.wrap ((0 : Int) + (1 : Int))) + 1)) < ((12 : Nat) : Int)))
  let x49 := (x43.set ((IntKind.i64.wrap ((0 : Int) + (1 : Int))).toNat) x35)
  let x50 := (((x45 && x48) && (Nat.blt ((IntKind.i64.wrap ((IntKind.i64.wrap ((0 : Int) + (1 : Int))) + 1)).toNat) x49.length)) && true)
  let x51 := (bif x47 then x50 else x50)
  let x52 := (IntKind.i64.wrap (((nets_r.getD 4 ((0 : Int), (0 : Int), ())).2).1))
  let x53 := (!((nets_r.getD 4 ((0 : Int), (0 : Int), ())).1 == (x52.fdiv (2 ^ (min ((63 : Int).toNat) 64)))))
  let x54 := (IntKind.i64.wrap ((IntKind.i64.wrap ((IntKind.i64.wrap ((0 : Int) + (1 : Int))) + 1)) + 1))
  let x55 := (decide (0 ≤ x54) && decide (x54 < ((12 : Nat) : Int)))
  let x56 := x54.toNat
  let x57 := (x49.set ((IntKind.i64.wrap ((IntKind.i64.wrap ((0 : Int) + (1 : Int))) + 1)).toNat) x40)
  let x58 := (((x51 && x55) && (Nat.blt x56 x57.length)) && true)
  let x59 := (bif x53 then x58 else x58)
  let x60 := (IntKind.i64.wrap (((nets_r.getD 5 ((0 : Int), (0 : Int), ())).2).1))
  let x61 := (!((nets_r.getD 5 ((0 : Int), (0 : Int), ())).1 == (x60.fdiv (2 ^ (min ((63 : Int).toNat) 64)))))
  let x62 := (IntKind.i64.wrap (x54 + 1))
  let x63 := (decide (0 ≤ x62) && decide (x62 < ((12 : Nat) : Int)))
  let x64 := x62.toNat
  let x65 := (x57.set x56 x46)
  let x66 := (((x59 && x63) && (Nat.blt x64 x65.length)) && true)
  let x67 := (bif x61 then x66 else x66)
  let x68 := (IntKind.i64.wrap (((nets_r.getD 6 ((0 : Int), (0 : Int), ())).2).1))
  let x69 := (!((nets_r.getD 6 ((0 : Int), (0 : Int), ())).1 == (x68.fdiv (2 ^ (min ((63 : Int).toNat) 64)))))
  let x70 := (IntKind.i64.wrap (x62 + 1))
  let x71 := (decide (0 ≤ x70) && decide (x70 < ((12 : Nat) : Int)))
  let x72 := x70.toNat
  let x73 := (x65.set x64 x52)
  let x74 := (((x67 && x71) && (Nat.blt x72 x73.length)) && true)
  let x75 := (bif x69 then x74 else x74)
  let x76 := (IntKind.i64.wrap (((nets_r.getD 7 ((0 : Int), (0 : Int), ())).2).1))
  let x77 := (!((nets_r.getD 7 ((0 : Int), (0 : Int), ())).1 == (x76.fdiv (2 ^ (min ((63 : Int).toNat) 64)))))
  let x78 := (IntKind.i64.wrap (x70 + 1))
  let x79 := (decide (0 ≤ x78) && decide (x78 < ((12 : Nat) : Int)))
  let x80 := x78.toNat
  let x81 := (x73.set x72 x60)
  let x82 := (((x75 && x79) && (Nat.blt x80 x81.length)) && true)
  let x83 := (bif x77 then x82 else x82)
  let x84 := (IntKind.i64.wrap (((nets_r.getD 8 ((0 : Int), (0 : Int), ())).2).1))
  let x85 := (!((nets_r.getD 8 ((0 : Int), (0 : Int), ())).1 == (x84.fdiv (2 ^ (min ((63 : Int).toNat) 64)))))
  let x86 := (IntKind.i64.wrap (x78 + 1))
  let x87 := (decide (0 ≤ x86) && decide (x86 < ((12 : Nat) : Int)))
  let x88 := x86.toNat
  let x89 := (x81.set x80 x68)
  let x90 := (((x83 && x87) && (Nat.blt x88 x89.length)) && true)
  let x91 := (bif x85 then x90 else x90)
  let x92 := (IntKind.i64.wrap (((nets_r.getD 9 ((0 : Int), (0 : Int), ())).2).1))
  let x93 := (!((nets_r.getD 9 ((0 : Int), (0 : Int), ())).1 == (x92.fdiv (2 ^ (min ((63 : Int).toNat) 64)))))
  let x94 := (IntKind.i64.wrap (x86 + 1))
  let x95 := (decide (0 ≤ x94) && decide (x94 < ((12 : Nat) : Int)))
  let x96 := x94.toNat
  let x97 := (x89.set x88 x76)
  let x98 := (((x91 && x95) && (Nat.blt x96 x97.length)) && true)
  let x99 := (bif x93 then x98 else x98)
  let x100 := (IntKind.i64.wrap (((nets_r.getD 10 ((0 : Int), (0 : Int), ())).2).1))
  let x101 := (!((nets_r.getD 10 ((0 : Int), (0 : Int), ())).1 == (x100.fdiv (2 ^ (min ((63 : Int).toNat) 64)))))
  let x102 := (IntKind.i64.wrap (x94 + 1))
  let x103 := (decide (0 ≤ x102) && decide (x102 < ((12 : Nat) : Int)))
  let x104 := x102.toNat
  let x105 := (x97.set x96 x84)
  let x106 := (((x99 && x103) && (Nat.blt x104 x105.length)) && true)
  let x107 := (bif x101 then x106 else x106)
  let x108 := (IntKind.i64.wrap (((nets_r.getD 11 ((0 : Int), (0 : Int), ())).2).1))
  let x109 := (!((nets_r.getD 11 ((0 : Int), (0 : Int), ())).1 == (x108.fdiv (2 ^ (min ((63 : Int).toNat) 64)))))
  let x110 := (IntKind.i64.wrap (x102 + 1))
  let x111 := (decide (0 ≤ x110) && decide (x110 < ((12 : Nat) : Int)))
  let x112 := x110.toNat
  let x113 := (x105.set x104 x92)
  let x114 := (((x107 && x111) && (Nat.blt x112 x113.length)) && true)
  let x115 := (bif x109 then x114 else x114)
  let x116 := (x113.set x112 x100)
  let x117 := (IntKind.i64.wrap (x110 + 1))
  let x118 := x117.toNat
  let x119 := (x116.set x118 x108)
  let x120 := (x119.getD 0 (0 : Int))
  let x121 := decide (x120 < 0)
  let x122 := decide (x120 > 0)
  let x123 := [(1 : Int), (1 : Int), (1 : Int), (1 : Int), (-1 : Int), (-1 : Int), (-1 : Int), (-1 : Int), (-1 : Int), (1 : Int), (-1 : Int), (1 : Int)]
  let x124 := (decide (0 ≤ x117) && decide (x117 < ((12 : Nat) : Int)))
  let x125 := (Nat.beq x119.length (12 / 1))
  let x126 := (((x115 && x124) && (Nat.blt x118 x116.length)) && x125)
  let x127 := x123.length
  let x128 := ((x126 && (decide ((0 : Int) ≤ (0 : Int)) && decide (0 < ((12 : Nat) : Int)))) && (Nat.blt ((0 : Int).toNat) x127))
  let x129 := (bif x121 then x128 else (bif x122 then x128 else x126))
  let x130 := (x119.getD 1 (0 : Int))
  let x131 := decide (x130 < 0)
  let x132 := decide (x130 > 0)
  let x133 := ((x129 && x42) && (Nat.blt ((IntKind.i64.wrap ((0 : Int) + (1 : Int))).toNat) x127))
  let x134 := (bif x131 then x133 else (bif x132 then x133 else x129))
  let x135 := (x119.getD 2 (0 : Int))
  let x136 := decide (x135 < 0)
  let x137 := decide (x135 > 0)
  let x138 := ((x134 && x48) && (Nat.blt ((IntKind.i64.wrap ((IntKind.i64.wrap ((0 : Int) + (1 : Int))) + 1)).toNat) x127))
  let x139 := (bif x136 then x138 else (bif x137 then x138 else x134))
  let x140 := (x119.getD 3 (0 : Int))
  let x141 := decide (x140 < 0)
  let x142 := decide (x140 > 0)
  let x143 := ((x139 && x55) && (Nat.blt x56 x127))
  let x144 := (bif x141 then x143 else (bif x142 then x143 else x139))
  let x145 := (x119.getD 4 (0 : Int))
  let x146 := decide (x145 < 0)
  let x147 := decide (x145 > 0)
  let x148 := (bif x147 then decide ((x123.getD x64 (0 : Int)) < 0) else false)
  let x149 := (Nat.blt x64 x127)
  let x150 := ((x144 && x63) && x149)
  let x151 := (bif x146 then (bif x147 then ((x150 && x63) && x149) else x150) else (bif x147 then x150 else x144))
  let x152 := (x119.getD 5 (0 : Int))
  let x153 := decide (x152 < 0)
  let x154 := decide (x152 > 0)
  let x155 := (bif x154 then decide ((x123.getD x72 (0 : Int)) < 0) else false)
  let x156 := (Nat.blt x72 x127)
  let x157 := ((x151 && x71) && x156)
  let x158 := (bif x153 then (bif x154 then ((x157 && x71) && x156) else x157) else (bif x154 then x157 else x151))
  let x159 := (x119.getD 6 (0 : Int))
  let x160 := decide (x159 < 0)
  let x161 := decide (x159 > 0)
  let x162 := (bif x161 then decide ((x123.getD x80 (0 : Int)) < 0) else false)
  let x163 := (Nat.blt x80 x127)
  let x164 := ((x158 && x79) && x163)
  let x165 := (bif x160 then (bif x161 then ((x164 && x79) && x163) else x164) else (bif x161 then x164 else x158))
  let x166 := (x119.getD 7 (0 : Int))
  let x167 := decide (x166 < 0)
  let x168 := decide (x166 > 0)
  let x169 := (bif x168 then decide ((x123.getD x88 (0 : Int)) < 0) else false)
  let x170 := (Nat.blt x88 x127)
  let x171 := ((x165 && x87) && x170)
  let x172 := (bif x167 then (bif x168 then ((x171 && x87) && x170) else x171) else (bif x168 then x171 else x165))
  let x173 := (x119.getD 8 (0 : Int))
  let x174 := decide (x173 < 0)
  let x175 := decide (x173 > 0)
  let x176 := (bif x175 then decide ((x123.getD x96 (0 : Int)) < 0) else false)
  let x177 := (Nat.blt x96 x127)
  let x178 := ((x172 && x95) && x177)
  let x179 := (bif x174 then (bif x175 then ((x178 && x95) && x177) else x178) else (bif x175 then x178 else x172))
  let x180 := (x119.getD 9 (0 : Int))
  let x181 := decide (x180 < 0)
  let x182 := decide (x180 > 0)
  let x183 := ((x179 && x103) && (Nat.blt x104 x127))
  let x184 := (bif x181 then x183 else (bif x182 then x183 else x179))
  let x185 := (x119.getD 10 (0 : Int))
  let x186 := decide (x185 < 0)
  let x187 := decide (x185 > 0)
  let x188 := (bif x187 then decide ((x123.getD x112 (0 : Int)) < 0) else false)
  let x189 := (Nat.blt x112 x127)
  let x190 := ((x184 && x111) && x189)
  let x191 := (bif x186 then (bif x187 then ((x190 && x111) && x189) else x190) else (bif x187 then x190 else x184))
  let x192 := (x119.getD 11 (0 : Int))
  let x193 := decide (x192 < 0)
  let x194 := decide (x192 > 0)
  let x195 := ((x191 && x124) && (Nat.blt x118 x127))
  let x196 := (bif x193 then x195 else (bif x194 then x195 else x191))
  let x197 := [x120, x130, x135, x140, x145, x152, x159, x166, x173, x180, x185, x192]
  let x198 := x197.length
  (bif decide (t33 < t32) then (bif (x10 != 0) then ⟨(((x12 && (Nat.beq b_r.length (12 / 1))) && x15) && x16), false, ((((x13.getD 0 (0 : Int)), (x13.getD 1 (0 : Int)), (x13.getD 2 (0 : Int)), (x13.getD 3 (0 : Int)), (x13.getD 4 (0 : Int)), (x13.getD 5 (0 : Int)), (x13.getD 6 (0 : Int)), (x13.getD 7 (0 : Int)), (x13.getD 8 (0 : Int)), (x13.getD 9 (0 : Int)), (x13.getD 10 (0 : Int)), (x13.getD 11 (0 : Int)), ()), ()), x10, ()), ((), ()), ()⟩ else ⟨(((((((((((x12 && x17) && x19) && (Nat.ble ((0 : Int).toNat) ((instOfNatNat 1).ofNat))) && x17) && x19) && x20) && x27) && (Nat.ble ((0 : Int).toNat) ((instOfNatNat 1).ofNat))) && x20) && x27) && x30.ok), x30.pan, x30.ret, x30.out, x30.pv⟩) else (bif (bif x32 then true else (x31 == (-9223372036854775808))) then ⟨(((x34 && (Nat.beq b_r.length (12 / 1))) && x15) && x16), false, ((((x13.getD 0 (0 : Int)), (x13.getD 1 (0 : Int)), (x13.getD 2 (0 : Int)), (x13.getD 3 (0 : Int)), (x13.getD 4 (0 : Int)), (x13.getD 5 (0 : Int)), (x13.getD 6 (0 : Int)), (x13.getD 7 (0 : Int)), (x13.getD 8 (0 : Int)), (x13.getD 9 (0 : Int)), (x13.getD 10 (0 : Int)), (x13.getD 11 (0 : Int)), ()), ()), (3 : Int), ()), ((), ()), ()⟩ else (bif (bif x36 then true else (x35 == (-9223372036854775808))) then ⟨(((x39 && (Nat.beq b_r.length (12 / 1))) && x15) && x16), false, ((((x13.getD 0 (0 : Int)), (x13.getD 1 (0 : Int)), (x13.getD 2 (0 : Int)), (x13.getD 3 (0 : Int)), (x13.getD 4 (0 : Int)), (x13.getD 5 (0 : Int)), (x13.getD 6 (0 : Int)), (x13.getD 7 (0 : Int)), (x13.getD 8 (0 : Int)), (x13.getD 9 (0 : Int)), (x13.getD 10 (0 : Int)), (x13.getD 11 (0 : Int)), ()), ()), (3 : Int), ()), ((), ()), ()⟩ else (bif (bif x41 then true else (x40 == (-9223372036854775808))) then ⟨(((x45 && (Nat.beq b_r.length (12 / 1))) && x15) && x16), false, ((((x13.getD 0 (0 : Int)), (x13.getD 1 (0 : Int)), (x13.getD 2 (0 : Int)), (x13.getD 3 (0 : Int)), (x13.getD 4 (0 : Int)), (x13.getD 5 (0 : Int)), (x13.getD 6 (0 : Int)), (x13.getD 7 (0 : Int)), (x13.getD 8 (0 : Int)), (x13.getD 9 (0 : Int)), (x13.getD 10 (0 : Int)), (x13.getD 11 (0 : Int)), ()), ()), (3 : Int), ()), ((), ()), ()⟩ else (bif (bif x47 then true else (x46 == (-9223372036854775808))) then ⟨(((x51 && (Nat.beq b_r.length (12 / 1))) && x15) && x16), false, ((((x13.getD 0 (0 : Int)), (x13.getD 1 (0 : Int)), (x13.getD 2 (0 : Int)), (x13.getD 3 (0 : Int)), (x13.getD 4 (0 : Int)), (x13.getD 5 (0 : Int)), (x13.getD 6 (0 : Int)), (x13.getD 7 (0 : Int)), (x13.getD 8 (0 : Int)), (x13.getD 9 (0 : Int)), (x13.getD 10 (0 : Int)), (x13.getD 11 (0 : Int)), ()), ()), (3 : Int), ()), ((), ()), ()⟩ else (bif (bif x53 then true else (x52 == (-9223372036854775808))) then ⟨(((x59 && (Nat.beq b_r.length (12 / 1))) && x15) && x16), false, ((((x13.getD 0 (0 : Int)), (x13.getD 1 (0 : Int)), (x13.getD 2 (0 : Int)), (x13.getD 3 (0 : Int)), (x13.getD 4 (0 : Int)), (x13.getD 5 (0 : Int)), (x13.getD 6 (0 : Int)), (x13.getD 7 (0 : Int)), (x13.getD 8 (0 : Int)), (x13.getD 9 (0 : Int)), (x13.getD 10 (0 : Int)), (x13.getD 11 (0 : Int)), ()), ()), (3 : Int), ()), ((), ()), ()⟩ else (bif (bif x61 then true else (x60 == (-9223372036854775808))) then ⟨(((x67 && (Nat.beq b_r.length (12 / 1))) && x15) && x16), false, ((((x13.getD 0 (0 : Int)), (x13.getD 1 (0 : Int)), (x13.getD 2 (0 : Int)), (x13.getD 3 (0 : Int)), (x13.getD 4 (0 : Int)), (x13.getD 5 (0 : Int)), (x13.getD 6 (0 : Int)), (x13.getD 7 (0 : Int)), (x13.getD 8 (0 : Int)), (x13.getD 9 (0 : Int)), (x13.getD 10 (0 : Int)), (x13.getD 11 (0 : Int)), ()), ()), (3 : Int), ()), ((), ()), ()⟩ else (bif (bif x69 then true else (x68 == (-9223372036854775808))) then ⟨(((x75 && (Nat.beq b_r.length (12 / 1))) && x15) && x16), false, ((((x13.getD 0 (0 : Int)), (x13.getD 1 (0 : Int)), (x13.getD 2 (0 : Int)), (x13.getD 3 (0 : Int)), (x13.getD 4 (0 : Int)), (x13.getD 5 (0 : Int)), (x13.getD 6 (0 : Int)), (x13.getD 7 (0 : Int)), (x13.getD 8 (0 : Int)), (x13.getD 9 (0 : Int)), (x13.getD 10 (0 : Int)), (x13.getD 11 (0 : Int)), ()), ()), (3 : Int), ()), ((), ()), ()⟩ else (bif (bif x77 then true else (x76 == (-9223372036854775808))) then ⟨(((x83 && (Nat.beq b_r.length (12 / 1))) && x15) && x16), false, ((((x13.getD 0 (0 : Int)), (x13.getD 1 (0 : Int)), (x13.getD 2 (0 : Int)), (x13.getD 3 (0 : Int)), (x13.getD 4 (0 : Int)), (x13.getD 5 (0 : Int)), (x13.getD 6 (0 : Int)), (x13.getD 7 (0 : Int)), (x13.getD 8 (0 : Int)), (x13.getD 9 (0 : Int)), (x13.getD 10 (0 : Int)), (x13.getD 11 (0 : Int)), ()), ()), (3 : Int), ()), ((), ()), ()⟩ else (bif (bif x85 then true else (x84 == (-9223372036854775808))) then ⟨(((x91 && (Nat.beq b_r.length (12 / 1))) && x15) && x16), false, ((((x13.getD 0 (0 : Int)), (x13.getD 1 (0 : Int)), (x13.getD 2 (0 : Int)), (x13.getD 3 (0 : Int)), (x13.getD 4 (0 : Int)), (x13.getD 5 (0 : Int)), (x13.getD 6 (0 : Int)), (x13.getD 7 (0 : Int)), (x13.getD 8 (0 : Int)), (x13.getD 9 (0 : Int)), (x13.getD 10 (0 : Int)), (x13.getD 11 (0 : Int)), ()), ()), (3 : Int), ()), ((), ()), ()⟩ else (bif (bif x93 then true else (x92 == (-9223372036854775808))) then ⟨(((x99 && (Nat.beq b_r.length (12 / 1))) && x15) && x16), false, ((((x13.getD 0 (0 : Int)), (x13.getD 1 (0 : Int)), (x13.getD 2 (0 : Int)), (x13.getD 3 (0 : Int)), (x13.getD 4 (0 : Int)), (x13.getD 5 (0 : Int)), (x13.getD 6 (0 : Int)), (x13.getD 7 (0 : Int)), (x13.getD 8 (0 : Int)), (x13.getD 9 (0 : Int)), (x13.getD 10 (0 : Int)), (x13.getD 11 (0 : Int)), ()), ()), (3 : Int), ()), ((), ()), ()⟩ else (bif (bif x101 then true else (x100 == (-9223372036854775808))) then ⟨(((x107 && (Nat.beq b_r.length (12 / 1))) && x15) && x16), false, ((((x13.getD 0 (0 : Int)), (x13.getD 1 (0 : Int)), (x13.getD 2 (0 : Int)), (x13.getD 3 (0 : Int)), (x13.getD 4 (0 : Int)), (x13.getD 5 (0 : Int)), (x13.getD 6 (0 : Int)), (x13.getD 7 (0 : Int)), (x13.getD 8 (0 : Int)), (x13.getD 9 (0 : Int)), (x13.getD 10 (0 : Int)), (x13.getD 11 (0 : Int)), ()), ()), (3 : Int), ()), ((), ()), ()⟩ else (bif (bif x109 then true else (x108 == (-9223372036854775808))) then ⟨(((x115 && (Nat.beq b_r.length (12 / 1))) && x15) && x16), false, ((((x13.getD 0 (0 : Int)), (x13.getD 1 (0 : Int)), (x13.getD 2 (0 : Int)), (x13.getD 3 (0 : Int)), (x13.getD 4 (0 : Int)), (x13.getD 5 (0 : Int)), (x13.getD 6 (0 : Int)), (x13.getD 7 (0 : Int)), (x13.getD 8 (0 : Int)), (x13.getD 9 (0 : Int)), (x13.getD 10 (0 : Int)), (x13.getD 11 (0 : Int)), ()), ()), (3 : Int), ()), ((), ()), ()⟩ else (bif (bif x121 then true else (bif x122 then decide ((x123.getD ((0 : Int).toNat) (0 : Int)) < 0) else false)) then ⟨(((x129 && (Nat.beq b_r.length (12 / 1))) && x15) && x16), false, ((((x13.getD 0 (0 : Int)), (x13.getD 1 (0 : Int)), (x13.getD 2 (0 : Int)), (x13.getD 3 (0 : Int)), (x13.getD 4 (0 : Int)), (x13.getD 5 (0 : Int)), (x13.getD 6 (0 : Int)), (x13.getD 7 (0 : Int)), (x13.getD 8 (0 : Int)), (x13.getD 9 (0 : Int)), (x13.getD 10 (0 : Int)), (x13.getD 11 (0 : Int)), ()), ()), (81 : Int), ()), ((), ()), ()⟩ else (bif (bif x131 then true else (bif x132 then decide ((x123.getD ((IntKind.i64.wrap ((0 : Int) + (1 : Int))).toNat) (0 : Int)) < 0) else false)) then ⟨(((x134 && (Nat.beq b_r.length (12 / 1))) && x15) && x16), false, ((((x13.getD 0 (0 : Int)), (x13.getD 1 (0 : Int)), (x13.getD 2 (0 : Int)), (x13.getD 3 (0 : Int)), (x13.getD 4 (0 : Int)), (x13.getD 5 (0 : Int)), (x13.getD 6 (0 : Int)), (x13.getD 7 (0 : Int)), (x13.getD 8 (0 : Int)), (x13.getD 9 (0 : Int)), (x13.getD 10 (0 : Int)), (x13.getD 11 (0 : Int)), ()), ()), (81 : Int), ()), ((), ()), ()⟩ else (bif (bif x136 then true else (bif x137 then decide ((x123.getD ((IntKind.i64.wrap ((IntKind.i64.wrap ((0 : Int) + (1 : Int))) + 1)).toNat) (0 : Int)) < 0) else false)) then ⟨(((x139 && (Nat.beq b_r.length (12 / 1))) && x15) && x16), false, ((((x13.getD 0 (0 : Int)), (x13.getD 1 (0 : Int)), (x13.getD 2 (0 : Int)), (x13.getD 3 (0 : Int)), (x13.getD 4 (0 : Int)), (x13.getD 5 (0 : Int)), (x13.getD 6 (0 : Int)), (x13.getD 7 (0 : Int)), (x13.getD 8 (0 : Int)), (x13.getD 9 (0 : Int)), (x13.getD 10 (0 : Int)), (x13.getD 11 (0 : Int)), ()), ()), (81 : Int), ()), ((), ()), ()⟩ else (bif (bif x141 then true else (bif x142 then decide ((x123.getD x56 (0 : Int)) < 0) else false)) then ⟨(((x144 && (Nat.beq b_r.length (12 / 1))) && x15) && x16), false, ((((x13.getD 0 (0 : Int)), (x13.getD 1 (0 : Int)), (x13.getD 2 (0 : Int)), (x13.getD 3 (0 : Int)), (x13.getD 4 (0 : Int)), (x13.getD 5 (0 : Int)), (x13.getD 6 (0 : Int)), (x13.getD 7 (0 : Int)), (x13.getD 8 (0 : Int)), (x13.getD 9 (0 : Int)), (x13.getD 10 (0 : Int)), (x13.getD 11 (0 : Int)), ()), ()), (81 : Int), ()), ((), ()), ()⟩ else (bif (bif x146 then x148 else x148) then ⟨(((x151 && (Nat.beq b_r.length (12 / 1))) && x15) && x16), false, ((((x13.getD 0 (0 : Int)), (x13.getD 1 (0 : Int)), (x13.getD 2 (0 : Int)), (x13.getD 3 (0 : Int)), (x13.getD 4 (0 : Int)), (x13.getD 5 (0 : Int)), (x13.getD 6 (0 : Int)), (x13.getD 7 (0 : Int)), (x13.getD 8 (0 : Int)), (x13.getD 9 (0 : Int)), (x13.getD 10 (0 : Int)), (x13.getD 11 (0 : Int)), ()), ()), (81 : Int), ()), ((), ()), ()⟩ else (bif (bif x153 then x155 else x155) then ⟨(((x158 && (Nat.beq b_r.length (12 / 1))) && x15) && x16), false, ((((x13.getD 0 (0 : Int)), (x13.getD 1 (0 : Int)), (x13.getD 2 (0 : Int)), (x13.getD 3 (0 : Int)), (x13.getD 4 (0 : Int)), (x13.getD 5 (0 : Int)), (x13.getD 6 (0 : Int)), (x13.getD 7 (0 : Int)), (x13.getD 8 (0 : Int)), (x13.getD 9 (0 : Int)), (x13.getD 10 (0 : Int)), (x13.getD 11 (0 : Int)), ()), ()), (81 : Int), ()), ((), ()), ()⟩ else (bif (bif x160 then x162 else x162) then ⟨(((x165 && (Nat.beq b_r.length (12 / 1))) && x15) && x16), false, ((((x13.getD 0 (0 : Int)), (x13.getD 1 (0 : Int)), (x13.getD 2 (0 : Int)), (x13.getD 3 (0 : Int)), (x13.getD 4 (0 : Int)), (x13.getD 5 (0 : Int)), (x13.getD 6 (0 : Int)), (x13.getD 7 (0 : Int)), (x13.getD 8 (0 : Int)), (x13.getD 9 (0 : Int)), (x13.getD 10 (0 : Int)), (x13.getD 11 (0 : Int)), ()), ()), (81 : Int), ()), ((), ()), ()⟩ else (bif (bif x167 then x169 else x169) then ⟨(((x172 && (Nat.beq b_r.length (12 / 1))) && x15) && x16), false, ((((x13.getD 0 (0 : Int)), (x13.getD 1 (0 : Int)), (x13.getD 2 (0 : Int)), (x13.getD 3 (0 : Int)), (x13.getD 4 (0 : Int)), (x13.getD 5 (0 : Int)), (x13.getD 6 (0 : Int)), (x13.getD 7 (0 : Int)), (x13.getD 8 (0 : Int)), (x13.getD 9 (0 : Int)), (x13.getD 10 (0 : Int)), (x13.getD 11 (0 : Int)), ()), ()), (81 : Int), ()), ((), ()), ()⟩ else (bif (bif x174 then x176 else x176) then ⟨(((x179 && (Nat.beq b_r.length (12 / 1))) && x15) && x16), false, ((((x13.getD 0 (0 : Int)), (x13.getD 1 (0 : Int)), (x13.getD 2 (0 : Int)), (x13.getD 3 (0 : Int)), (x13.getD 4 (0 : Int)), (x13.getD 5 (0 : Int)), (x13.getD 6 (0 : Int)), (x13.getD 7 (0 : Int)), (x13.getD 8 (0 : Int)), (x13.getD 9 (0 : Int)), (x13.getD 10 (0 : Int)), (x13.getD 11 (0 : Int)), ()), ()), (81 : Int), ()), ((), ()), ()⟩ else (bif (bif x181 then true else (bif x182 then decide ((x123.getD x104 (0 : Int)) < 0) else false)) then ⟨(((x184 && (Nat.beq b_r.length (12 / 1))) && x15) && x16), false, ((((x13.getD 0 (0 : Int)), (x13.getD 1 (0 : Int)), (x13.getD 2 (0 : Int)), (x13.getD 3 (0 : Int)), (x13.getD 4 (0 : Int)), (x13.getD 5 (0 : Int)), (x13.getD 6 (0 : Int)), (x13.getD 7 (0 : Int)), (x13.getD 8 (0 : Int)), (x13.getD 9 (0 : Int)), (x13.getD 10 (0 : Int)), (x13.getD 11 (0 : Int)), ()), ()), (81 : Int), ()), ((), ()), ()⟩ else (bif (bif x186 then x188 else x188) then ⟨(((x191 && (Nat.beq b_r.length (12 / 1))) && x15) && x16), false, ((((x13.getD 0 (0 : Int)), (x13.getD 1 (0 : Int)), (x13.getD 2 (0 : Int)), (x13.getD 3 (0 : Int)), (x13.getD 4 (0 : Int)), (x13.getD 5 (0 : Int)), (x13.getD 6 (0 : Int)), (x13.getD 7 (0 : Int)), (x13.getD 8 (0 : Int)), (x13.getD 9 (0 : Int)), (x13.getD 10 (0 : Int)), (x13.getD 11 (0 : Int)), ()), ()), (81 : Int), ()), ((), ()), ()⟩ else (bif (bif x193 then true else (bif x194 then decide ((x123.getD x118 (0 : Int)) < 0) else false)) then ⟨(((x196 && (Nat.beq b_r.length (12 / 1))) && x15) && x16), false, ((((x13.getD 0 (0 : Int)), (x13.getD 1 (0 : Int)), (x13.getD 2 (0 : Int)), (x13.getD 3 (0 : Int)), (x13.getD 4 (0 : Int)), (x13.getD 5 (0 : Int)), (x13.getD 6 (0 : Int)), (x13.getD 7 (0 : Int)), (x13.getD 8 (0 : Int)), (x13.getD 9 (0 : Int)), (x13.getD 10 (0 : Int)), (x13.getD 11 (0 : Int)), ()), ()), (81 : Int), ()), ((), ()), ()⟩ else ⟨(((x196 && x125) && (Nat.beq t4_r.length x198)) && (Nat.beq x198 (12 / 1))), false, ((((x197.getD 0 (0 : Int)), (x197.getD 1 (0 : Int)), (x197.getD 2 (0 : Int)), (x197.getD 3 (0 : Int)), (x197.getD 4 (0 : Int)), (x197.getD 5 (0 : Int)), (x197.getD 6 (0 : Int)), (x197.getD 7 (0 : Int)), (x197.getD 8 (0 : Int)), (x197.getD 9 (0 : Int)), (x197.getD 10 (0 : Int)), (x197.getD 11 (0 : Int)), ()), ()), (0 : Int), ()), ((), ()), ()⟩))))))))))))))))))))))))) := by kernel_rfl
noncomputable def tbl28 : List (Ent TT) := ⟨79, g_post, F_post⟩ :: tbl27
theorem tbl28_ok : TblOK prog globs tbl28 := tbl_cons (by kernel_rfl) F_post_ok tbl27_ok
end Go.Proofs.YtlflclfhldghbaaGreatDoor.Fs
end
section
set_option maxRecDepth 100000
namespace Go.Proofs.YtlflclfhldghbaaGreatDoor.Fs
open Go Go.Proofs.YtlflclfhldghbaaGreatDoor.Ls
noncomputable def C_may : Cx TT := cxB tbl28 Go.Proofs.Tryz.f37.ntmps [] [] [] [] []
noncomputable def k_may (a : g_may.args.ty) (h : tysO TT g_may.hp) : Nat := 0
noncomputable def F_may : g_may.args.ty → tysO TT g_may.hp → Res TT g_may := fun a h => bodyG C_may g_may Go.Proofs.Tryz.f37 [] (k_may a h) a h
theorem F_may_ok : FOK prog globs 37 g_may F_may :=
  bodyG_sound (cx := C_may) mix (cxB_ok tbl28_ok _ _ _ _ _ _) (f := 37) (fn := Go.Proofs.Tryz.f37) (by kernel_rfl) (by kernel_rfl) (by kernel_rfl) (by kernel_rfl) _
theorem F_may_eq (t : T25) : F_may (t, ()) () =
  let x0 := (bif decide (t.1 ≥ 0) then (bif decide (t.1 ≤ 2) then (bif decide (t.2.2.2.2.2.1 ≥ 0) then decide (t.2.2.2.2.2.1 ≤ 3) else false) else false) else false)
  let x1 := (bif decide (t.2.1 ≥ 1) then (bif decide (t.2.1 ≤ 10000000000000) then (bif decide (t.2.2.1 ≥ 0) then decide (t.2.2.1 ≤ 100000) else false) else false) else false)
  let x2 := (bif decide (t.1 ≥ 0) then (bif decide (t.1 ≤ 2) then (bif decide (t.2.2.2.2.2.1 ≥ 0) then true else true) else true) else true)
  let x3 := (bif decide (t.2.1 ≥ 1) then (bif decide (t.2.1 ≤ 10000000000000) then (bif decide (t.2.2.1 ≥ 0) then x2 else x2) else x2) else x2)
  ⟨(bif x0 then (bif x1 then (bif decide (t.2.2.2.1 ≥ 1) then (bif decide (t.2.2.2.1 ≤ 120) then (bif decide (t.2.2.2.2.1 ≥ 1) then x3 else x3) else x3) else x3) else x3) else x3), false, (bif x0 then (bif x1 then (bif decide (t.2.2.2.1 ≥ 1) then (bif decide (t.2.2.2.1 ≤ 120) then (bif decide (t.2.2.2.2.1 ≥ 1) then decide (t.2.2.2.2.1 ≤ 3652059) else false) else false) else false) else false) else false), (), ()⟩ := by kernel_rfl
noncomputable def tbl29 : List (Ent TT) := ⟨37, g_may, F_may⟩ :: tbl28
theorem tbl29_ok : TblOK prog globs tbl29 := tbl_cons (by kernel_rfl) F_may_ok tbl28_ok
noncomputable def C_mulDivFloor : Cx TT := cxB tbl29 Go.Proofs.Tryz.f48.ntmps [] [] [] [] []
noncomputable def k_mulDivFloor (a : g_mulDivFloor.args.ty) (h : tysO TT g_mulDivFloor.hp) : Nat := 0
noncomputable def F_mulDivFloor : g_mulDivFloor.args.ty → tysO TT g_mulDivFloor.hp → Res TT g_mulDivFloor := fun a h => bodyG C_mulDivFloor g_mulDivFloor Go.Proofs.Tryz.f48 [] (k_mulDivFloor a h) a h
theorem F_mulDivFloor_ok : FOK prog globs 48 g_mulDivFloor F_mulDivFloor :=
  bodyG_sound (cx := C_mulDivFloor) mix (cxB_ok tbl29_ok _ _ _ _ _ _) (f := 48) (fn := Go.Proofs.Tryz.f48) (by kernel_rfl) (by kernel_rfl) (by kernel_rfl) (by kernel_rfl) _
theorem F_mulDivFloor_eq (a_ : Int) (b : Int) (c : Int) : F_mulDivFloor (a_, b, c, ()) () =
  let x0 := (F_mul64 ((IntKind.u64.wrap (0 - (IntKind.u64.wrap a_))), (IntKind.u64.wrap (0 - (IntKind.u64.wrap b))), ()) ())
  let x1 := (x0.ret : Int × Int × Unit)
  let x2 := (F_mul64 ((IntKind.u64.wrap (0 - (IntKind.u64.wrap a_))), (IntKind.u64.wrap b), ()) ())
  let x3 := (x2.ret : Int × Int × Unit)
  let x4 := (F_mul64 ((IntKind.u64.wrap a_), (IntKind.u64.wrap (0 - (IntKind.u64.wrap b))), ()) ())
  let x5 := (x4.ret : Int × Int × Unit)
  let x6 := ((F_mul64 ((IntKind.u64.wrap a_), (IntKind.u64.wrap b), ()) ()).ret : Int × Int × Unit)
  let x7 := (bif decide (a_ < 0) then (bif decide (b < 0) then x1.1 else x3.1) else (bif decide (b < 0) then x5.1 else x6.1))
  let x8 := (bif decide (a_ < 0) then (bif decide (b < 0) then x0.ok else x2.ok) else (bif decide (b < 0) then x4.ok else (F_mul64 ((IntKind.u64.wrap a_), (IntKind.u64.wrap b), ()) ()).ok))
  let x9 := (F_div64 (x7, (bif decide (a_ < 0) then (bif decide (b < 0) then x1.2.1 else x3.2.1) else (bif decide (b < 0) then x5.2.1 else x6.2.1)), (IntKind.u64.wrap c), ()) ())
  let x10 := (x9.ret : Int × Int × Unit)
  let x11 := x10.2.1
  let x12 := x10.1
  let x13 := (IntKind.u64.wrap (x12 + 1))
  let x14 := (x8 && x9.ok)
  let x15 := (bif (!(decide (a_ < 0) == decide (b < 0))) then x14 else x14)
  let x16 := (F_withSign ((!(decide (a_ < 0) == decide (b < 0))), x13, ()) ())
  let x17 := (x16.ret : Int × Bool × Unit)
  let x18 := (x15 && x16.ok)
  let x19 := (F_withSign ((!(decide (a_ < 0) == decide (b < 0))), x12, ()) ())
  let x20 := (x19.ret : Int × Bool × Unit)
  let x21 := (x15 && x19.ok)
  (bif decide (c ≤ 0) then ⟨true, false, ((0 : Int), (0 : Int), false, ()), (), ()⟩ else (bif decide (x7 ≥ (IntKind.u64.wrap c)) then ⟨x8, false, ((0 : Int), (0 : Int), false, ()), (), ()⟩ else (bif (bif (!(decide (a_ < 0) == decide (b < 0))) then decide (x11 > 0) else false) then (bif (x13 == 0) then ⟨x15, false, ((0 : Int), (0 : Int), false, ()), (), ()⟩ else (bif (!x17.2.1) then ⟨x18, false, ((0 : Int), (0 : Int), false, ()), (), ()⟩ else ⟨x18, false, (x17.1, (IntKind.i64.wrap (IntKind.u64.wrap ((IntKind.u64.wrap c) - x11))), true, ()), (), ()⟩)) else (bif (!x20.2.1) then ⟨x21, false, ((0 : Int), (0 : Int), false, ()), (), ()⟩ else ⟨x21, false, (x20.1, (IntKind.i64.wrap x11), true, ()), (), ()⟩)))) := by kernel_rfl
noncomputable def tbl30 : List (Ent TT) := ⟨48, g_mulDivFloor, F_mulDivFloor⟩ :: tbl29
theorem tbl30_ok : TblOK prog globs tbl30 := tbl_cons (by kernel_rfl) F_mulDivFloor_ok tbl29_ok
noncomputable def C_span : Cx TT := cxB tbl30 Go.Proofs.Tryz.f17.ntmps [] [] [] [] []
noncomputable def k_span (a : g_span.args.ty) (h : tysO TT g_span.hp) : Nat := 0
noncomputable def F_span : g_span.args.ty → tysO TT g_span.hp → Res TT g_span := fun a h => bodyG C_span g_span Go.Proofs.Tryz.f17 [] (k_span a h) a h
theorem F_span_ok : FOK prog globs 17 g_span F_span :=
  bodyG_sound (cx := C_span) mix (cxB_ok tbl30_ok _ _ _ _ _ _) (f := 17) (fn := Go.Proofs.Tryz.f17) (by kernel_rfl) (by kernel_rfl) (by kernel_rfl) (by kernel_rfl) _
theorem F_span_eq (principal : Int) (rate : Int) (carry : Int) (days : Int) : F_span (principal, rate, carry, days, ()) () =
  let x0 := (bif decide (principal < 0) then true else (bif (!(bif decide (rate ≥ 0) then decide (rate ≤ 100000) else false)) then (bif decide (rate ≥ 0) then true else true) else (bif decide (carry < 0) then (bif decide (rate ≥ 0) then true else true) else (bif decide (rate ≥ 0) then true else true))))
  let x1 := (bif decide (days < 0) then x0 else x0)
  let x2 := (F_mulDivFloor (principal, (IntKind.i64.wrap (rate * days)), (3650000 : Int), ()) ())
  let x3 := (x2.ret : Int × Int × Bool × Unit)
  let x4 := x3.2
  let x5 := (x1 && x2.ok)
  let x6 := (⟨x5, false, ((0 : Int), (0 : Int), false, ()), (), ()⟩ : Res TT g_span)
  let x7 := (IntKind.i64.wrap (x4.1 + carry))
  let x8 := x3.1
  (bif (bif decide (principal < 0) then true else (bif (!(bif decide (rate ≥ 0) then decide (rate ≤ 100000) else false)) then true else (bif decide (carry < 0) then true else decide (carry ≥ 3650000)))) then ⟨x0, false, ((0 : Int), (0 : Int), false, ()), (), ()⟩ else (bif (bif decide (days < 0) then true else decide (days > 3652059)) then ⟨x1, false, ((0 : Int), (0 : Int), false, ()), (), ()⟩ else (bif (!x4.2.1) then x6 else (bif decide (x7 < 3650000) then ⟨x5, false, (x8, x7, true, ()), (), ()⟩ else (bif (x8 == 9223372036854775807) then x6 else ⟨x5, false, ((IntKind.i64.wrap (x8 + 1)), (IntKind.i64.wrap (x7 - 3650000)), true, ()), (), ()⟩))))) := by kernel_rfl
noncomputable def tbl31 : List (Ent TT) := ⟨17, g_span, F_span⟩ :: tbl30
theorem tbl31_ok : TblOK prog globs tbl31 := tbl_cons (by kernel_rfl) F_span_ok tbl30_ok
noncomputable def C_msum : Cx TT := cxB tbl31 Go.Proofs.Tryz.f164.ntmps [(4, s_msum_4)] [] [] [] []
noncomputable def k_msum (a : g_msum.args.ty) (h : tysO TT g_msum.hp) : Nat := h.1.length + 2
noncomputable def F_msum : g_msum.args.ty → tysO TT g_msum.hp → Res TT g_msum := fun a h => bodyG C_msum g_msum Go.Proofs.Tryz.f164 [] (k_msum a h) a h
theorem F_msum_ok : FOK prog globs 164 g_msum F_msum :=
  bodyG_sound (cx := C_msum) mix (cxB_ok tbl31_ok _ _ _ _ _ _) (f := 164) (fn := Go.Proofs.Tryz.f164) (by kernel_rfl) (by kernel_rfl) (by kernel_rfl) (by kernel_rfl) _
noncomputable def L_msum_4 (k : Nat) (v : s_msum_4.ty TT) : Res TT g_msum := loopG C_msum g_msum Go.Proofs.Tryz.f164 [] k (todoF Go.Proofs.Tryz.f164 4) (SS.st s_msum_4 0 v)
theorem F_msum_eq (list : List Int) : F_msum ((), ()) (list, ()) =
  (L_msum_4 (k_msum ((), ()) (list, ())) (((0 : Int), (0 : Int), (), ((list.length : Nat) : Int), (0 : Int), ()), list, ())) := by kernel_rfl
theorem L_msum_4_eq (k : Nat) (hi : Int) (lo : Int) (t10 : Int) (t11 : Int) (list : List Int) : L_msum_4 (k + 1) ((hi, lo, (), t10, t11, ()), (list, ())) =
  let x0 := (((decide (0 ≤ t11) && decide (t11 < ((list.length : Nat) : Int))) && (Nat.blt t11.toNat list.length)) && (Nat.ble ((0 : Int).toNat) ((instOfNatNat 1).ofNat)))
  let x1 := ((lo.toNat + (IntKind.u64.wrap (list.getD t11.toNat (0 : Int))).toNat) + (0 : Int).toNat)
  let x2 := (IntKind.u64.wrap (hi + (((x1 / 18446744073709551616) : Nat) : Int)))
  let x3 := (L_msum_4 k (((bif decide ((list.getD t11.toNat (0 : Int)) < 0) then (IntKind.u64.wrap (x2 - 1)) else x2), (((x1 % 18446744073709551616) : Nat) : Int), (), t10, (IntKind.i64.wrap (t11 + 1)), ()), list, ()))
  let x4 := (bif (hi == 0) then (bif decide (lo ≤ 9223372036854775807) then true else (bif (hi == 18446744073709551615) then true else true)) else (bif (hi == 18446744073709551615) then true else true))
  (bif decide (t11 < t10) then ⟨((bif decide ((list.getD t11.toNat (0 : Int)) < 0) then x0 else x0) && x3.ok), x3.pan, x3.ret, x3.out, x3.pv⟩ else (bif (bif (hi == 0) then (bif decide (lo ≤ 9223372036854775807) then true else (bif (hi == 18446744073709551615) then decide (lo ≥ 9223372036854775808) else false)) else (bif (hi == 18446744073709551615) then decide (lo ≥ 9223372036854775808) else false)) then ⟨x4, false, ((IntKind.i64.wrap lo), true, ()), ((), ()), ()⟩ else ⟨x4, false, ((0 : Int), false, ()), ((), ()), ()⟩)) := by kernel_rfl
noncomputable def tbl32 : List (Ent TT) := ⟨164, g_msum, F_msum⟩ :: tbl31
theorem tbl32_ok : TblOK prog globs tbl32 := tbl_cons (by kernel_rfl) F_msum_ok tbl31_ok
noncomputable def C_lateFee : Cx TT := cxB tbl32 Go.Proofs.Tryz.f152.ntmps [] [] [] [] []
noncomputable def k_lateFee (a : g_lateFee.args.ty) (h : tysO TT g_lateFee.hp) : Nat := 0
noncomputable def F_lateFee : g_lateFee.args.ty → tysO TT g_lateFee.hp → Res TT g_lateFee := fun a h => bodyG C_lateFee g_lateFee Go.Proofs.Tryz.f152 [] (k_lateFee a h) a h
theorem F_lateFee_ok : FOK prog globs 152 g_lateFee F_lateFee :=
  bodyG_sound (cx := C_lateFee) mix (cxB_ok tbl32_ok _ _ _ _ _ _) (f := 152) (fn := Go.Proofs.Tryz.f152) (by kernel_rfl) (by kernel_rfl) (by kernel_rfl) (by kernel_rfl) _
theorem F_lateFee_eq (p : T23) (amount : Int) (p_0 : List Int) : F_lateFee (p, amount, ()) (p_0, ()) =
  let x0 := (!(((F_check (p, ()) (p_0, ())).ret : Int × Int × Unit).1 == 0))
  let x1 := (bif x0 then (F_check (p, ()) (p_0, ())).ok else (F_check (p, ()) (p_0, ())).ok)
  let x2 := (F_mulDiv (amount, p.2.2.2.2.1, (10000 : Int), ()) ())
  let x3 := (x2.ret : Int × Bool × Unit).1
  let x4 := decide (x3 < p.2.2.2.2.2.1)
  let x5 := ((x1 && x2.ok) && true)
  let x6 := decide (x3 > p.2.2.2.2.2.2.1)
  (bif (bif x0 then true else decide (amount < 0)) then ⟨x1, false, (0 : Int), ((), ()), ()⟩ else ⟨(bif x4 then x5 else (bif x6 then x5 else x5)), false, (bif x4 then p.2.2.2.2.2.1 else (bif x6 then p.2.2.2.2.2.2.1 else x3)), ((), ()), ()⟩) := by kernel_rfl
noncomputable def tbl33 : List (Ent TT) := ⟨152, g_lateFee, F_lateFee⟩ :: tbl32
theorem tbl33_ok : TblOK prog globs tbl33 := tbl_cons (by kernel_rfl) F_lateFee_ok tbl32_ok
noncomputable def C_assess : Cx TT := cxB tbl33 Go.Proofs.Tryz.f93.ntmps [] [] [] [] []
noncomputable def k_assess (a : g_assess.args.ty) (h : tysO TT g_assess.hp) : Nat := 0
noncomputable def F_assess : g_assess.args.ty → tysO TT g_assess.hp → Res TT g_assess := fun a h => bodyG C_assess g_assess Go.Proofs.Tryz.f93 [] (k_assess a h) a h
theorem F_assess_ok : FOK prog globs 93 g_assess F_assess :=
  bodyG_sound (cx := C_assess) mix (cxB_ok tbl33_ok _ _ _ _ _ _) (f := 93) (fn := Go.Proofs.Tryz.f93) (by kernel_rfl) (by kernel_rfl) (by kernel_rfl) (by kernel_rfl) _
theorem F_assess_eq (p : T23) (amount : Int) (cycleFees : Int) (lifeFees : Int) (p_0 : List Int) : F_assess (p, amount, cycleFees, lifeFees, ()) (p_0, ()) =
  let x0 := (((F_lateFee (p, amount, ()) (p_0, ())).ok && true) && true)
  let x1 := (bif decide (lifeFees ≤ 0) then x0 else x0)
  let x2 := (if (p.2.2.2.2.2.2.2.1 < ((F_lateFee (p, amount, ()) (p_0, ())).ret : Int)) then p.2.2.2.2.2.2.2.1 else ((F_lateFee (p, amount, ()) (p_0, ())).ret : Int))
  let x3 := (IntKind.i64.wrap (p.2.2.2.2.2.2.2.2.1 - lifeFees))
  let x4 := (if (x3 > 0) then x3 else (0 : Int))
  let x5 := (IntKind.i64.wrap (p.2.2.2.2.2.2.2.1 - cycleFees))
  let x6 := (if (x5 > 0) then x5 else (0 : Int))
  let x7 := (if (x6 < ((F_lateFee (p, amount, ()) (p_0, ())).ret : Int)) then x6 else ((F_lateFee (p, amount, ()) (p_0, ())).ret : Int))
  (bif (((F_lateFee (p, amount, ()) (p_0, ())).ret : Int) == 0) then ⟨(F_lateFee (p, amount, ()) (p_0, ())).ok, false, (0 : Int), ((), ()), ()⟩ else ⟨(bif decide (cycleFees ≤ 0) then x1 else x1), false, (bif decide (cycleFees ≤ 0) then (bif decide (lifeFees ≤ 0) then (if (p.2.2.2.2.2.2.2.2.1 < x2) then p.2.2.2.2.2.2.2.2.1 else x2) else (if (x4 < x2) then x4 else x2)) else (bif decide (lifeFees ≤ 0) then (if (p.2.2.2.2.2.2.2.2.1 < x7) then p.2.2.2.2.2.2.2.2.1 else x7) else (if (x4 < x7) then x4 else x7))), ((), ()), ()⟩) := by kernel_rfl
noncomputable def tbl34 : List (Ent TT) := ⟨93, g_assess, F_assess⟩ :: tbl33
theorem tbl34_ok : TblOK prog globs tbl34 := tbl_cons (by kernel_rfl) F_assess_ok tbl33_ok
end Go.Proofs.YtlflclfhldghbaaGreatDoor.Fs
end
section
namespace Go.Proofs.YtlflclfhldghbaaGreatDoor.Fs
open Go Go.Proofs.YtlflclfhldghbaaGreatDoor.Ls P
theorem mul64 {x y : Int} (hx : 0 ≤ x) (hx2 : x ≤ 18446744073709551615) (hy : 0 ≤ y) (hy2 : y < 4294967296) (h : x * y ≤ 18446744073709551615) :
    F_mul64 (x, y, ()) () = ⟨true, false, ((0 : Int), x * y, ()), (), ()⟩ := by
  rw [F_mul64_eq]
  have hy0 : y % 4294967296 = y := by omega
  have hy1 : y / 4294967296 = 0 := by omega
  have hxy : 0 ≤ x * y := Int.mul_nonneg hx hy
  simp only [m32 hy (by omega), m32 hx hx2, fd32, hy0, hy1]
  have hX0 : 0 ≤ x % 4294967296 := by omega
  have hX1 : 0 ≤ x / 4294967296 := by omega
  have hA : 0 ≤ (x / 4294967296) * y := Int.mul_nonneg hX1 hy
  have hB : 0 ≤ (x % 4294967296) * y := Int.mul_nonneg hX0 hy
  have hS : x * y = (x / 4294967296) * y * 4294967296 + (x % 4294967296) * y := by
    have : x = (x / 4294967296) * 4294967296 + x % 4294967296 := by omega
    calc x * y = ((x / 4294967296) * 4294967296 + x % 4294967296) * y := by rw [← this]
      _ = _ := by rw [Int.add_mul, Int.mul_right_comm]
  generalize hAe : (x / 4294967296) * y = A at *
  generalize hBe : (x % 4294967296) * y = B at *
  generalize hPe : x * y = Q at *
  have w1 : IntKind.u64.wrap A = A := wu64 hA (by omega)
  have w2 : IntKind.u64.wrap B = B := wu64 hB (by omega)
  have w3 : IntKind.u64.wrap (A + B / 4294967296) = A + B / 4294967296 := wu64 (by omega) (by omega)
  have w0 : IntKind.u64.wrap 0 = 0 := wu64 (by omega) (by omega)
  simp only [w1, w2, w3, Int.mul_zero, w0, m32 (show 0 ≤ A + B / 4294967296 by omega) (by omega)]
  have z1 : (A + B / 4294967296) / 4294967296 = 0 := by omega
  have z2 : IntKind.u64.wrap ((A + B / 4294967296) % 4294967296) = (A + B / 4294967296) % 4294967296 := wu64 (by omega) (by omega)
  have z3 : (A + B / 4294967296) % 4294967296 / 4294967296 = 0 := by omega
  simp only [z1, z2, z3, Int.add_zero, Int.zero_add, w0, wu64 hxy h]
theorem div64 {lo y : Int} (hlo : 0 ≤ lo) (hlo2 : lo ≤ 18446744073709551615) (hy : 0 < y) : F_div64 (0, lo, y, ()) () = ⟨true, false, (lo / y, lo % y, ()), (), ()⟩ := by
  rw [F_div64_eq]
  have e1 : (y == 0) = false := by simp; omega
  have e2 : decide (y ≤ 0) = false := by simp; omega
  have e3 : (y != 0) = true := by simp; omega
  have e4 : ((0 : Int) == 0) = true := rfl
  have h1 : lo.tdiv y = lo / y := Int.tdiv_eq_ediv_of_nonneg hlo
  have h2 : lo.tmod y = lo % y := Int.tmod_eq_emod_of_nonneg hlo
  have h3 : lo / y ≤ lo := Int.ediv_le_self _ hlo
  have h4 : 0 ≤ lo / y := Int.ediv_nonneg hlo (by omega)
  simp only [e1, e2, e3, e4, h1, h2, cond_true, cond_false, Bool.and_true]
  rw [wu64 h4 (by omega)]
theorem withSign_pos {m : Int} (h : m ≤ 9223372036854775807) (h0 : 0 ≤ m) : F_withSign (false, m, ()) () = ⟨true, false, (m, true, ()), (), ()⟩ := by
  rw [F_withSign_eq]
  have : decide (m > 9223372036854775807) = false := by simp; omega
  simp only [this, cond_false]
  rw [w64 (by omega) h]
end Go.Proofs.YtlflclfhldghbaaGreatDoor.Fs
end
section
namespace Go.Proofs.YtlflclfhldghbaaGreatDoor.Fs
open Go Go.Proofs.YtlflclfhldghbaaGreatDoor.Ls P
def mP (b r : Int) : Int :=
  if 60000 < b * r % 120000 ∨ (b * r % 120000 = 60000 ∧ b * r / 120000 % 2 = 1) then b * r / 120000 + 1 else b * r / 120000
theorem bit1 {q : Int} (h1 : 0 ≤ q) (h2 : q ≤ 18446744073709551615) : IntKind.u64.wrap ((((q % (((2 ^ 64) : Nat) : Int)).toNat &&& (1 % (((2 ^ 64) : Nat) : Int)).toNat) : Nat) : Int) = q % 2 := by
  have e0 : (((2 ^ 64) : Nat) : Int) = 18446744073709551616 := by rfl
  have e1 : q % (((2 ^ 64) : Nat) : Int) = q := by rw [e0]; omega
  have e2 : (1 % (((2 ^ 64) : Nat) : Int)).toNat = 1 := by rfl
  rw [e1, e2, Nat.and_one_is_mod]
  have e3 : ((q.toNat % 2 : Nat) : Int) = q % 2 := by omega
  rw [e3]
  exact wu64 (by omega) (by omega)
theorem month {b r : Int} (hb : 0 ≤ b) (hb2 : b ≤ 10000000000000) (hr : 0 ≤ r) (hr2 : r ≤ 100000) : F_month (b, r, ()) () = ⟨true, false, (mP b r, true, ()), (), ()⟩ := by
  have hp0 : 0 ≤ b * r := Int.mul_nonneg hb hr
  have hp1 : b * r ≤ 10000000000000 * 100000 := Int.mul_le_mul hb2 hr2 hr (by omega)
  have n1 : decide (b < 0) = false := by simp; omega
  have n2 : decide (r ≥ 0) = true := by simp; omega
  have n3 : decide (r ≤ 100000) = true := by simp; omega
  have n4 : decide (r < 0) = false := by simp; omega
  have n5 : decide ((120000 : Int) < 0) = false := rfl
  have wb : IntKind.u64.wrap b = b := wu64 hb (by omega)
  have wr : IntKind.u64.wrap r = r := wu64 hr (by omega)
  have wc : IntKind.u64.wrap 120000 = 120000 := wu64 (by omega) (by omega)
  have hmul := mul64 hb (by omega) hr (by omega) (show b * r ≤ 18446744073709551615 by omega)
  have hdiv := div64 hp0 (show b * r ≤ 18446744073709551615 by omega) (show (0 : Int) < 120000 by omega)
  have key : F_mulDiv (b, r, (120000 : Int), ()) () = ⟨true, false, (mP b r, true, ()), (), ()⟩ := by
    rw [F_mulDiv_eq]
    simp only [n1, n4, n5, cond_true, cond_false, wb, wr, wc, hmul, hdiv]
    have e1 : ((120000 : Int) == 0) = false := rfl
    have e2 : decide ((0 : Int) ≥ 120000) = false := rfl
    have e3 : (!(!false == false) == false) = false := rfl
    unfold mP
    generalize hQ : b * r / 120000 = q
    generalize hM : b * r % 120000 = m
    have hq0 : 0 ≤ q := by omega
    have hq1 : q ≤ 10000000000000 := by omega
    have hm0 : 0 ≤ m := by omega
    have hm1 : m < 120000 := by omega
    have w1 : IntKind.u64.wrap (120000 - m) = 120000 - m := wu64 (by omega) (by omega)
    have w2 : IntKind.u64.wrap (q + 1) = q + 1 := wu64 (by omega) (by omega)
    have e4 : (q + 1 == 0) = false := by simp; omega
    simp only [e1, e2, e3, cond_true, cond_false, w1, w2, bit1 hq0 (by omega), e4, Bool.and_true, Bool.true_and]
    rw [withSign_pos (by omega) (by omega), withSign_pos (by omega) (by omega)]
    by_cases c1 : m > 120000 - m
    · have d1 : decide (m > 120000 - m) = true := by simpa using c1
      simp only [d1, cond_true]
      rw [if_pos (by omega)]
      simp
    · have d1 : decide (m > 120000 - m) = false := by simpa using c1
      simp only [d1, cond_false]
      by_cases c2 : m = 120000 - m
      · have d2 : (m == 120000 - m) = true := by simpa using c2
        simp only [d2, cond_true]
        by_cases c3 : q % 2 = 1
        · have d3 : (q % 2 == 1) = true := by simpa using c3
          simp only [d3, cond_true]
          rw [if_pos (by omega)]
          simp
        · have d3 : (q % 2 == 1) = false := by simpa using c3
          simp only [d3, cond_false]
          rw [if_neg (by omega)]
          simp
      · have d2 : (m == 120000 - m) = false := by simpa using c2
        simp only [d2, cond_false]
        rw [if_neg (by omega)]
        simp
  rw [F_month_eq]
  simp only [n1, n2, n3, cond_true, cond_false, key, Bool.and_true, Bool.not_true]
end Go.Proofs.YtlflclfhldghbaaGreatDoor.Fs
namespace Go.Proofs.YtlflclfhldghbaaGreatDoor.Fs
open Go Go.Proofs.YtlflclfhldghbaaGreatDoor.Ls P
end Go.Proofs.YtlflclfhldghbaaGreatDoor.Fs
end
section
namespace Go.Proofs.YtlflclfhldghbaaGreatDoor.Fs
open Go Go.Proofs.YtlflclfhldghbaaGreatDoor.Ls P
theorem mP_nonneg {b r : Int} (hb : 0 ≤ b) (hr : 0 ≤ r) : 0 ≤ mP b r := by
  have := Int.mul_nonneg hb hr
  unfold mP; split <;> omega
theorem mP_le {b r : Int} (hb : 0 ≤ b) (hb2 : b ≤ 10000000000000) (hr : 0 ≤ r) (hr2 : r ≤ 100000) : mP b r ≤ 10000000000000 := by
  have : b * r ≤ 10000000000000 * 100000 := Int.mul_le_mul hb2 hr2 hr (by omega)
  unfold mP; split <;> omega
def payP : Nat → Int → Int → Int → Bool
  | 0, _, _, _ => false
  | n + 1, p, b, r => if p ≤ mP b r then false else if b ≤ p - mP b r then true else payP n p (b - (p - mP b r)) r
theorem L_pays {r t11 : Int} (hr : 0 ≤ r) (hr2 : r ≤ 100000) (ht2 : t11 ≤ 1000000) {p : Int} (hp : 0 ≤ p) (hp2 : p ≤ 9223372036854775807) :
    ∀ (n k : Nat) (b t12 : Int), n < k → 0 ≤ t12 → t11 - t12 = n → 0 ≤ b → b ≤ 10000000000000 → L_pays_3 k ((p, b, r, t11, t12, ()), ()) = ⟨true, false, payP n p b r, (), ()⟩
  | n, 0, b, t12, hk, _, _, _, _ => by omega
  | 0, k + 1, b, t12, hk, h0, h1, hb, hb2 => by
    rw [L_pays_3_eq]
    have : decide (t12 < t11) = false := by simp; omega
    simp only [this, cond_false]
    rfl
  | n + 1, k + 1, b, t12, hk, h0, h1, hb, hb2 => by
    rw [L_pays_3_eq]
    have d0 : decide (t12 < t11) = true := by simp; omega
    have hm := month hb hb2 hr hr2
    have g1 := mP_nonneg hb hr
    have g2 := mP_le hb hb2 hr hr2
    simp only [hm, d0, cond_true]
    have w1 : IntKind.i64.wrap (p - mP b r) = p - mP b r := w64 (by omega) (by omega)
    have w3 : IntKind.i64.wrap (t12 + 1) = t12 + 1 := w64 (by omega) (by omega)
    simp only [w1, w3, payP]
    by_cases c1 : p ≤ mP b r
    · have d1 : decide (p ≤ mP b r) = true := by simpa using c1
      simp only [d1, cond_true]; rw [if_pos c1]
    · have d1 : decide (p ≤ mP b r) = false := by simpa using c1
      simp only [d1, cond_false]; rw [if_neg c1]
      by_cases c2 : b ≤ p - mP b r
      · have d2 : decide (b ≤ p - mP b r) = true := by simpa using c2
        simp only [d2, cond_true]; rw [if_pos c2]
      · have d2 : decide (b ≤ p - mP b r) = false := by simpa using c2
        have w2 : IntKind.i64.wrap (b - (p - mP b r)) = b - (p - mP b r) := w64 (by omega) (by omega)
        simp only [d2, cond_false, w2]; rw [if_neg c2]
        rw [L_pays hr hr2 ht2 hp hp2 n k (b - (p - mP b r)) (t12 + 1) (by omega) (by omega) (by omega) (by omega) (by omega)]
        rfl
end Go.Proofs.YtlflclfhldghbaaGreatDoor.Fs
namespace Go.Proofs.YtlflclfhldghbaaGreatDoor.Fs
open Go Go.Proofs.YtlflclfhldghbaaGreatDoor.Ls P
end Go.Proofs.YtlflclfhldghbaaGreatDoor.Fs
namespace Go.Proofs.YtlflclfhldghbaaGreatDoor.Fs
open Go Go.Proofs.YtlflclfhldghbaaGreatDoor.Ls P
theorem pays {p b r c : Int} (hp : 0 ≤ p) (hp2 : p ≤ 9223372036854775807) (hb : 0 ≤ b) (hb2 : b ≤ 10000000000000) (hr : 0 ≤ r) (hr2 : r ≤ 100000) (hc : 0 ≤ c) (hc2 : c ≤ 1000000) :
    F_pays (p, b, r, c, ()) () = ⟨true, false, payP c.toNat p b r, (), ()⟩ := by
  rw [F_pays_eq]
  exact L_pays hr hr2 hc2 hp hp2 c.toNat _ b 0 (by show c.toNat < c.toNat + 2; omega) (by omega) (by omega) hb hb2
end Go.Proofs.YtlflclfhldghbaaGreatDoor.Fs
end
section
namespace Go.Proofs.YtlflclfhldghbaaGreatDoor.Fs
open Go Go.Proofs.YtlflclfhldghbaaGreatDoor.Ls P
theorem mP_mono {b b' r : Int} (hr : 0 ≤ r) (h : b' ≤ b) : mP b' r ≤ mP b r := by
  have : b' * r ≤ b * r := Int.mul_le_mul_of_nonneg_right h hr
  unfold mP
  generalize b' * r = x at *
  generalize b * r = y at *
  split <;> split <;> omega
theorem payP_mono {r : Int} (hr : 0 ≤ r) : ∀ (n : Nat) {p p' b b' : Int}, p ≤ p' → b' ≤ b → payP n p b r = true → payP n p' b' r = true
  | 0, p, p', b, b', _, _, h => by simp [payP] at h
  | n + 1, p, p', b, b', h1, h2, h => by
    have hm := mP_mono hr h2
    unfold payP at h ⊢
    split at h
    · cases h
    · rename_i c1
      rw [if_neg (by omega)]
      split at h
      · rename_i c2
        rw [if_pos (by omega)]
      · rename_i c2
        split
        · rfl
        · rename_i c3
          exact payP_mono hr n h1 (by omega) h
end Go.Proofs.YtlflclfhldghbaaGreatDoor.Fs
end
section
namespace Go.Proofs.YtlflclfhldghbaaGreatDoor.Fs
open Go Go.Proofs.YtlflclfhldghbaaGreatDoor.Ls P
def isLeast (n : Nat) (b r v : Int) : Prop := 1 ≤ v ∧ v ≤ 9223372036854775807 ∧ payP n v b r = true ∧ ∀ u, 1 ≤ u → u < v → payP n u b r = false
theorem L_least {b r c : Int} (hb : 0 ≤ b) (hb2 : b ≤ 10000000000000) (hr : 0 ≤ r) (hr2 : r ≤ 100000) (hc : 0 ≤ c) (hc2 : c ≤ 1000000) :
    ∀ (m k : Nat) (low high : Int), m < k → 1 ≤ low → low ≤ high → high ≤ 9223372036854775807 → high - low < 2 ^ m → payP c.toNat high b r = true → (∀ u, 1 ≤ u → u < low → payP c.toNat u b r = false) →
    ∃ v, L_least_2 k ((low, high, ((), (), (), ()), ()), (b, ()), (r, ()), (c, ()), ()) = ⟨true, false, v, ((), (), (), ()), ()⟩ ∧ isLeast c.toNat b r v
  | m, 0, low, high, hk, _, _, _, _, _, _ => by omega
  | m, k + 1, low, high, hk, h1, h2, h3, h4, h5, h6 => by
    rw [L_least_2_eq]
    by_cases c0 : low < high
    · have d0 : decide (low < high) = true := by simpa using c0
      obtain ⟨m', rfl⟩ : ∃ m', m = m' + 1 := by
        cases m with
        | zero => simp at h4; omega
        | succ m' => exact ⟨m', rfl⟩
      have hpow : (2 : Int) ^ (m' + 1) = 2 * 2 ^ m' := by rw [Int.pow_succ]; omega
      have w1 : IntKind.i64.wrap (high - low) = high - low := w64 (by omega) (by omega)
      have t1 : (high - low).tdiv 2 = (high - low) / 2 := Int.tdiv_eq_ediv_of_nonneg (by omega)
      have w2 : IntKind.i64.wrap ((high - low) / 2) = (high - low) / 2 := w64 (by omega) (by omega)
      have w3 : IntKind.i64.wrap (low + (high - low) / 2) = low + (high - low) / 2 := w64 (by omega) (by omega)
      have w4 : IntKind.i64.wrap (low + (high - low) / 2 + 1) = low + (high - low) / 2 + 1 := w64 (by omega) (by omega)
      have hp := pays (p := low + (high - low) / 2) (by omega) (by omega) hb hb2 hr hr2 hc hc2
      simp only [w1, t1, w2, w3, w4, hp, d0, cond_true]
      generalize hmid : low + (high - low) / 2 = mid at *
      have hml : low ≤ mid := by omega
      have hmh : mid < high := by omega
      cases hq : payP c.toNat mid b r with
      | true =>
        simp only [cond_true]
        obtain ⟨v, e, hv⟩ := L_least hb hb2 hr hr2 hc hc2 m' k low mid (by omega) h1 hml (by omega) (by omega) hq h6
        rw [e]; exact ⟨v, rfl, hv⟩
      | false =>
        simp only [cond_false]
        obtain ⟨v, e, hv⟩ := L_least hb hb2 hr hr2 hc hc2 m' k (mid + 1) high (by omega) (by omega) (by omega) h3 (by omega) h5 (fun u hu hul => by
          by_cases hx : payP c.toNat u b r = true
          · have := payP_mono hr c.toNat (show u ≤ mid by omega) (Int.le_refl b) hx
            rw [hq] at this; cases this
          · simpa using hx)
        rw [e]; exact ⟨v, rfl, hv⟩
    · have d0 : decide (low < high) = false := by simpa using c0
      have : low = high := by omega
      subst this
      simp only [d0, cond_false]
      exact ⟨low, rfl, h1, h3, h5, h6⟩
end Go.Proofs.YtlflclfhldghbaaGreatDoor.Fs
namespace Go.Proofs.YtlflclfhldghbaaGreatDoor.Fs
open Go Go.Proofs.YtlflclfhldghbaaGreatDoor.Ls P
end Go.Proofs.YtlflclfhldghbaaGreatDoor.Fs
end
section
namespace Go.Proofs.YtlflclfhldghbaaGreatDoor.Fs
open Go Go.Proofs.YtlflclfhldghbaaGreatDoor.Ls P
theorem payP_max {b r c : Int} (hb : 0 ≤ b) (hb2 : b ≤ 10000000000000) (hr : 0 ≤ r) (hr2 : r ≤ 100000) (hc : 1 ≤ c) : payP c.toNat 9223372036854775807 b r = true := by
  obtain ⟨n, hn⟩ : ∃ n, c.toNat = n + 1 := ⟨c.toNat - 1, by omega⟩
  have g1 := mP_nonneg hb hr
  have g2 := mP_le hb hb2 hr hr2
  rw [hn]; unfold payP
  rw [if_neg (by omega), if_pos (by omega)]
theorem levels {b r c : Int} (hb : 1 ≤ b) (hb2 : b ≤ 10000000000000) (hr : 0 ≤ r) (hr2 : r ≤ 100000) (hc : 1 ≤ c) (hc2 : c ≤ 120) :
    ∃ v, isLeast c.toNat b r v ∧ F_level (b, r, c, ()) () = ⟨true, false, (v, true, ()), (), ()⟩ := by
  have hmax := payP_max (c := c) (show 0 ≤ b by omega) hb2 hr hr2 hc
  obtain ⟨v, e, hv⟩ := L_least (c := c) (show 0 ≤ b by omega) hb2 hr hr2 (by omega) (by omega) 63 200 1 9223372036854775807 (by omega) (by omega) (by omega) (by omega) (by omega) hmax (fun u h1 h2 => by omega)
  have d1 : decide (b < 1) = false := by simp; omega
  have d2 : decide (r ≥ 0) = true := by simp; omega
  have d3 : decide (r ≤ 100000) = true := by simp; omega
  have d4 : decide (c < 1) = false := by simp; omega
  have d5 : decide (c > 120) = false := by simp; omega
  have hp := pays (p := 9223372036854775807) (by omega) (by omega) (show 0 ≤ b by omega) hb2 hr hr2 (show 0 ≤ c by omega) (by omega)
  rw [hmax] at hp
  have hl : F_least ((1 : Int), (9223372036854775807 : Int), ((), (), (), ()), ()) ((b, ()), (r, ()), (c, ()), ()) = ⟨true, false, v, ((), (), (), ()), ()⟩ := by
    have hk : ∀ a h, k_least a h = 200 := fun _ _ => rfl
    rw [F_least_eq, hk]; exact e
  refine ⟨v, hv, ?_⟩
  · rw [F_level_eq]
    simp only [d1, d2, d3, d4, d5, cond_true, cond_false, Bool.not_true, hp, hl, Bool.and_true]
end Go.Proofs.YtlflclfhldghbaaGreatDoor.Fs
end
section
namespace Go.Proofs.YtlflclfhldghbaaGreatDoor.Cal
def lp (y : Int) : Int := if y % 4 = 0 ∧ (y % 100 ≠ 0 ∨ y % 400 = 0) then 1 else 0
theorem lp_01 (y : Int) : lp y = 0 ∨ lp y = 1 := by unfold lp; split <;> simp
def dby (y : Int) : Int := 365 * (y - 1) + (y - 1) / 4 - (y - 1) / 100 + (y - 1) / 400
theorem dby_succ (y : Int) : dby (y + 1) = dby y + 365 + lp y := by
  unfold dby lp
  split <;> omega
theorem dby_le (n : Nat) : ∀ y : Int, dby y + 365 * n ≤ dby (y + n) := by
  induction n with
  | zero => intro y; simp
  | succ n ih =>
    intro y
    have h1 := ih (y + 1)
    have h2 := dby_succ y
    have h3 := lp_01 y
    rw [show y + ((n + 1 : Nat) : Int) = y + 1 + (n : Int) by omega]
    omega
def A (m : Int) : Int := if m ≤ 1 then 0 else if m = 2 then 31 else if m = 3 then 59 else if m = 4 then 90 else if m = 5 then 120 else if m = 6 then 151 else if m = 7 then 181 else if m = 8 then 212 else if m = 9 then 243 else if m = 10 then 273 else if m = 11 then 304 else if m = 12 then 334 else 365
def cum (y m : Int) : Int := A m + (if 2 < m then lp y else 0)
def mlen (y m : Int) : Int := if m = 2 then 28 + lp y else if m = 4 ∨ m = 6 ∨ m = 9 ∨ m = 11 then 30 else 31
theorem months {m : Int} (h : 1 ≤ m) (h' : m ≤ 12) : m = 1 ∨ m = 2 ∨ m = 3 ∨ m = 4 ∨ m = 5 ∨ m = 6 ∨ m = 7 ∨ m = 8 ∨ m = 9 ∨ m = 10 ∨ m = 11 ∨ m = 12 := by omega
theorem cum_succ (y : Int) {m : Int} (h : 1 ≤ m) (h' : m ≤ 12) : cum y (m + 1) = cum y m + mlen y m := by
  rcases months h h' with rfl | rfl | rfl | rfl | rfl | rfl | rfl | rfl | rfl | rfl | rfl | rfl <;> simp [cum, A, mlen] <;> omega
theorem cum_one (y : Int) : cum y 1 = 0 := by simp [cum, A]
theorem cum_end (y : Int) : cum y 13 = 365 + lp y := by simp [cum, A]
theorem mlen_range (y m : Int) : 28 ≤ mlen y m ∧ mlen y m ≤ 31 := by
  have := lp_01 y
  unfold mlen; split
  · omega
  · split <;> omega
theorem cum_le (y : Int) (n : Nat) : ∀ m : Int, 1 ≤ m → m + n ≤ 13 → cum y m + 28 * n ≤ cum y (m + n) := by
  induction n with
  | zero => intro m _ _; simp
  | succ n ih =>
    intro m h h'
    have h1 := ih (m + 1) (by omega) (by omega)
    have h2 := cum_succ y h (by omega)
    have h3 := mlen_range y m
    rw [show m + ((n + 1 : Nat) : Int) = m + 1 + (n : Int) by omega]
    omega
theorem cum_range (y : Int) {m : Int} (h : 1 ≤ m) (h' : m ≤ 13) : 0 ≤ cum y m ∧ cum y m ≤ 366 := by
  have a := cum_le y (m - 1).toNat 1 (by omega) (by omega)
  rw [cum_one, show (1 : Int) + ((m - 1).toNat : Int) = m by omega] at a
  have b := cum_le y (13 - m).toNat m (by omega) (by omega)
  rw [show m + ((13 - m).toNat : Int) = 13 by omega, cum_end] at b
  have := lp_01 y
  omega
structure IsDate (day y m d : Int) : Prop where
  y1 : 1 ≤ y
  y2 : y ≤ 9999
  m1 : 1 ≤ m
  m2 : m ≤ 12
  d1 : 1 ≤ d
  d2 : d ≤ mlen y m
  num : dby y + cum y m + d = day
theorem IsDate.inyear {day y m d : Int} (h : IsDate day y m d) : dby y < day ∧ day ≤ dby (y + 1) := by
  have a := cum_range y h.m1 (by have := h.m2; omega)
  have b := cum_succ y h.m1 h.m2
  have c := cum_le y (12 - m).toNat (m + 1) (by have := h.m1; omega) (by have := h.m2; omega)
  rw [show m + 1 + ((12 - m).toNat : Int) = 13 by have := h.m2; omega, cum_end] at c
  have e := dby_succ y
  have := h.d1; have := h.d2; have := h.num
  omega
theorem IsDate.one {day y m d y' m' d' : Int} (h : IsDate day y m d) (k : IsDate day y' m' d') : y = y' ∧ m = m' ∧ d = d' := by
  have hy := h.inyear
  have ky := k.inyear
  have e : y = y' := by
    rcases Int.lt_trichotomy y y' with c | c | c
    · have a := dby_le (y' - (y + 1)).toNat (y + 1)
      rw [show y + 1 + ((y' - (y + 1)).toNat : Int) = y' by omega] at a
      omega
    · exact c
    · have a := dby_le (y - (y' + 1)).toNat (y' + 1)
      rw [show y' + 1 + ((y - (y' + 1)).toNat : Int) = y by omega] at a
      omega
  subst e
  have hm := h.num; have km := k.num; have h1 := h.d1; have h2 := h.d2; have k1 := k.d1; have k2 := k.d2
  have hs := cum_succ y h.m1 h.m2
  have ks := cum_succ y k.m1 k.m2
  have e : m = m' := by
    rcases Int.lt_trichotomy m m' with c | c | c
    · have a := cum_le y (m' - (m + 1)).toNat (m + 1) (by have := h.m1; omega) (by have := k.m2; omega)
      rw [show m + 1 + ((m' - (m + 1)).toNat : Int) = m' by omega] at a
      omega
    · exact c
    · have a := cum_le y (m - (m' + 1)).toNat (m' + 1) (by have := k.m1; omega) (by have := h.m2; omega)
      rw [show m' + 1 + ((m - (m' + 1)).toNat : Int) = m by omega] at a
      omega
  subst e
  exact ⟨rfl, rfl, by omega⟩
theorem lp_last {q h f o : Int} (h03 : 0 ≤ h ∧ h ≤ 3) (f24 : 0 ≤ f ∧ f ≤ 24) (o3 : o = 3) (hh : f = 24 → h = 3) : lp (400 * q + 1 + (100 * h + 4 * f + o)) = 1 := by
  subst o3
  have e4 : (400 * q + 1 + (100 * h + 4 * f + 3)) % 4 = 0 := by omega
  unfold lp
  rw [if_pos]
  refine ⟨e4, ?_⟩
  by_cases f24' : f = 24
  · have h3 := hh f24'
    subst h3; subst f24'
    exact Or.inr (by omega)
  · have : (400 * q + 1 + (100 * h + 4 * f + 3)) % 100 = 4 * f + 4 := by omega
    exact Or.inl (by omega)
set_option maxHeartbeats 1000000 in
theorem year_of {day q r h r1 f r2 o l : Int} (hd : 1 ≤ day) (hd' : day ≤ 3652059) (hq : q = (day - 1) / 146097) (hr : r = (day - 1) % 146097)
    (hh : h = if r / 36524 < 3 then r / 36524 else 3) (hr1 : r1 = r - h * 36524) (hf : f = r1 / 1461) (hr2 : r2 = r1 % 1461) (ho : o = if r2 / 365 < 3 then r2 / 365 else 3) (hl : l = r2 - o * 365) :
    0 ≤ l ∧ l < 365 + lp (400 * q + 1 + (100 * h + 4 * f + o)) ∧ dby (400 * q + 1 + (100 * h + 4 * f + o)) + l + 1 = day ∧ 1 ≤ 400 * q + 1 + (100 * h + 4 * f + o) ∧ 400 * q + 1 + (100 * h + 4 * f + o) ≤ 9999 ∧ 0 ≤ h ∧ h ≤ 3 ∧ 0 ≤ f ∧ f ≤ 24 ∧ 0 ≤ o ∧ o ≤ 3 ∧ 0 ≤ q ∧ q ≤ 24 ∧ 0 ≤ r ∧ 0 ≤ r1 ∧ 0 ≤ r2 := by
  have q0 : 0 ≤ q := by omega
  have q24 : q ≤ 24 := by omega
  have r0 : 0 ≤ r := by omega
  have r9 : r ≤ 146096 := by omega
  have day_ : day - 1 = 146097 * q + r := by omega
  have h03 : 0 ≤ h ∧ h ≤ 3 := by rw [hh]; split <;> omega
  have r1r : 0 ≤ r1 ∧ r1 ≤ 36524 ∧ (h < 3 → r1 ≤ 36523) := by
    rw [hh] at hr1 ⊢
    split at hr1 <;> omega
  have f24 : 0 ≤ f ∧ f ≤ 24 := by omega
  have r2r : 0 ≤ r2 ∧ r2 ≤ 1460 := by omega
  have r1_ : r1 = 1461 * f + r2 := by omega
  have o03 : 0 ≤ o ∧ o ≤ 3 := by rw [ho]; split <;> omega
  have lr : 0 ≤ l ∧ l ≤ 365 ∧ (o < 3 → l ≤ 364) := by
    rw [ho] at hl ⊢
    split at hl <;> omega
  have r2_ : r2 = 365 * o + l := by omega
  have hlast : r = 36524 * h + r1 := by omega
  clear hh hq hr hf hr2 ho hl hr1
  have Y4 : (400 * q + 1 + (100 * h + 4 * f + o) - 1) / 4 = 100 * q + 25 * h + f := by omega
  have Y100 : (400 * q + 1 + (100 * h + 4 * f + o) - 1) / 100 = 4 * q + h := by omega
  have Y400 : (400 * q + 1 + (100 * h + 4 * f + o) - 1) / 400 = q := by omega
  have hdby : dby (400 * q + 1 + (100 * h + 4 * f + o)) = 146097 * q + 36524 * h + 1461 * f + 365 * o := by
    unfold dby; rw [Y4, Y100, Y400]; omega
  refine ⟨lr.1, ?_, by rw [hdby]; omega, by omega, ?_, h03.1, h03.2, f24.1, f24.2, o03.1, o03.2, q0, q24, r0, r1r.1, r2r.1⟩
  · have h01 := lp_01 (400 * q + 1 + (100 * h + 4 * f + o))
    generalize hz : lp (400 * q + 1 + (100 * h + 4 * f + o)) = z at h01
    clear Y4 Y100 Y400 hdby
    by_cases hl5 : l ≤ 364
    · clear r1_ r2_ hlast day_; omega
    · have o3 : o = 3 := by
        by_cases ho3 : o < 3
        · exact absurd (lr.2.2 ho3) hl5
        · clear r1_ r2_ hlast day_; omega
      have hh3 : f = 24 → h = 3 := fun e => by
        by_cases h3 : h < 3
        · have := r1r.2.2 h3
          clear day_ hlast
          omega
        · clear r1_ r2_ hlast day_; omega
      have hz1 := lp_last (q := q) h03 f24 o3 hh3
      rw [hz] at hz1
      clear r1_ r2_ hlast day_ hz; omega
  · clear Y4 Y100 Y400 hdby
    by_cases q24' : q = 24
    · subst q24'; omega
    · clear r1_ r2_ hlast day_; omega
end Go.Proofs.YtlflclfhldghbaaGreatDoor.Cal
end
section
namespace Go.Proofs.YtlflclfhldghbaaGreatDoor.Fs
open Go Go.Proofs.YtlflclfhldghbaaGreatDoor.Ls P Go.Proofs.YtlflclfhldghbaaGreatDoor.Cal
theorem lpB' (y : Int) : (lp y == 1) = ((y % 4 == 0) && (!(y % 100 == 0) || (y % 400 == 0))) := by
  unfold lp
  by_cases c4 : y % 4 = 0 <;> by_cases c100 : y % 100 = 0 <;> by_cases c400 : y % 400 = 0 <;> simp [c4, c100, c400]
theorem leap {y : Int} (h1 : 1 ≤ y) (h2 : y ≤ 9999) : F_leap (y, ()) () = ⟨true, false, (lp y == 1), (), ()⟩ := by
  rw [F_leap_eq]
  have d1 : decide (y < 1) = false := by simp; omega
  have d2 : decide (y > 9999) = false := by simp; omega
  simp only [d1, d2, cond_false]
  rw [Int.tmod_eq_emod_of_nonneg (by omega), Int.tmod_eq_emod_of_nonneg (by omega), Int.tmod_eq_emod_of_nonneg (by omega), lpB']
  simp only [bne]
  cases (y % 4 == 0) <;> cases (y % 100 == 0) <;> cases (y % 400 == 0) <;> rfl
theorem start {y m : Int} (h1 : 1 ≤ y) (h2 : y ≤ 9999) (m1 : 1 ≤ m) (m2 : m ≤ 12) : F_start (y, m, ()) () = ⟨true, false, cum y m, (), ()⟩ := by
  rw [F_start_eq]
  simp only [leap h1 h2]
  have := lp_01 y
  rcases months m1 m2 with rfl | rfl | rfl | rfl | rfl | rfl | rfl | rfl | rfl | rfl | rfl | rfl <;> rcases this with h | h <;> simp only [h] <;> first | rfl | (simp [cum, A, h]; first | done | rfl | exact ⟨⟨by decide, by decide⟩, rfl⟩)
theorem monthLen {y m : Int} : F_monthLen (y, m, ()) () = ⟨true, false, (if 1 ≤ y ∧ y ≤ 9999 ∧ 1 ≤ m ∧ m ≤ 12 then mlen y m else 0), (), ()⟩ := by
  rw [F_monthLen_eq]
  by_cases h1 : y < 1
  · have d : decide (y < 1) = true := by simpa using h1
    simp only [d, cond_true]; rw [if_neg (by omega)]
  have d1 : decide (y < 1) = false := by simpa using h1
  by_cases h2 : y > 9999
  · have d : decide (y > 9999) = true := by simpa using h2
    simp only [d1, d, cond_true, cond_false]; rw [if_neg (by omega)]
  have d2 : decide (y > 9999) = false := by simpa using h2
  by_cases h3 : m < 1
  · have d : decide (m < 1) = true := by simpa using h3
    simp only [d1, d2, d, cond_true, cond_false]; rw [if_neg (by omega)]
  have d3 : decide (m < 1) = false := by simpa using h3
  by_cases h4 : m > 12
  · have d : decide (m > 12) = true := by simpa using h4
    simp only [d1, d2, d3, d, cond_true, cond_false]; rw [if_neg (by omega)]
  have d4 : decide (m > 12) = false := by simpa using h4
  simp only [d1, d2, d3, d4, cond_false]
  rw [if_pos (by omega)]
  simp only [leap (show 1 ≤ y by omega) (show y ≤ 9999 by omega)]
  have := lp_01 y
  rcases months (show 1 ≤ m by omega) (show m ≤ 12 by omega) with rfl | rfl | rfl | rfl | rfl | rfl | rfl | rfl | rfl | rfl | rfl | rfl <;> rcases this with h | h <;> simp only [h] <;> simp [mlen, h] <;> first | rfl | exact ⟨⟨by decide, by decide⟩, rfl⟩
end Go.Proofs.YtlflclfhldghbaaGreatDoor.Fs
end
section
namespace Go.Proofs.YtlflclfhldghbaaGreatDoor.Fs
open Go Go.Proofs.YtlflclfhldghbaaGreatDoor.Ls P Go.Proofs.YtlflclfhldghbaaGreatDoor.Cal
theorem dbyR {y : Int} (h1 : 1 ≤ y) (h2 : y ≤ 10000) : 0 ≤ dby y ∧ dby y ≤ 3652059 := by
  unfold dby; omega
end Go.Proofs.YtlflclfhldghbaaGreatDoor.Fs
end
section
namespace Go.Proofs.YtlflclfhldghbaaGreatDoor.Fs
open Go Go.Proofs.YtlflclfhldghbaaGreatDoor.Ls P Go.Proofs.YtlflclfhldghbaaGreatDoor.Cal
theorem L_civil_m {day y l : Int} (h1 : 1 ≤ y) (h2 : y ≤ 9999) (hl : l < 365 + lp y) (hd : dby y + l + 1 = day) : ∀ (n k : Nat) (m : Int), n < k → m + n = 12 → 1 ≤ m → cum y m ≤ l →
    ∃ m' d', IsDate day y m' d' ∧ L_civil_15 k (((), l, y, m, ()), ((0 : Int), (0 : Int), (0 : Int), ()), ()) = ⟨true, false, ((y, m', d', ()), true, ()), (), ()⟩
  | n, 0, m, hk, _, _, _ => by omega
  | n, k + 1, m, hk, hm, hm1, hc => by
    rw [L_civil_15_eq]
    have hs := cum_succ y hm1 (show m ≤ 12 by omega)
    have hr := cum_range y hm1 (show m ≤ 13 by omega)
    have hb := dbyR h1 (show y ≤ 10000 by omega)
    have hm2 : m ≤ 12 := by omega
    have h01 := lp_01 y
    have w1 : IntKind.i64.wrap (m + 1) = m + 1 := w64 (by omega) (by omega)
    have w2 : IntKind.i64.wrap (l - cum y m) = l - cum y m := w64 (by omega) (by omega)
    have w3 : IntKind.i64.wrap (l - cum y m + 1) = l - cum y m + 1 := w64 (by omega) (by omega)
    simp only [w1, start h1 h2 hm1 hm2, w2, w3]
    by_cases c12 : m < 12
    · have d12 : decide (m < 12) = true := by simpa using c12
      simp only [d12, cond_true, start h1 h2 (show 1 ≤ m + 1 by omega) (show m + 1 ≤ 12 by omega)]
      by_cases c : l ≥ cum y (m + 1)
      · have d : decide (l ≥ cum y (m + 1)) = true := by simpa using c
        obtain ⟨n', rfl⟩ : ∃ n', n = n' + 1 := ⟨n - 1, by omega⟩
        simp only [d, cond_true]
        obtain ⟨m', d', hi, e⟩ := L_civil_m h1 h2 hl hd n' k (m + 1) (by omega) (by omega) (by omega) c
        rw [e]
        exact ⟨m', d', hi, rfl⟩
      · have d : decide (l ≥ cum y (m + 1)) = false := by simpa using c
        simp only [d, cond_false]
        exact ⟨m, l - cum y m + 1, ⟨h1, h2, hm1, hm2, by omega, by omega, by omega⟩, rfl⟩
    · have d12 : decide (m < 12) = false := by simpa using c12
      have : m = 12 := by omega
      subst this
      have h13 := cum_end y
      have : cum y (12 + 1) = cum y 13 := rfl
      simp only [d12, cond_false]
      exact ⟨12, l - cum y 12 + 1, ⟨h1, h2, hm1, hm2, by omega, by omega, by omega⟩, rfl⟩
theorem civil {day : Int} (h1 : 1 ≤ day) (h2 : day ≤ 3652059) : ∃ y m d, IsDate day y m d ∧ F_civil (day, ()) () = ⟨true, false, ((y, m, d, ()), true, ()), (), ()⟩ := by
  rw [F_civil_eq]
  have e1 : decide (day < 1) = false := by simp; omega
  have e2 : decide (day > 3652059) = false := by simp; omega
  have hk : ∀ a h, k_civil a h = 200 := fun _ _ => rfl
  simp only [e1, e2, cond_false, hk]
  have mn : ∀ x : Int, (if (3 < x) then (3 : Int) else x) = if x < 3 then x else 3 := by intro x; split <;> split <;> omega
  have w1 : IntKind.i64.wrap (day - 1) = day - 1 := w64 (by omega) (by omega)
  have t1 : (day - 1).tdiv 146097 = (day - 1) / 146097 := Int.tdiv_eq_ediv_of_nonneg (by omega)
  have t2 : (day - 1).tmod 146097 = (day - 1) % 146097 := Int.tmod_eq_emod_of_nonneg (by omega)
  simp only [w1, t1, t2, mn]
  obtain ⟨q, hq⟩ : ∃ q, (day - 1) / 146097 = q := ⟨_, rfl⟩
  obtain ⟨r, hr⟩ : ∃ r, (day - 1) % 146097 = r := ⟨_, rfl⟩
  have r0 : 0 ≤ r := by omega
  have r9 : r ≤ 146096 := by omega
  have t3 : r.tdiv 36524 = r / 36524 := Int.tdiv_eq_ediv_of_nonneg r0
  have w2 : IntKind.i64.wrap (r / 36524) = r / 36524 := w64 (by omega) (by omega)
  simp only [hq, hr, t3, w2]
  obtain ⟨h, hh⟩ : ∃ h, (if r / 36524 < 3 then r / 36524 else 3) = h := ⟨_, rfl⟩
  have h03 : 0 ≤ h ∧ h ≤ 3 := by rw [← hh]; split <;> omega
  have hr36 : h * 36524 ≤ r := by rw [← hh]; split <;> omega
  simp only [hh]
  have w3 : IntKind.i64.wrap (h * 36524) = h * 36524 := w64 (by omega) (by omega)
  have w4 : IntKind.i64.wrap (r - h * 36524) = r - h * 36524 := w64 (by omega) (by omega)
  simp only [w3, w4]
  obtain ⟨r1, hr1⟩ : ∃ r1, r - h * 36524 = r1 := ⟨_, rfl⟩
  simp only [hr1]
  have r10 : 0 ≤ r1 := by omega
  have t4 : r1.tmod 1461 = r1 % 1461 := Int.tmod_eq_emod_of_nonneg r10
  have t5 : r1.tdiv 1461 = r1 / 1461 := Int.tdiv_eq_ediv_of_nonneg r10
  simp only [t4, t5]
  obtain ⟨f, hf⟩ : ∃ f, r1 / 1461 = f := ⟨_, rfl⟩
  obtain ⟨r2, hr2⟩ : ∃ r2, r1 % 1461 = r2 := ⟨_, rfl⟩
  have r20 : 0 ≤ r2 := by omega
  have t6 : r2.tdiv 365 = r2 / 365 := Int.tdiv_eq_ediv_of_nonneg r20
  have w5 : IntKind.i64.wrap (r2 / 365) = r2 / 365 := w64 (by omega) (by omega)
  simp only [hf, hr2, t6, w5]
  obtain ⟨o, ho⟩ : ∃ o, (if r2 / 365 < 3 then r2 / 365 else 3) = o := ⟨_, rfl⟩
  simp only [ho]
  obtain ⟨l, hl⟩ : ∃ l, r2 - o * 365 = l := ⟨_, rfl⟩
  obtain ⟨l0, l1, hnum, y1, y2, b1, b2, b3, b4, b5, b6, b7, b8, b9, b10, b11⟩ := year_of (day := day) (q := q) (r := r) (h := h) (r1 := r1) (f := f) (r2 := r2) (o := o) (l := l) h1 h2 hq.symm hr.symm hh.symm hr1.symm hf.symm hr2.symm ho.symm hl.symm
  have w6 : IntKind.i64.wrap (o * 365) = o * 365 := w64 (by omega) (by omega)
  have w7 : IntKind.i64.wrap l = l := w64 (by omega) (by omega)
  have w8 : IntKind.i64.wrap (400 * IntKind.i64.wrap q) = 400 * q := by rw [w64 (x := q) (by omega) (by omega)]; exact w64 (by omega) (by omega)
  have w9 : IntKind.i64.wrap (400 * q + 1) = 400 * q + 1 := w64 (by omega) (by omega)
  have w10 : IntKind.i64.wrap (100 * h) = 100 * h := w64 (by omega) (by omega)
  have w11 : IntKind.i64.wrap (4 * IntKind.i64.wrap f) = 4 * f := by rw [w64 (x := f) (by omega) (by omega)]; exact w64 (by omega) (by omega)
  have w12 : IntKind.i64.wrap (100 * h + 4 * f) = 100 * h + 4 * f := w64 (by omega) (by omega)
  have w13 : IntKind.i64.wrap (100 * h + 4 * f + o) = 100 * h + 4 * f + o := w64 (by omega) (by omega)
  have w14 : IntKind.i64.wrap (400 * q + 1 + (100 * h + 4 * f + o)) = 400 * q + 1 + (100 * h + 4 * f + o) := w64 (by omega) (by omega)
  simp only [w6, hl, w7, w8, w9, w10, w11, w12, w13, w14]
  obtain ⟨m', d', hi, e⟩ := L_civil_m (day := day) y1 y2 l1 hnum 11 200 1 (by omega) (by omega) (by omega) (by rw [cum_one]; exact l0)
  rw [e]
  exact ⟨_, m', d', hi, rfl⟩
theorem civils {day : Int} (h1 : 1 ≤ day) (h2 : day ≤ 3652059) : ∃ y m d, IsDate day y m d ∧ F_civil (day, ()) () = ⟨true, false, ((y, m, d, ()), true, ()), (), ()⟩ := civil h1 h2
end Go.Proofs.YtlflclfhldghbaaGreatDoor.Fs
end
section
namespace Go.Proofs.YtlflclfhldghbaaGreatDoor.Fs
open Go Go.Proofs.YtlflclfhldghbaaGreatDoor.Ls P Go.Proofs.YtlflclfhldghbaaGreatDoor.Cal
theorem number {y m d : Int} (h1 : 1 ≤ y) (h2 : y ≤ 9999) (m1 : 1 ≤ m) (m2 : m ≤ 12) (d1 : 1 ≤ d) (d2 : d ≤ mlen y m) : F_number ((y, m, d, ()), ()) () = ⟨true, false, (dby y + cum y m + d, true, ()), (), ()⟩ := by
  rw [F_number_eq]
  have hr := mlen_range y m
  have hb := dbyR h1 (show y ≤ 10000 by omega)
  have h01 := lp_01 y
  have e1 : decide (d < 1) = false := by simp; omega
  have e2 : decide (d > mlen y m) = false := by simp; omega
  have w1 : IntKind.i64.wrap (y - 1) = y - 1 := w64 (by omega) (by omega)
  have t1 : (y - 1).tdiv 4 = (y - 1) / 4 := Int.tdiv_eq_ediv_of_nonneg (by omega)
  have t2 : (y - 1).tdiv 100 = (y - 1) / 100 := Int.tdiv_eq_ediv_of_nonneg (by omega)
  have t3 : (y - 1).tdiv 400 = (y - 1) / 400 := Int.tdiv_eq_ediv_of_nonneg (by omega)
  have w2 : IntKind.i64.wrap (365 * (y - 1)) = 365 * (y - 1) := w64 (by omega) (by omega)
  have w3 : IntKind.i64.wrap ((y - 1) / 4) = (y - 1) / 4 := w64 (by omega) (by omega)
  have w4 : IntKind.i64.wrap ((y - 1) / 100) = (y - 1) / 100 := w64 (by omega) (by omega)
  have w5 : IntKind.i64.wrap ((y - 1) / 400) = (y - 1) / 400 := w64 (by omega) (by omega)
  have w6 : IntKind.i64.wrap (365 * (y - 1) + (y - 1) / 4) = 365 * (y - 1) + (y - 1) / 4 := w64 (by omega) (by omega)
  have w7 : IntKind.i64.wrap (365 * (y - 1) + (y - 1) / 4 - (y - 1) / 100) = 365 * (y - 1) + (y - 1) / 4 - (y - 1) / 100 := w64 (by omega) (by omega)
  have w8 : IntKind.i64.wrap (365 * (y - 1) + (y - 1) / 4 - (y - 1) / 100 + (y - 1) / 400) = dby y := w64 (by omega) (by omega)
  have hml : F_monthLen (y, m, ()) () = ⟨true, false, mlen y m, (), ()⟩ := by rw [monthLen, if_pos ⟨h1, h2, m1, m2⟩]
  simp only [hml, e1, e2, cond_false, leap h1 h2, w1, t1, t2, t3, w2, w3, w4, w5, w6, w7, w8]
  clear w1 t1 t2 t3 w2 w3 w4 w5 w6 w7 w8
  have hA : A m ≤ 334 ∧ 0 ≤ A m := by
    rcases months m1 m2 with rfl | rfl | rfl | rfl | rfl | rfl | rfl | rfl | rfl | rfl | rfl | rfl <;> simp [A]
  have hget : ([(0 : Int), (31 : Int), (59 : Int), (90 : Int), (120 : Int), (151 : Int), (181 : Int), (212 : Int), (243 : Int), (273 : Int), (304 : Int), (334 : Int), (365 : Int)] : List Int).getD ((IntKind.i64.wrap (m - 1)).toNat) (0 : Int) = A m := by
    rcases months m1 m2 with rfl | rfl | rfl | rfl | rfl | rfl | rfl | rfl | rfl | rfl | rfl | rfl <;> rfl
  have hbd : ((decide (0 ≤ (IntKind.i64.wrap (m - 1))) && decide ((IntKind.i64.wrap (m - 1)) < ((13 : Nat) : Int))) = true) := by
    rcases months m1 m2 with rfl | rfl | rfl | rfl | rfl | rfl | rfl | rfl | rfl | rfl | rfl | rfl <;> rfl
  have hbl : Nat.blt ((IntKind.i64.wrap (m - 1)).toNat) ([(0 : Int), (31 : Int), (59 : Int), (90 : Int), (120 : Int), (151 : Int), (181 : Int), (212 : Int), (243 : Int), (273 : Int), (304 : Int), (334 : Int), (365 : Int)] : List Int).length = true := by
    rcases months m1 m2 with rfl | rfl | rfl | rfl | rfl | rfl | rfl | rfl | rfl | rfl | rfl | rfl <;> rfl
  simp only [hget, hbd, hbl]
  generalize dby y = D at *
  have w1 : IntKind.i64.wrap (D + A m) = D + A m := w64 (by omega) (by omega)
  have w2 : IntKind.i64.wrap (D + A m + d) = D + A m + d := w64 (by omega) (by omega)
  have w3 : IntKind.i64.wrap (D + A m + d + 1) = D + A m + d + 1 := w64 (by omega) (by omega)
  simp only [w1, w2, w3]
  unfold cum
  by_cases c : 2 < m
  · have c' : decide (m > 2) = true := by simpa using c
    simp only [c', cond_true, if_pos c]
    rcases h01 with h | h
    · simp [h]
    · simp [h]
      rw [show D + A m + d + 1 = D + (A m + 1) + d by clear w1 w2 w3; omega]
  · have c' : decide (m > 2) = false := by simpa using c
    simp only [c', cond_false, if_neg c]
    simp
end Go.Proofs.YtlflclfhldghbaaGreatDoor.Fs
end
section
namespace Go.Proofs.YtlflclfhldghbaaGreatDoor.Fs
open Go Go.Proofs.YtlflclfhldghbaaGreatDoor.Ls P Go.Proofs.YtlflclfhldghbaaGreatDoor.Cal
def addP (y m : Int) (months anchor : Int) : Int × Bool × Unit :=
  let k := 12 * y + m - 13 + months
  if k < 0 ∨ 119988 ≤ k then (0, false, ())
  else
    let y' := k / 12 + 1
    let m' := k % 12 + 1
    (dby y' + cum y' m' + (if anchor < mlen y' m' then anchor else mlen y' m'), true, ())
theorem addMonthsB {day months anchor : Int} (h1 : 1 ≤ day) (h2 : day ≤ 3652059) (a1 : 1 ≤ anchor) (a2 : anchor ≤ 31) (k1 : -1000 ≤ months) (k2 : months ≤ 1000) :
    ∃ r, F_addMonths (day, months, anchor, ()) () = ⟨true, false, r, (), ()⟩ ∧ (r.2.1 = true → 1 ≤ r.1 ∧ r.1 ≤ 3652059) := by
  obtain ⟨y, m, d, hi, e⟩ := civils h1 h2
  have y1 := hi.y1; have y2 := hi.y2; have m1 := hi.m1; have m2 := hi.m2
  refine ⟨addP y m months anchor, ?_, ?_⟩
  · rw [F_addMonths_eq]
    have d1 : decide (anchor < 1) = false := by simp; omega
    have d2 : decide (anchor > 31) = false := by simp; omega
    have d3 : decide (months ≤ -119988) = false := by simp; omega
    have d4 : decide (months ≥ 119988) = false := by simp; omega
    have w1 : IntKind.i64.wrap (12 * y) = 12 * y := w64 (by omega) (by omega)
    have w2 : IntKind.i64.wrap (12 * y + m) = 12 * y + m := w64 (by omega) (by omega)
    have w3 : IntKind.i64.wrap (12 * y + m - 13) = 12 * y + m - 13 := w64 (by omega) (by omega)
    have w4 : IntKind.i64.wrap (12 * y + m - 13 + months) = 12 * y + m - 13 + months := w64 (by omega) (by omega)
    simp only [e, Bool.not_true, cond_false, d1, d2, d3, d4, w1, w2, w3, w4]
    unfold addP
    generalize hk : 12 * y + m - 13 + months = k
    by_cases c1 : k < 0
    · have c1' : decide (k < 0) = true := by simpa using c1
      simp only [c1', cond_true]; simp only [c1, true_or, if_true]
    have c1' : decide (k < 0) = false := by simpa using c1
    by_cases c2 : k ≥ 119988
    · have c2' : decide (k ≥ 119988) = true := by simpa using c2
      simp only [c1', c2', cond_true, cond_false]; rw [if_pos (Or.inr c2)]
    have c2' : decide (k ≥ 119988) = false := by simpa using c2
    have t1 : k.tdiv 12 = k / 12 := Int.tdiv_eq_ediv_of_nonneg (by omega)
    have t2 : k.tmod 12 = k % 12 := Int.tmod_eq_emod_of_nonneg (by omega)
    have w5 : IntKind.i64.wrap (k / 12) = k / 12 := w64 (by omega) (by omega)
    have w6 : IntKind.i64.wrap (k / 12 + 1) = k / 12 + 1 := w64 (by omega) (by omega)
    have w7 : IntKind.i64.wrap (k % 12 + 1) = k % 12 + 1 := w64 (by omega) (by omega)
    simp only [c1', c2', cond_false, t1, t2, w5, w6, w7]
    rw [if_neg (show ¬ (k < 0 ∨ 119988 ≤ k) by clear w5 w6 w7; omega)]
    have hr := mlen_range (k / 12 + 1) (k % 12 + 1)
    have hml : F_monthLen (k / 12 + 1, k % 12 + 1, ()) () = ⟨true, false, mlen (k / 12 + 1) (k % 12 + 1), (), ()⟩ := by
      rw [monthLen, if_pos (show 1 ≤ k / 12 + 1 ∧ k / 12 + 1 ≤ 9999 ∧ 1 ≤ k % 12 + 1 ∧ k % 12 + 1 ≤ 12 by clear w5 w6 w7; omega)]
    simp only [hml]
    clear w1 w2 w3 w4 w5 w6 w7
    have hmin : (if mlen (k / 12 + 1) (k % 12 + 1) < anchor then mlen (k / 12 + 1) (k % 12 + 1) else anchor) = if anchor < mlen (k / 12 + 1) (k % 12 + 1) then anchor else mlen (k / 12 + 1) (k % 12 + 1) := by split <;> split <;> omega
    rw [hmin]
    rw [number (by omega) (by omega) (by omega) (by omega) (by split <;> omega) (by split <;> omega)]
    rfl
  · intro hr
    unfold addP at hr ⊢
    generalize 12 * y + m - 13 + months = k at *
    by_cases c : k < 0 ∨ 119988 ≤ k
    · rw [if_pos c] at hr; cases hr
    · rw [if_neg c]
      have hr := mlen_range (k / 12 + 1) (k % 12 + 1)
      have hy1 : 1 ≤ k / 12 + 1 := by omega
      have hy2 : k / 12 + 1 ≤ 9999 := by omega
      have hm1 : 1 ≤ k % 12 + 1 := by omega
      have hm2 : k % 12 + 1 ≤ 12 := by omega
      show 1 ≤ dby _ + cum _ _ + _ ∧ dby _ + cum _ _ + _ ≤ _
      generalize k / 12 + 1 = Y at *
      generalize k % 12 + 1 = M at *
      have hi : IsDate (dby Y + cum Y M + (if anchor < mlen Y M then anchor else mlen Y M)) Y M (if anchor < mlen Y M then anchor else mlen Y M) := ⟨hy1, hy2, hm1, hm2, by split <;> omega, by split <;> omega, rfl⟩
      have := hi.inyear
      have hb := dbyR hy1 (show Y ≤ 10000 by omega)
      have hb2 := dbyR (show 1 ≤ Y + 1 by omega) (show Y + 1 ≤ 10000 by omega)
      omega
end Go.Proofs.YtlflclfhldghbaaGreatDoor.Fs
end
section
namespace Go.Proofs.YtlflclfhldghbaaGreatDoor.Fs
open Go Go.Proofs.YtlflclfhldghbaaGreatDoor.Ls P Go.Proofs.YtlflclfhldghbaaGreatDoor.Cal
theorem drop_contains {s : List Int} {i : Nat} (h : i < s.length) (v : Int) : (s.drop i).contains v = ((v == s.getD i 0) || (s.drop (i + 1)).contains v) := by
  rw [List.drop_eq_getElem_cons h, List.contains_cons]
  congr 2
  simp [List.getD, List.getElem?_eq_getElem h]
theorem inb {i : Nat} {n : Nat} (h : i < n) : ((decide ((0 : Int) ≤ (i : Int)) && decide ((i : Int) < ((n : Nat) : Int))) && (Nat.blt (i : Int).toNat n)) = true := by
  have a : decide ((0 : Int) ≤ (i : Int)) = true := by simp
  have b : decide ((i : Int) < ((n : Nat) : Int)) = true := by simp; omega
  have c : Nat.blt (i : Int).toNat n = true := by rw [Int.toNat_natCast]; exact Nat.ble_eq_true_of_le h
  rw [a, b, c]; rfl
theorem L_index {s : List Int} {v : Int} (hs : s.length ≤ 1000000) : ∀ (n k i : Nat), n < k → i + n = s.length →
    ∃ r, L_index_3 k (((), v, ((s.length : Nat) : Int), (i : Int), ()), s, ()) = ⟨true, false, r, ((), ()), ()⟩ ∧ decide (r ≥ 0) = (s.drop i).contains v
  | n, 0, i, hk, _ => by omega
  | n, k + 1, i, hk, hn => by
    rw [L_index_3_eq]
    by_cases c : i < s.length
    · have d : decide ((i : Int) < ((s.length : Nat) : Int)) = true := by simp; omega
      have w : IntKind.i64.wrap ((i : Int) + 1) = ((i + 1 : Nat) : Int) := w64 (by omega) (by omega)
      simp only [inb c]
      simp only [d, cond_true, w, Bool.true_and, Int.toNat_natCast]
      rw [drop_contains c]
      cases h : (v == s.getD i 0) with
      | true => exact ⟨(i : Int), rfl, by simp⟩
      | false =>
        obtain ⟨n', rfl⟩ : ∃ n', n = n' + 1 := ⟨n - 1, by omega⟩
        obtain ⟨r, e, hr⟩ := L_index (v := v) hs n' k (i + 1) (by omega) (by omega)
        refine ⟨r, ?_, ?_⟩
        · simp only [cond_false]; rw [e]
        · rw [hr]; rfl
    · have d : decide ((i : Int) < ((s.length : Nat) : Int)) = false := by simp; omega
      simp only [d, cond_false]
      refine ⟨-1, rfl, ?_⟩
      rw [List.drop_eq_nil_of_le (by omega)]; rfl
theorem contains {s : List Int} {v : Int} (hs : s.length ≤ 1000000) : F_contains ((), v, ()) (s, ()) = ⟨true, false, s.contains v, ((), ()), ()⟩ := by
  rw [F_contains_eq]
  obtain ⟨r, e, hr⟩ := L_index (v := v) hs s.length (s.length + 2) 0 (by omega) (by omega)
  have : F_index ((), v, ()) (s, ()) = ⟨true, false, r, ((), ()), ()⟩ := by
    rw [F_index_eq]; exact e
  simp only [this, hr, List.drop_zero]
def busB (day : Int) (s : List Int) : Bool := decide (1 ≤ day ∧ day ≤ 3652059) && (decide ((day - 1) % 7 + 1 ≤ 5) && !s.contains day)
theorem weekday {day : Int} : F_weekday (day, ()) () = ⟨true, false, (if 1 ≤ day ∧ day ≤ 3652059 then ((day - 1) % 7 + 1, true, ()) else (0, false, ())), (), ()⟩ := by
  rw [F_weekday_eq]
  by_cases h1 : day < 1
  · have d : decide (day < 1) = true := by simpa using h1
    simp only [d, cond_true]; rw [if_neg (by omega)]
  have d1 : decide (day < 1) = false := by simpa using h1
  by_cases h2 : day > 3652059
  · have d : decide (day > 3652059) = true := by simpa using h2
    simp only [d1, d, cond_true, cond_false]; rw [if_neg (by omega)]
  have d2 : decide (day > 3652059) = false := by simpa using h2
  have w1 : IntKind.i64.wrap (day - 1) = day - 1 := w64 (by omega) (by omega)
  have t1 : (day - 1).tmod 7 = (day - 1) % 7 := Int.tmod_eq_emod_of_nonneg (by omega)
  have w2 : IntKind.i64.wrap ((day - 1) % 7 + 1) = (day - 1) % 7 + 1 := w64 (by omega) (by omega)
  simp only [d1, d2, cond_false, w1, t1, w2]; rw [if_pos (by omega)]
theorem business {day : Int} {s : List Int} (hs : s.length ≤ 1000000) : F_business (day, (), ()) (s, ()) = ⟨true, false, busB day s, ((), ()), ()⟩ := by
  rw [F_business_eq]
  have hw := weekday (day := day)
  simp only [hw, contains hs]
  unfold busB
  by_cases h : 1 ≤ day ∧ day ≤ 3652059
  · simp only [if_pos h, cond_true, Bool.and_true]
    have : decide (1 ≤ day ∧ day ≤ 3652059) = true := by simpa using h
    rw [this]
    cases h5 : decide ((day - 1) % 7 + 1 ≤ 5) <;> rfl
  · simp only [if_neg h, cond_false]
    have : decide (1 ≤ day ∧ day ≤ 3652059) = false := by simp only [decide_eq_false_iff_not]; exact h
    rw [this]; rfl
end Go.Proofs.YtlflclfhldghbaaGreatDoor.Fs
end
section
namespace Go.Proofs.YtlflclfhldghbaaGreatDoor.Fs
open Go Go.Proofs.YtlflclfhldghbaaGreatDoor.Ls P Go.Proofs.YtlflclfhldghbaaGreatDoor.Cal
def seekP (s : List Int) (step : Int) : Nat → Int → Int × Bool × Unit
  | 0, _ => (0, false, ())
  | n + 1, day => if busB day s = true then (day, true, ()) else seekP s step n (day + step)
theorem L_seek {s : List Int} {step : Int} (hs : s.length ≤ 1000000) (p1 : -1 ≤ step) (p2 : step ≤ 1) : ∀ (n k : Nat) (day i : Int), n < k → i + n = 11 → 0 ≤ i → -1000000000 - i ≤ day → day ≤ 1000000000 + i →
    L_seek_3 k ((day, (), step, i, ()), s, ()) = ⟨true, false, seekP s step n day, ((), ()), ()⟩
  | n, 0, day, i, hk, _, _, _, _ => by omega
  | n, k + 1, day, i, hk, hn, h0, h1, h2 => by
    rw [L_seek_3_eq]
    simp only [business hs]
    cases n with
    | zero =>
      have d : decide (i < 11) = false := by simp; omega
      simp only [d, cond_false]; rfl
    | succ n =>
      have d : decide (i < 11) = true := by simp; omega
      have w1 : IntKind.i64.wrap (day + step) = day + step := w64 (by omega) (by omega)
      have w2 : IntKind.i64.wrap (i + 1) = i + 1 := w64 (by omega) (by omega)
      simp only [d, cond_true, w1, w2]
      unfold seekP
      cases hb : busB day s with
      | true => rfl
      | false =>
        simp only [cond_false]
        rw [L_seek hs p1 p2 n k (day + step) (i + 1) (by omega) (by omega) (by omega) (by omega) (by omega)]
        rfl
theorem seek {s : List Int} {step day : Int} (hs : s.length ≤ 1000000) (p1 : -1 ≤ step) (p2 : step ≤ 1) (h1 : -1000000000 ≤ day) (h2 : day ≤ 1000000000) :
    F_seek (day, (), step, ()) (s, ()) = ⟨true, false, seekP s step 11 day, ((), ()), ()⟩ := by
  rw [F_seek_eq]
  have hk : ∀ a h, k_seek a h = 200 := fun _ _ => rfl
  rw [hk]
  exact L_seek hs p1 p2 11 200 day 0 (by omega) (by omega) (by omega) (by omega) (by omega)
theorem seekP_up {s : List Int} : ∀ (n : Nat) (day : Int), (seekP s 1 n day).2.1 = true → day ≤ (seekP s 1 n day).1 ∧ (seekP s 1 n day).1 ≤ day + n ∧ 1 ≤ (seekP s 1 n day).1 ∧ (seekP s 1 n day).1 ≤ 3652059
  | 0, day, h => by cases h
  | n + 1, day, h => by
    unfold seekP at h ⊢
    by_cases c : busB day s = true
    · rw [if_pos c]
      unfold busB at c
      simp only [Bool.and_eq_true, decide_eq_true_eq] at c
      show day ≤ day ∧ day ≤ day + _ ∧ 1 ≤ day ∧ day ≤ _
      omega
    · rw [if_neg c] at h ⊢
      have := seekP_up n (day + 1) h
      omega
theorem cum_near (y y' m : Int) : cum y m ≤ cum y' m + 1 := by
  have := lp_01 y; have := lp_01 y'
  unfold cum; split <;> omega
theorem same_year {a b y m d y' d' : Int} (h : IsDate a y m d) (h' : IsDate b y' m d') (h1 : a ≤ b) (h2 : b ≤ a + 11) : y = y' := by
  have i1 := h.inyear; have i2 := h'.inyear
  rcases Int.lt_trichotomy y y' with c | c | c
  · have e := dby_le (y' - (y + 1)).toNat (y + 1)
    rw [show y + 1 + ((y' - (y + 1)).toNat : Int) = y' by omega] at e
    have s := dby_succ y
    have l := lp_01 y
    have n1 := h.num; have n2 := h'.num; have d1 := h.d2; have d2 := h'.d1
    have r := mlen_range y m
    have cn := cum_near y y' m
    omega
  · exact c
  · have e := dby_le (y - (y' + 1)).toNat (y' + 1)
    rw [show y' + 1 + ((y - (y' + 1)).toNat : Int) = y by omega] at e
    omega
theorem adjusts {s : List Int} {day rule : Int} (hs : s.length ≤ 1000000) (h1 : 1 ≤ day) (h2 : day ≤ 3652059) :
    ∃ r, F_adjust (day, (), rule, ()) (s, ()) = ⟨true, false, r, ((), ()), ()⟩ := by
  have g1 : decide (day < 1) = false := by simp; omega
  have g2 : decide (day > 3652059) = false := by simp; omega
  have g3 : decide (day ≥ 1) = true := by simp; omega
  have g4 : decide (day ≤ 3652059) = true := by simp; omega
  have sk1 := seek (step := 1) (day := day) hs (by omega) (by omega) (by omega) (by omega)
  have sk2 := seek (step := -1) (day := day) hs (by omega) (by omega) (by omega) (by omega)
  rw [F_adjust_eq]
  simp only [g1, g2, g3, g4, cond_false, cond_true, Bool.not_true, sk1, sk2, Bool.and_true]
  cases r0 : (rule == 0) with
  | true => exact ⟨_, rfl⟩
  | false =>
  cases r1 : (rule == 1) with
  | true => exact ⟨_, rfl⟩
  | false =>
  cases r2 : (rule == 2) with
  | true => exact ⟨_, rfl⟩
  | false =>
  cases r3 : (rule == 3) with
  | false => exact ⟨_, rfl⟩
  | true =>
  simp only [cond_true, cond_false]
  have hup := seekP_up (s := s) 11 day
  generalize seekP s 1 11 day = P1 at *
  obtain ⟨n, ok, ⟨⟩⟩ := P1
  cases ok with
  | false => exact ⟨_, rfl⟩
  | true =>
    obtain ⟨u1, u2, u3, u4⟩ := hup rfl
    obtain ⟨y, m, d, hi, e⟩ := civils h1 h2
    obtain ⟨y', m', d', hi', f⟩ := civils u3 u4
    rw [F_sameMonth_eq]
    simp only [e, f, cond_true, Bool.and_true]
    by_cases hm : m = m'
    · subst hm
      have hy := same_year hi hi' u1 (by omega)
      subst hy
      simp only [beq_self_eq_true, cond_true, Bool.and_true]
      exact ⟨_, rfl⟩
    · have : (m == m') = false := by simpa using hm
      simp only [this, cond_false, Bool.and_false, Bool.false_and]
      exact ⟨_, rfl⟩
end Go.Proofs.YtlflclfhldghbaaGreatDoor.Fs
end
section
namespace Go.Proofs.YtlflclfhldghbaaGreatDoor.Fs
open Go Go.Proofs.YtlflclfhldghbaaGreatDoor.Ls P Go.Proofs.YtlflclfhldghbaaGreatDoor.Cal
def planP (part : Int → Int → Int → Int) (due : Int → Int × Bool × Unit) (r : Int) : Nat → Int → Int → List T123 → Bool × List T123
  | 0, _, _, acc => (true, acc)
  | n + 1, k, b, acc =>
    if 0 < b ∧ ¬(mP b r = 0 ∧ part k b (mP b r) = 0) then
      if (due k).2.1 = true then planP part due r n (k + 1) (b - part k b (mP b r)) (acc ++ [((due k).1, mP b r, part k b (mP b r), false, ())]) else (false, [])
    else planP part due r n (k + 1) b acc
theorem planP_done {part due r} : ∀ (n : Nat) (k b : Int) (acc : List T123), b ≤ 0 → planP part due r n k b acc = (true, acc)
  | 0, k, b, acc, h => rfl
  | n + 1, k, b, acc, h => by
    unfold planP
    rw [if_neg (by omega)]
    exact planP_done n (k + 1) b acc h
structure Keeps (part : Int → Int → Int → Int) (r c : Int) (Inv : Int → Int → Prop) : Prop where
  lo : ∀ k b, 1 ≤ k → k ≤ c → Inv k b → 0 ≤ b ∧ b ≤ 10000000000000
  idle : ∀ k b, 1 ≤ k → k ≤ c → Inv k b → b ≤ 0 → Inv (k + 1) b
  step : ∀ k b, 1 ≤ k → k ≤ c → Inv k b → 0 < b → 0 ≤ part k b (mP b r) ∧ part k b (mP b r) ≤ b ∧ Inv (k + 1) (b - part k b (mP b r))
theorem ble_room {n : Nat} (h : n ≤ 100000) : Nat.ble (n * 32) 140737488355328 = true := Nat.ble_eq_true_of_le (by omega)
theorem L_plan17 {kd P r c st ru pay anc : Int} {s : List Int} {part : Int → Int → Int → Int} {Inv : Int → Int → Prop} {due : Int → Int × Bool × Unit} (hr : 0 ≤ r) (hr2 : r ≤ 100000) (hc0 : 1 ≤ c) (hc : c ≤ 1000) (hK : Keeps part r c Inv)
    (hP : ∀ k b, 1 ≤ k → k ≤ c → Inv k b → 0 < b → (if (b < IntKind.i64.wrap (pay - mP b r)) then b else IntKind.i64.wrap (pay - mP b r)) = part k b (mP b r))
    (hD : ∀ k, 1 ≤ k → k ≤ c → ∃ a : Int × Bool × Unit, F_addMonths (st, k, anc, ()) () = ⟨true, false, a, (), ()⟩ ∧ (a.2.1 = true → F_adjust (a.1, (), ru, ()) (s, ()) = ⟨true, false, due k, ((), ()), ()⟩) ∧ (a.2.1 = false → due k = (0, false, ()))) :
    ∀ (n kf : Nat) (k b : Int) (acc : List T123), n < kf → k + n = c + 1 → 1 ≤ k → Inv k b → acc.length + n ≤ 1000 →
    L_plan_17 kf (((), true, (), (), k, ()), s, (kd, P, r, c, st, ru, ()), ((kd, P, r, c, st, ru, ()), (), anc, pay, b, ((), ()), ()), acc, ()) = ⟨true, false, ((), (planP part due r n k b acc).1, ()), ((), (planP part due r n k b acc).2, ()), ()⟩
  | n, 0, k, b, acc, hk, _, _, _, _ => by omega
  | 0, kf + 1, k, b, acc, hk, hn, h1, hi, hl => by
    rw [L_plan_17_eq]
    have d : decide (k ≤ c) = false := by simp; omega
    simp only [d, cond_false, cond_true, Bool.not_true]
    cases decide (b > 0) <;> rfl
  | n + 1, kf + 1, k, b, acc, hk, hn, h1, hi, hl => by
    rw [L_plan_17_eq]
    have d : decide (k ≤ c) = true := by simp; omega
    have hb := hK.lo k b h1 (by omega) hi
    have hm := month hb.1 hb.2 hr hr2
    have g1 := mP_nonneg hb.1 hr
    have g2 := mP_le hb.1 hb.2 hr hr2
    have w1 : IntKind.i64.wrap (k + 1) = k + 1 := w64 (by omega) (by omega)
    by_cases c0 : 0 < b
    · have c0' : decide (b > 0) = true := by simpa using c0
      have hs := hK.step k b h1 (by omega) hi c0
      have hp := hP k b h1 (by omega) hi c0
      have w2 : IntKind.i64.wrap (b - part k b (mP b r)) = b - part k b (mP b r) := w64 (by omega) (by omega)
      obtain ⟨a, ha, hd1, hd2⟩ := hD k h1 (by omega)
      simp only [d, hm, hp, cond_true, Bool.and_true, Bool.true_and, Bool.not_true, cond_false, w1, ha, c0']
      unfold planP
      by_cases c1 : mP b r = 0 ∧ part k b (mP b r) = 0
      · have e1 : (bif mP b r == 0 then part k b (mP b r) == 0 else false) = true := by
          have e3 : (mP b r == 0) = true := by rw [beq_iff_eq]; exact c1.1
          have e4 : (part k b (mP b r) == 0) = true := by rw [beq_iff_eq]; exact c1.2
          rw [e3, e4]; rfl
        simp only [e1, cond_true]
        rw [if_neg (by omega)]
        have hi' : Inv (k + 1) b := by have := hs.2.2; rwa [c1.2, Int.sub_zero] at this
        rw [L_plan17 hr hr2 hc0 hc hK hP hD n kf (k + 1) b acc (by omega) (by omega) (by omega) hi' (by omega)]
        cases (mP b r == 0) <;> rfl
      · have e1 : (bif mP b r == 0 then part k b (mP b r) == 0 else false) = false := by
          by_cases c2 : mP b r = 0
          · have c3 : part k b (mP b r) ≠ 0 := fun h => c1 ⟨c2, h⟩
            have e3 : (mP b r == 0) = true := by simpa using c2
            have e4 : (part k b (mP b r) == 0) = false := by simpa using c3
            rw [e3, e4]; rfl
          · have e3 : (mP b r == 0) = false := by simpa using c2
            rw [e3]; rfl
        simp only [e1, cond_false]
        rw [if_pos (by omega)]
        by_cases c4 : a.2.1 = true
        · have hd := hd1 c4
          simp only [c4, Bool.not_true, cond_false, hd, w2]
          by_cases c3 : (due k).2.1 = true
          · simp only [c3, Bool.not_true, cond_false, if_true]
            rw [L_plan17 hr hr2 hc0 hc hK hP hD n kf (k + 1) (b - part k b (mP b r)) (acc ++ [((due k).1, mP b r, part k b (mP b r), false, ())]) (by omega) (by omega) (by omega) hs.2.2 (by simp; omega)]
            have : Nat.ble ((acc.length + [((due k).1, mP b r, part k b (mP b r), false, ())].length) * 32) 140737488355328 = true := ble_room (by simp; omega)
            simp only [this]
            cases (mP b r == 0) <;> rfl
          · have c3' : (due k).2.1 = false := by simpa using c3
            simp only [c3', Bool.not_false, cond_true]
            obtain ⟨kf', rfl⟩ : ∃ kf', kf = kf' + 1 := ⟨kf - 1, by omega⟩
            rw [L_plan_17_eq]
            cases (mP b r == 0) <;> rfl
        · have c4' : a.2.1 = false := by simpa using c4
          have hd := hd2 c4'
          simp only [c4', Bool.not_false, Bool.not_true, cond_true, hd]
          obtain ⟨kf', rfl⟩ : ∃ kf', kf = kf' + 1 := ⟨kf - 1, by omega⟩
          rw [L_plan_17_eq]
          cases (mP b r == 0) <;> rfl
    · have c0' : decide (b > 0) = false := by simpa using c0
      simp only [c0', cond_false, cond_true, Bool.not_true]
      rw [planP_done _ _ _ _ (by omega)]
theorem L_plan17_1 {kd P r c st ru pay anc : Int} {s : List Int} {part : Int → Int → Int → Int} {Inv : Int → Int → Prop} {due : Int → Int × Bool × Unit} (hr : 0 ≤ r) (hr2 : r ≤ 100000) (hc0 : 1 ≤ c) (hc : c ≤ 1000) (hK : Keeps part r c Inv)
    (hP : ∀ k b, 1 ≤ k → k ≤ c → Inv k b → 0 < b → (bif decide (k ≤ P.tmod c) then IntKind.i64.wrap (IntKind.i64.wrap (P.tdiv c) + 1) else IntKind.i64.wrap (P.tdiv c)) = part k b (mP b r))
    (hD : ∀ k, 1 ≤ k → k ≤ c → ∃ a : Int × Bool × Unit, F_addMonths (st, k, anc, ()) () = ⟨true, false, a, (), ()⟩ ∧ (a.2.1 = true → F_adjust (a.1, (), ru, ()) (s, ()) = ⟨true, false, due k, ((), ()), ()⟩) ∧ (a.2.1 = false → due k = (0, false, ()))) :
    ∀ (n kf : Nat) (k b : Int) (acc : List T123), n < kf → k + n = c + 1 → 1 ≤ k → Inv k b → acc.length + n ≤ 1000 →
    L_plan_17_1 kf (((), true, (), (), k, ()), s, (kd, P, r, c, st, ru, ()), ((kd, P, r, c, st, ru, ()), (), anc, pay, b, ((), ()), ()), acc, ()) = ⟨true, false, ((), (planP part due r n k b acc).1, ()), ((), (planP part due r n k b acc).2, ()), ()⟩
  | n, 0, k, b, acc, hk, _, _, _, _ => by omega
  | 0, kf + 1, k, b, acc, hk, hn, h1, hi, hl => by
    rw [L_plan_17_1_eq]
    have d : decide (k ≤ c) = false := by simp; omega
    simp only [d, cond_false, cond_true, Bool.not_true]
    cases decide (b > 0) <;> rfl
  | n + 1, kf + 1, k, b, acc, hk, hn, h1, hi, hl => by
    rw [L_plan_17_1_eq]
    have d : decide (k ≤ c) = true := by simp; omega
    have hb := hK.lo k b h1 (by omega) hi
    have hm := month hb.1 hb.2 hr hr2
    have g1 := mP_nonneg hb.1 hr
    have g2 := mP_le hb.1 hb.2 hr hr2
    have w1 : IntKind.i64.wrap (k + 1) = k + 1 := w64 (by omega) (by omega)
    by_cases c0 : 0 < b
    · have c0' : decide (b > 0) = true := by simpa using c0
      have hs := hK.step k b h1 (by omega) hi c0
      have hp := hP k b h1 (by omega) hi c0
      have w2 : IntKind.i64.wrap (b - part k b (mP b r)) = b - part k b (mP b r) := w64 (by omega) (by omega)
      obtain ⟨a, ha, hd1, hd2⟩ := hD k h1 (by omega)
      have ec : (c != 0) = true := by simp; omega
      simp only [d, hm, hp, cond_true, Bool.and_true, Bool.true_and, Bool.not_true, cond_false, w1, ha, c0', ec]
      unfold planP
      by_cases c1 : mP b r = 0 ∧ part k b (mP b r) = 0
      · have e1 : (bif mP b r == 0 then part k b (mP b r) == 0 else false) = true := by
          have e3 : (mP b r == 0) = true := by rw [beq_iff_eq]; exact c1.1
          have e4 : (part k b (mP b r) == 0) = true := by rw [beq_iff_eq]; exact c1.2
          rw [e3, e4]; rfl
        simp only [e1, cond_true]
        rw [if_neg (by omega)]
        have hi' : Inv (k + 1) b := by have := hs.2.2; rwa [c1.2, Int.sub_zero] at this
        rw [L_plan17_1 hr hr2 hc0 hc hK hP hD n kf (k + 1) b acc (by omega) (by omega) (by omega) hi' (by omega)]
        cases (mP b r == 0) <;> cases decide (k ≤ P.tmod c) <;> rfl
      · have e1 : (bif mP b r == 0 then part k b (mP b r) == 0 else false) = false := by
          by_cases c2 : mP b r = 0
          · have c3 : part k b (mP b r) ≠ 0 := fun h => c1 ⟨c2, h⟩
            have e3 : (mP b r == 0) = true := by simpa using c2
            have e4 : (part k b (mP b r) == 0) = false := by simpa using c3
            rw [e3, e4]; rfl
          · have e3 : (mP b r == 0) = false := by simpa using c2
            rw [e3]; rfl
        simp only [e1, cond_false]
        rw [if_pos (by omega)]
        by_cases c4 : a.2.1 = true
        · have hd := hd1 c4
          simp only [c4, Bool.not_true, cond_false, hd, w2]
          by_cases c3 : (due k).2.1 = true
          · simp only [c3, Bool.not_true, cond_false, if_true]
            rw [L_plan17_1 hr hr2 hc0 hc hK hP hD n kf (k + 1) (b - part k b (mP b r)) (acc ++ [((due k).1, mP b r, part k b (mP b r), false, ())]) (by omega) (by omega) (by omega) hs.2.2 (by simp; omega)]
            have : Nat.ble ((acc.length + [((due k).1, mP b r, part k b (mP b r), false, ())].length) * 32) 140737488355328 = true := ble_room (by simp; omega)
            simp only [this]
            cases (mP b r == 0) <;> cases decide (k ≤ P.tmod c) <;> rfl
          · have c3' : (due k).2.1 = false := by simpa using c3
            simp only [c3', Bool.not_false, cond_true]
            obtain ⟨kf', rfl⟩ : ∃ kf', kf = kf' + 1 := ⟨kf - 1, by omega⟩
            rw [L_plan_17_1_eq]
            cases (mP b r == 0) <;> cases decide (k ≤ P.tmod c) <;> rfl
        · have c4' : a.2.1 = false := by simpa using c4
          have hd := hd2 c4'
          simp only [c4', Bool.not_false, Bool.not_true, cond_true, hd]
          obtain ⟨kf', rfl⟩ : ∃ kf', kf = kf' + 1 := ⟨kf - 1, by omega⟩
          rw [L_plan_17_1_eq]
          cases (mP b r == 0) <;> cases decide (k ≤ P.tmod c) <;> rfl
    · have c0' : decide (b > 0) = false := by simpa using c0
      simp only [c0', cond_false, cond_true, Bool.not_true]
      rw [planP_done _ _ _ _ (by omega)]
theorem L_plan17_2 {kd P r c st ru pay anc : Int} {s : List Int} {part : Int → Int → Int → Int} {Inv : Int → Int → Prop} {due : Int → Int × Bool × Unit} (hr : 0 ≤ r) (hr2 : r ≤ 100000) (hc0 : 1 ≤ c) (hc : c ≤ 1000) (hK : Keeps part r c Inv)
    (hP : ∀ k b, 1 ≤ k → k ≤ c → Inv k b → 0 < b → (bif decide (k < c) then (0 : Int) else b) = part k b (mP b r))
    (hD : ∀ k, 1 ≤ k → k ≤ c → ∃ a : Int × Bool × Unit, F_addMonths (st, k, anc, ()) () = ⟨true, false, a, (), ()⟩ ∧ (a.2.1 = true → F_adjust (a.1, (), ru, ()) (s, ()) = ⟨true, false, due k, ((), ()), ()⟩) ∧ (a.2.1 = false → due k = (0, false, ()))) :
    ∀ (n kf : Nat) (k b : Int) (acc : List T123), n < kf → k + n = c + 1 → 1 ≤ k → Inv k b → acc.length + n ≤ 1000 →
    L_plan_17_2 kf (((), true, (), (), k, ()), s, (kd, P, r, c, st, ru, ()), ((kd, P, r, c, st, ru, ()), (), anc, pay, b, ((), ()), ()), acc, ()) = ⟨true, false, ((), (planP part due r n k b acc).1, ()), ((), (planP part due r n k b acc).2, ()), ()⟩
  | n, 0, k, b, acc, hk, _, _, _, _ => by omega
  | 0, kf + 1, k, b, acc, hk, hn, h1, hi, hl => by
    rw [L_plan_17_2_eq]
    have d : decide (k ≤ c) = false := by simp; omega
    simp only [d, cond_false, cond_true, Bool.not_true]
    cases decide (b > 0) <;> rfl
  | n + 1, kf + 1, k, b, acc, hk, hn, h1, hi, hl => by
    rw [L_plan_17_2_eq]
    have d : decide (k ≤ c) = true := by simp; omega
    have hb := hK.lo k b h1 (by omega) hi
    have hm := month hb.1 hb.2 hr hr2
    have g1 := mP_nonneg hb.1 hr
    have g2 := mP_le hb.1 hb.2 hr hr2
    have w1 : IntKind.i64.wrap (k + 1) = k + 1 := w64 (by omega) (by omega)
    by_cases c0 : 0 < b
    · have c0' : decide (b > 0) = true := by simpa using c0
      have hs := hK.step k b h1 (by omega) hi c0
      have hp := hP k b h1 (by omega) hi c0
      have w2 : IntKind.i64.wrap (b - part k b (mP b r)) = b - part k b (mP b r) := w64 (by omega) (by omega)
      obtain ⟨a, ha, hd1, hd2⟩ := hD k h1 (by omega)
      simp only [d, hm, hp, cond_true, Bool.and_true, Bool.true_and, Bool.not_true, cond_false, w1, ha, c0']
      unfold planP
      by_cases c1 : mP b r = 0 ∧ part k b (mP b r) = 0
      · have e1 : (bif mP b r == 0 then part k b (mP b r) == 0 else false) = true := by
          have e3 : (mP b r == 0) = true := by rw [beq_iff_eq]; exact c1.1
          have e4 : (part k b (mP b r) == 0) = true := by rw [beq_iff_eq]; exact c1.2
          rw [e3, e4]; rfl
        simp only [e1, cond_true]
        rw [if_neg (by omega)]
        have hi' : Inv (k + 1) b := by have := hs.2.2; rwa [c1.2, Int.sub_zero] at this
        rw [L_plan17_2 hr hr2 hc0 hc hK hP hD n kf (k + 1) b acc (by omega) (by omega) (by omega) hi' (by omega)]
        cases (mP b r == 0) <;> cases decide (k < c) <;> rfl
      · have e1 : (bif mP b r == 0 then part k b (mP b r) == 0 else false) = false := by
          by_cases c2 : mP b r = 0
          · have c3 : part k b (mP b r) ≠ 0 := fun h => c1 ⟨c2, h⟩
            have e3 : (mP b r == 0) = true := by simpa using c2
            have e4 : (part k b (mP b r) == 0) = false := by simpa using c3
            rw [e3, e4]; rfl
          · have e3 : (mP b r == 0) = false := by simpa using c2
            rw [e3]; rfl
        simp only [e1, cond_false]
        rw [if_pos (by omega)]
        by_cases c4 : a.2.1 = true
        · have hd := hd1 c4
          simp only [c4, Bool.not_true, cond_false, hd, w2]
          by_cases c3 : (due k).2.1 = true
          · simp only [c3, Bool.not_true, cond_false, if_true]
            rw [L_plan17_2 hr hr2 hc0 hc hK hP hD n kf (k + 1) (b - part k b (mP b r)) (acc ++ [((due k).1, mP b r, part k b (mP b r), false, ())]) (by omega) (by omega) (by omega) hs.2.2 (by simp; omega)]
            have : Nat.ble ((acc.length + [((due k).1, mP b r, part k b (mP b r), false, ())].length) * 32) 140737488355328 = true := ble_room (by simp; omega)
            simp only [this]
            cases (mP b r == 0) <;> cases decide (k < c) <;> rfl
          · have c3' : (due k).2.1 = false := by simpa using c3
            simp only [c3', Bool.not_false, cond_true]
            obtain ⟨kf', rfl⟩ : ∃ kf', kf = kf' + 1 := ⟨kf - 1, by omega⟩
            rw [L_plan_17_2_eq]
            cases (mP b r == 0) <;> cases decide (k < c) <;> rfl
        · have c4' : a.2.1 = false := by simpa using c4
          have hd := hd2 c4'
          simp only [c4', Bool.not_false, Bool.not_true, cond_true, hd]
          obtain ⟨kf', rfl⟩ : ∃ kf', kf = kf' + 1 := ⟨kf - 1, by omega⟩
          rw [L_plan_17_2_eq]
          cases (mP b r == 0) <;> cases decide (k < c) <;> rfl
    · have c0' : decide (b > 0) = false := by simpa using c0
      simp only [c0', cond_false, cond_true, Bool.not_true]
      rw [planP_done _ _ _ _ (by omega)]
end Go.Proofs.YtlflclfhldghbaaGreatDoor.Fs
end
section
namespace Go.Proofs.YtlflclfhldghbaaGreatDoor.Fs
open Go Go.Proofs.YtlflclfhldghbaaGreatDoor.Ls P Go.Proofs.YtlflclfhldghbaaGreatDoor.Cal
def okT (t : T25) : Bool :=
  decide (t.1 ≥ 0) && (decide (t.1 ≤ 2) && (decide (t.2.1 ≥ 1) && (decide (t.2.1 ≤ 10000000000000) && ((decide (t.2.2.1 ≥ 0) && decide (t.2.2.1 ≤ 100000)) && (decide (t.2.2.2.1 ≥ 1) && (decide (t.2.2.2.1 ≤ 120) && (decide (t.2.2.2.2.1 ≥ 1) && (decide (t.2.2.2.2.1 ≤ 3652059) && (decide (t.2.2.2.2.2.1 ≥ 0) && decide (t.2.2.2.2.2.1 ≤ 3))))))))))
theorem cft (a b : Bool) : (bif a then b else false) = (a && b) := by cases a <;> rfl
theorem ctb (a b : Bool) : (bif a then true else b) = (a || b) := by cases a <;> rfl
theorem csame {α : Type} (a : Bool) (x : α) : (bif a then x else x) = x := by cases a <;> rfl
theorem valid (t : T25) : F_valid (t, ()) () = ⟨true, false, okT t, (), ()⟩ := by
  rw [F_valid_eq]
  simp only [csame, cft]
  rfl
theorem dlt (a b : Int) : decide (a < b) = !decide (a ≥ b) := by by_cases h : a < b <;> simp [h] <;> omega
theorem okT_out {kd P r c st ru : Int} (h : okT (kd, P, r, c, st, ru, ()) = true) : 0 ≤ kd ∧ kd ≤ 2 ∧ 1 ≤ P ∧ P ≤ 10000000000000 ∧ 0 ≤ r ∧ r ≤ 100000 ∧ 1 ≤ c ∧ c ≤ 120 ∧ 1 ≤ st ∧ st ≤ 3652059 ∧ 0 ≤ ru ∧ ru ≤ 3 := by
  unfold okT at h
  simp only [Bool.and_eq_true, decide_eq_true_eq] at h
  omega
theorem dues {kd P r c st ru : Int} {s : List Int} (hs : s.length ≤ 1000000) (h1 : 1 ≤ st) (h2 : st ≤ 3652059) :
    ∃ y m anc, (F_civil (st, ()) () = ⟨true, false, ((y, m, anc, ()), true, ()), (), ()⟩) ∧ ∀ k : Int, 1 ≤ k → k ≤ 1000 →
      ∃ a d : Int × Bool × Unit, F_addMonths (st, k, anc, ()) () = ⟨true, false, a, (), ()⟩ ∧ (a.2.1 = true → F_adjust (a.1, (), ru, ()) (s, ()) = ⟨true, false, d, ((), ()), ()⟩) ∧ (a.2.1 = false → d = (0, false, ())) := by
  obtain ⟨y, m, anc, hi, e⟩ := civils h1 h2
  refine ⟨y, m, anc, e, fun k k1 k2 => ?_⟩
  have hr := mlen_range y m
  have d1 := hi.d1; have d2 := hi.d2
  obtain ⟨a, f, ha⟩ := addMonthsB (months := k) (anchor := anc) h1 h2 d1 (by omega) (by omega) (by omega)
  by_cases c : a.2.1 = true
  · obtain ⟨d, g⟩ := adjusts (s := s) (day := a.1) (rule := ru) hs (ha c).1 (ha c).2
    exact ⟨a, d, f, fun _ => g, (fun h => by rw [c] at h; cases h)⟩
  · have c' : a.2.1 = false := by simpa using c
    exact ⟨a, (0, false, ()), f, (fun h => by rw [c'] at h; cases h), fun _ => rfl⟩
theorem planP_length {part due r} : ∀ (n : Nat) (k b : Int) (acc : List T123), (planP part due r n k b acc).2.length ≤ acc.length + n
  | 0, k, b, acc => by simp [planP]
  | n + 1, k, b, acc => by
    unfold planP
    split
    · split
      · have := planP_length (part := part) (due := due) (r := r) n (k + 1) (b - part k b (mP b r)) (acc ++ [((due k).1, mP b r, part k b (mP b r), false, ())])
        simp at this; omega
      · simp
    · have := planP_length (part := part) (due := due) (r := r) n (k + 1) b acc
      omega
end Go.Proofs.YtlflclfhldghbaaGreatDoor.Fs
end
section
namespace Go.Proofs.YtlflclfhldghbaaGreatDoor.Fs
open Go Go.Proofs.YtlflclfhldghbaaGreatDoor.Ls P Go.Proofs.YtlflclfhldghbaaGreatDoor.Cal
def pLevel (pay : Int) : Int → Int → Int → Int := fun _ b i => if b < pay - i then b else pay - i
def pEqual (P c : Int) : Int → Int → Int → Int := fun k _ _ => if k ≤ P % c then P / c + 1 else P / c
def pBall (c : Int) : Int → Int → Int → Int := fun k b _ => if k < c then 0 else b
theorem keepsLevel {pay P r c : Int} (hr : 0 ≤ r) (hp : mP P r < pay) (hP : P ≤ 10000000000000) : Keeps (pLevel pay) r c (fun _ b => 0 ≤ b ∧ b ≤ P) where
  lo := fun k b _ _ h => ⟨h.1, by omega⟩
  idle := fun k b _ _ h _ => h
  step := fun k b _ _ h h0 => by
    have g := mP_mono hr h.2
    have g1 := mP_nonneg h.1 hr
    unfold pLevel
    show 0 ≤ (if b < pay - mP b r then b else pay - mP b r) ∧ (if b < pay - mP b r then b else pay - mP b r) ≤ b ∧ 0 ≤ b - (if b < pay - mP b r then b else pay - mP b r) ∧ b - (if b < pay - mP b r then b else pay - mP b r) ≤ P
    split <;> omega
theorem keepsBall {r c : Int} : Keeps (pBall c) r c (fun _ b => 0 ≤ b ∧ b ≤ 10000000000000) where
  lo := fun k b _ _ h => h
  idle := fun k b _ _ h _ => h
  step := fun k b _ _ h h0 => by
    unfold pBall
    show 0 ≤ (if k < c then 0 else b) ∧ (if k < c then 0 else b) ≤ b ∧ 0 ≤ b - (if k < c then 0 else b) ∧ b - (if k < c then 0 else b) ≤ _
    split <;> omega
def eqB (P c k : Int) : Int := P - (k - 1) * (P / c) - (if k - 1 ≤ P % c then k - 1 else P % c)
theorem keepsEqual {P r c : Int} (h1 : 1 ≤ P) (hP : P ≤ 10000000000000) (hc : 1 ≤ c) : Keeps (pEqual P c) r c (fun k b => b = eqB P c k) where
  lo := fun k b k1 k2 h => by
    rw [h]; unfold eqB
    have hd : c * (P / c) + P % c = P := Int.mul_ediv_add_emod P c
    have hm := Int.emod_nonneg P (show c ≠ 0 by omega)
    have hq : 0 ≤ P / c := Int.ediv_nonneg (by omega) (by omega)
    have hle : (k - 1) * (P / c) ≤ c * (P / c) := Int.mul_le_mul_of_nonneg_right (by omega) hq
    have hge : 0 ≤ (k - 1) * (P / c) := Int.mul_nonneg (by omega) hq
    generalize (k - 1) * (P / c) = x at *
    generalize c * (P / c) = z at *
    generalize P % c = m at *
    split <;> omega
  idle := fun k b k1 k2 h h0 => by
    rw [h] at h0 ⊢
    unfold eqB at h0 ⊢
    have hd : c * (P / c) + P % c = P := Int.mul_ediv_add_emod P c
    have hm := Int.emod_nonneg P (show c ≠ 0 by omega)
    have hmc := Int.emod_lt_of_pos P (show 0 < c by omega)
    have hq : 0 ≤ P / c := Int.ediv_nonneg (by omega) (by omega)
    have hle : k * (P / c) ≤ c * (P / c) := Int.mul_le_mul_of_nonneg_right (by omega) hq
    have e : k * (P / c) = (k - 1) * (P / c) + P / c := by rw [Int.sub_mul, Int.one_mul]; omega
    rw [show k + 1 - 1 = k by omega, e]
    rw [e] at hle
    generalize (k - 1) * (P / c) = x at *
    generalize c * (P / c) = z at *
    generalize P / c = q at *
    generalize P % c = m at *
    split at h0 <;> split <;> omega
  step := fun k b k1 k2 h h0 => by
    rw [h]
    unfold pEqual
    show 0 ≤ (if k ≤ P % c then P / c + 1 else P / c) ∧ (if k ≤ P % c then P / c + 1 else P / c) ≤ eqB P c k ∧ eqB P c k - (if k ≤ P % c then P / c + 1 else P / c) = eqB P c (k + 1)
    unfold eqB
    have hd : c * (P / c) + P % c = P := Int.mul_ediv_add_emod P c
    have hm := Int.emod_nonneg P (show c ≠ 0 by omega)
    have hq : 0 ≤ P / c := Int.ediv_nonneg (by omega) (by omega)
    have hle : k * (P / c) ≤ c * (P / c) := Int.mul_le_mul_of_nonneg_right (by omega) hq
    have e : k * (P / c) = (k - 1) * (P / c) + P / c := by rw [Int.sub_mul, Int.one_mul]; omega
    rw [show k + 1 - 1 = k by omega, e]
    rw [e] at hle
    generalize (k - 1) * (P / c) = x at *
    generalize c * (P / c) = z at *
    generalize P / c = q at *
    generalize P % c = m at *
    split <;> split <;> (try split) <;> omega
theorem planP_ge {part due r} : ∀ (n : Nat) (k b : Int) (acc : List T123), (planP part due r n k b acc).1 = true → acc.length ≤ (planP part due r n k b acc).2.length
  | 0, k, b, acc, _ => by simp [planP]
  | n + 1, k, b, acc, h => by
    unfold planP at h ⊢
    split at h
    · rename_i h1
      rw [if_pos h1]
      split at h
      · rename_i h2
        rw [if_pos h2]
        have := planP_ge (part := part) (due := due) (r := r) n (k + 1) (b - part k b (mP b r)) (acc ++ [((due k).1, mP b r, part k b (mP b r), false, ())]) h
        simp at this; omega
      · cases h
    · rename_i h1
      rw [if_neg h1]
      exact planP_ge n (k + 1) b acc h
theorem planP_row {part due r} {n : Nat} {k b : Int} {acc : List T123} (h1 : 0 < b ∧ ¬(mP b r = 0 ∧ part k b (mP b r) = 0)) (h : (planP part due r (n + 1) k b acc).1 = true) : (planP part due r (n + 1) k b acc).2 ≠ [] := by
  unfold planP at h ⊢
  rw [if_pos h1] at h ⊢
  split at h
  · rename_i hd
    rw [if_pos hd]
    have := planP_ge (part := part) (due := due) (r := r) n (k + 1) (b - part k b (mP b r)) (acc ++ [((due k).1, mP b r, part k b (mP b r), false, ())]) h
    intro e; rw [e] at this; simp at this
  · cases h
theorem eq_first {P c : Int} (h1 : 1 ≤ P) (hc : 1 ≤ c) (i : Int) : pEqual P c 1 P i ≠ 0 := by
  unfold pEqual
  have hd := Int.mul_ediv_add_emod P c
  have hq : 0 ≤ P / c := Int.ediv_nonneg (by omega) (by omega)
  have hm := Int.emod_nonneg P (show c ≠ 0 by omega)
  split
  · omega
  · intro e; rw [e, Int.mul_zero] at hd; omega
theorem planP_first {part due r} {n : Nat} {k b : Int} {acc : List T123} (hn : 0 < n) (hb : 0 < b) (hp : part k b (mP b r) ≠ 0) (h : (planP part due r n k b acc).1 = true) : (planP part due r n k b acc).2 ≠ [] := by
  obtain ⟨m, rfl⟩ : ∃ m, n = m + 1 := ⟨n - 1, by omega⟩
  exact planP_row ⟨hb, fun h => hp h.2⟩ h
theorem planP_last {part due r} {c : Int} (hc : ∀ b, 0 < b → part c b (mP b r) ≠ 0) : ∀ (n : Nat) {k b : Int} {acc : List T123}, 0 < n → k + n = c + 1 → 0 < b → (planP part due r n k b acc).1 = true → (planP part due r n k b acc).2 ≠ []
  | n + 1, k, b, acc, _, hk, hb, h => by
    by_cases h1 : 0 < b ∧ ¬(mP b r = 0 ∧ part k b (mP b r) = 0)
    · exact planP_row h1 h
    · by_cases hn : n = 0
      · subst hn
        have : k = c := by omega
        subst this
        exact absurd ⟨hb, fun h => hc b hb h.2⟩ h1
      · unfold planP at h ⊢
        rw [if_neg h1] at h ⊢
        exact planP_last hc n (by omega) (by omega) hb h
def rowB (x : T123) : Prop := 0 ≤ x.2.1 ∧ x.2.1 ≤ 10000000000000 ∧ 0 ≤ x.2.2.1 ∧ x.2.2.1 ≤ 10000000000000 ∧ x.2.2.2.1 = false
theorem planP_rows {part due} {r c : Int} {Inv : Int → Int → Prop} (hr : 0 ≤ r) (hr2 : r ≤ 100000) (hK : Keeps part r c Inv) : ∀ (n : Nat) (k b : Int) (acc : List T123), k + n = c + 1 → 1 ≤ k → Inv k b → (∀ x ∈ acc, rowB x) → ∀ x ∈ (planP part due r n k b acc).2, rowB x
  | 0, k, b, acc, hk, h1, hI, ha => ha
  | n + 1, k, b, acc, hk, h1, hI, ha => by
    unfold planP
    split
    · rename_i hc
      have hl := hK.lo k b h1 (by omega) hI
      have hs := hK.step k b h1 (by omega) hI hc.1
      split
      · refine planP_rows hr hr2 hK n (k + 1) _ _ (by omega) (by omega) hs.2.2 (fun x hx => ?_)
        rcases List.mem_append.mp hx with hx | hx
        · exact ha x hx
        · simp only [List.mem_singleton] at hx
          subst hx
          exact ⟨mP_nonneg hl.1 hr, mP_le hl.1 hl.2 hr hr2, hs.1, by show part k b (mP b r) ≤ _; omega, rfl⟩
      · simp
    · rename_i hc
      by_cases hb : b ≤ 0
      · exact planP_rows hr hr2 hK n (k + 1) b acc (by omega) (by omega) (hK.idle k b h1 (by omega) hI hb) ha
      · have hs := hK.step k b h1 (by omega) hI (by omega)
        have hp : part k b (mP b r) = 0 := by
          by_cases q : part k b (mP b r) = 0
          · exact q
          · exact absurd ⟨by omega, fun h => q h.2⟩ hc
        have := hs.2.2
        rw [hp, Int.sub_zero] at this
        exact planP_rows hr hr2 hK n (k + 1) b acc (by omega) (by omega) this ha
theorem plans (t : T25) (s : List Int) : ∃ pl : Bool × List T123, F_plan (t, (), ()) (s, ()) = ⟨true, false, ((), pl.1, ()), ((), pl.2, ()), ()⟩ ∧ pl.2.length ≤ 120 ∧ (pl.1 = true → okT t = true ∧ pl.2 ≠ []) ∧ (∀ x ∈ pl.2, rowB x) := by
  rw [F_plan_eq, valid t]
  cases hv : okT t with
  | false => exact ⟨(false, []), rfl, by simp, (fun h => by cases h), by simp⟩
  | true =>
  by_cases hs : s.length ≤ 64
  · have d0 : decide (((s.length : Nat) : Int) > 64) = false := by simp; omega
    simp only [Bool.not_true, cond_false, d0]
    obtain ⟨kd, P, r, c, st, ru, ⟨⟩⟩ := t
    obtain ⟨a1, a2, a3, a4, a5, a6, a7, a8, a9, a10, a11, a12⟩ := okT_out hv
    obtain ⟨y, m, anc, e, hd⟩ := dues (kd := kd) (P := P) (r := r) (c := c) (ru := ru) (s := s) (by omega) a9 a10
    obtain ⟨due, hdP⟩ : ∃ due : Int → Int × Bool × Unit,
        (∀ k, 1 ≤ k → k ≤ c → ∃ a : Int × Bool × Unit, F_addMonths (st, k, anc, ()) () = ⟨true, false, a, (), ()⟩ ∧ (a.2.1 = true → F_adjust (a.1, (), ru, ()) (s, ()) = ⟨true, false, due k, ((), ()), ()⟩) ∧ (a.2.1 = false → due k = (0, false, ()))) := by
      refine ⟨fun k => bif (F_addMonths (st, k, anc, ()) ()).ret.2.1 then (F_adjust ((F_addMonths (st, k, anc, ()) ()).ret.1, (), ru, ()) (s, ())).ret else (0, false, ()), fun k k1 k2 => ?_⟩
      obtain ⟨a, d, h2, h3, h4⟩ := hd k k1 (by omega)
      refine ⟨a, h2, fun ha => ?_, fun ha => ?_⟩
      · simp only [h2, ha, cond_true]
        rw [h3 ha]
      · simp only [h2, ha, cond_false]
    obtain ⟨pay, hl, e3⟩ := levels (b := P) (r := r) (c := c) (by omega) a4 a5 a6 a7 a8
    have hpay : mP P r < pay := by
      have := hl.2.2.1
      obtain ⟨n, hn⟩ : ∃ n, c.toNat = n + 1 := ⟨c.toNat - 1, by omega⟩
      rw [hn] at this
      unfold payP at this
      split at this
      · cases this
      · omega
    have hpay2 := hl.2.1
    have hq : 0 ≤ P / c := Int.ediv_nonneg (by omega) (by omega)
    have hq2 : P / c ≤ P := Int.ediv_le_self _ (by omega)
    have hk1 : ∀ h, k_plan (((kd, P, r, c, st, ru, ()) : T25), (), ()) h = c.toNat + 2 := fun _ => rfl
    simp only [e, e3, hk1, Bool.not_true, cond_false, cond_true, Bool.and_true, Bool.true_and]
    have room : ([] : List T123).length + c.toNat ≤ 1000 := by simp; omega
    by_cases c0 : kd = 0
    · subst c0
      have A := L_plan17 (due := due) (part := pLevel pay) (kd := 0) (P := P) (st := st) (pay := pay) a5 a6 a7 (by omega) (keepsLevel a5 hpay a4) (fun k b k1 k2 h h0 => by
        have g := mP_mono a5 h.2
        have g1 := mP_nonneg h.1 a5
        have w : IntKind.i64.wrap (pay - mP b r) = pay - mP b r := w64 (by omega) (by omega)
        rw [w]; rfl) hdP c.toNat (c.toNat + 2) 1 P [] (by omega) (by omega) (by omega) ⟨by omega, by omega⟩ room
      simp only [beq_self_eq_true, cond_true, A, Bool.and_true]
      exact ⟨_, rfl, Nat.le_trans (planP_length _ _ _ _) (by simp; omega), (fun h => ⟨trivial, planP_first (by omega) (by omega) (by unfold pLevel; split <;> omega) h⟩), planP_rows (c := c) a5 a6 (keepsLevel a5 hpay a4) c.toNat 1 P [] (by omega) (by omega) ⟨by omega, by omega⟩ (by simp)⟩
    have e0 : (kd == 0) = false := by simpa using c0
    by_cases c1 : kd = 1
    · subst c1
      have tm : P.tmod c = P % c := Int.tmod_eq_emod_of_nonneg (by omega)
      have td : P.tdiv c = P / c := Int.tdiv_eq_ediv_of_nonneg (by omega)
      have wq : IntKind.i64.wrap (P / c) = P / c := w64 (by omega) (by omega)
      have wq1 : IntKind.i64.wrap (P / c + 1) = P / c + 1 := w64 (by omega) (by omega)
      have hd2 : P / c * c + P % c = P := Int.ediv_mul_add_emod P c
      have hm0 := Int.emod_nonneg P (show c ≠ 0 by omega)
      have wm : IntKind.i64.wrap (P / c * c) = P / c * c := w64 (by have : 0 ≤ P / c * c := Int.mul_nonneg hq (by omega); omega) (by omega)
      have ws : IntKind.i64.wrap (P - P / c * c) = P % c := by rw [show P - P / c * c = P % c by omega]; exact w64 (by omega) (by have := Int.emod_lt_of_pos P (show 0 < c by omega); omega)
      have ec : (c != 0) = true := by simp; omega
      have A := L_plan17_1 (due := due) (part := pEqual P c) (kd := 1) (P := P) (st := st) (pay := 0) a5 a6 a7 (by omega) (keepsEqual a3 a4 a7) (fun k b k1 k2 h h0 => by
        rw [tm, td, wq, wq1]
        unfold pEqual
        by_cases cc : k ≤ P % c
        · have : decide (k ≤ P % c) = true := by simpa using cc
          rw [this, if_pos cc]; rfl
        · have : decide (k ≤ P % c) = false := by simpa using cc
          rw [this, if_neg cc]; rfl) hdP c.toNat (c.toNat + 2) 1 P [] (by omega) (by omega) (by omega) (by unfold eqB; rw [if_pos (by omega)]; omega) room
      simp only [e0, beq_self_eq_true, cond_true, cond_false, A, Bool.and_true]
      exact ⟨_, rfl, Nat.le_trans (planP_length _ _ _ _) (by simp; omega), (fun h => ⟨trivial, planP_first (by omega) (by omega) (eq_first a3 a7 _) h⟩), planP_rows (c := c) a5 a6 (keepsEqual a3 a4 a7) c.toNat 1 P [] (by omega) (by omega) (by unfold eqB; rw [if_pos (by omega)]; omega) (by simp)⟩
    · have c2 : kd = 2 := by omega
      subst c2
      have e1 : ((2 : Int) == 1) = false := rfl
      have A := L_plan17_2 (due := due) (part := pBall c) (kd := 2) (P := P) (st := st) (pay := 0) a5 a6 a7 (by omega) (keepsBall (r := r) (c := c)) (fun k b k1 k2 h h0 => by
        unfold pBall
        by_cases cc : k < c
        · have : decide (k < c) = true := by simpa using cc
          rw [this, if_pos cc]; rfl
        · have : decide (k < c) = false := by simpa using cc
          rw [this, if_neg cc]; rfl) hdP c.toNat (c.toNat + 2) 1 P [] (by omega) (by omega) (by omega) ⟨by omega, by omega⟩ room
      simp only [e0, e1, cond_true, cond_false, A, Bool.and_true]
      exact ⟨_, rfl, Nat.le_trans (planP_length _ _ _ _) (by simp; omega), (fun h => ⟨trivial, planP_last (c := c) (fun b hb => by unfold pBall; rw [if_neg (by omega)]; omega) _ (by omega) (by omega) (by omega) h⟩), planP_rows (c := c) a5 a6 (keepsBall (r := r) (c := c)) c.toNat 1 P [] (by omega) (by omega) ⟨by omega, by omega⟩ (by simp)⟩
  · have d0 : decide (((s.length : Nat) : Int) > 64) = true := by simp; omega
    simp only [Bool.not_true, cond_false, cond_true, d0]
    exact ⟨(false, []), rfl, by simp, (fun h => by cases h), by simp⟩
end Go.Proofs.YtlflclfhldghbaaGreatDoor.Fs
end
section
set_option maxRecDepth 20000
namespace Go.Proofs.YtlflclfhldghbaaGreatDoor.Fs
open Go Go.Proofs.YtlflclfhldghbaaGreatDoor.Ls P Go.Proofs.YtlflclfhldghbaaGreatDoor.Cal
def ascP : Int → List Int → Bool
  | _, [] => true
  | last, x :: r => if x ≤ last ∨ 3652059 < x then false else ascP x r
theorem drop_one {s : List Int} {i : Nat} (h : i < s.length) : s.drop i = s.getD i 0 :: s.drop (i + 1) := by
  rw [List.drop_eq_getElem_cons h]
  congr 1
  simp [List.getD, List.getElem?_eq_getElem h]
theorem L_days {s : List Int} (hs : s.length ≤ 1000000) : ∀ (n k i : Nat) (last : Int), n < k → i + n = s.length →
    L_days_6 k ((last, (), ((s.length : Nat) : Int), (i : Int), ()), s, ()) = ⟨true, false, ascP last (s.drop i), ((), ()), ()⟩
  | n, 0, i, last, hk, _ => by omega
  | n, k + 1, i, last, hk, hn => by
    rw [L_days_6_eq]
    by_cases c : i < s.length
    · have d : decide ((i : Int) < ((s.length : Nat) : Int)) = true := by simp; omega
      have w : IntKind.i64.wrap ((i : Int) + 1) = ((i + 1 : Nat) : Int) := w64 (by omega) (by omega)
      simp only [inb c]
      simp only [d, cond_true, w, Bool.true_and, Int.toNat_natCast, csame]
      rw [drop_one c]
      unfold ascP
      by_cases c1 : s.getD i 0 ≤ last
      · have c1' : decide (s.getD i 0 ≤ last) = true := by rw [decide_eq_true_eq]; exact c1
        rw [c1', if_pos (Or.inl c1)]; rfl
      · have c1' : decide (s.getD i 0 ≤ last) = false := by rw [decide_eq_false_iff_not]; exact c1
        by_cases c2 : s.getD i 0 > 3652059
        · have c2' : decide (s.getD i 0 > 3652059) = true := by rw [decide_eq_true_eq]; exact c2
          rw [c1', c2', if_pos (Or.inr c2)]; rfl
        · have c2' : decide (s.getD i 0 > 3652059) = false := by rw [decide_eq_false_iff_not]; exact c2
          rw [c1', c2', if_neg (by omega)]
          obtain ⟨n', rfl⟩ : ∃ n', n = n' + 1 := ⟨n - 1, by omega⟩
          simp only [cond_false]
          rw [L_days hs n' k (i + 1) (s.getD i 0) (by omega) (by omega)]
    · have d : decide ((i : Int) < ((s.length : Nat) : Int)) = false := by simp; omega
      simp only [d, cond_false]
      rw [List.drop_eq_nil_of_le (by omega)]; rfl
def okH (s : List Int) : Bool := if 64 < s.length then false else ascP 0 s
theorem days (p : T23) (s : List Int) : F_days (p, ()) (s, ()) = ⟨true, false, okH s, ((), ()), ()⟩ := by
  rw [F_days_eq]
  unfold okH
  by_cases c : 64 < s.length
  · have d : decide (((s.length : Nat) : Int) > 64) = true := by simp; omega
    rw [d, if_pos c]; rfl
  · have d : decide (((s.length : Nat) : Int) > 64) = false := by simp; omega
    rw [d, if_neg c]
    have hk : k_days (p, ()) (s, ()) = s.length + 2 := rfl
    rw [hk]
    exact L_days (s := s) (by omega) s.length (s.length + 2) 0 0 (by omega) (by omega)
def c1 (p : T23) : Bool := (bif decide (p.1 ≥ 1) then decide (p.1 ≤ 3652059) else false)
def c2 (p : T23) : Bool := (bif decide (p.2.1 ≥ 0) then decide (p.2.1 ≤ 30) else false)
def c3 (p : T23) : Bool := (bif decide (p.2.2.1 > p.2.1) then decide (p.2.2.1 ≤ 365) else false)
def c4 (p : T23) : Bool := (bif decide (p.2.2.2.1 ≥ 1) then decide (p.2.2.2.1 ≤ 365) else false)
def c5 (p : T23) : Bool := (bif decide (p.2.2.2.2.1 ≥ 0) then decide (p.2.2.2.2.1 ≤ 10000) else false)
def c6 (p : T23) : Bool := (bif decide (p.2.2.2.2.2.1 ≥ 0) then decide (p.2.2.2.2.2.1 ≤ 1000000000) else false)
def c7 (p : T23) : Bool := (bif (decide (p.2.2.2.2.2.2.1 ≥ p.2.2.2.2.2.1)) then decide (p.2.2.2.2.2.2.1 ≤ 1000000000) else false)
def c8 (p : T23) : Bool := (bif (decide (p.2.2.2.2.2.2.2.1 ≥ 0)) then decide (p.2.2.2.2.2.2.2.1 ≤ 1000000000) else false)
def c9 (p : T23) : Bool := (bif (decide (p.2.2.2.2.2.2.2.2.1 ≥ 0)) then decide (p.2.2.2.2.2.2.2.2.1 ≤ 1000000000) else false)
def c10 (p : T23) : Bool := (bif (decide (p.2.2.2.2.2.2.2.2.2.1 ≥ 0)) then decide (p.2.2.2.2.2.2.2.2.2.1 ≤ 8) else false)
def c11 (p : T23) : Bool := (bif (decide ((p.2.2.2.2.2.2.2.2.2.2.1) ≥ 1)) then decide ((p.2.2.2.2.2.2.2.2.2.2.1) ≤ 60) else false)
def c12 (p : T23) : Bool := (bif (decide (((p.2.2.2.2.2.2.2.2.2.2.2).1) ≥ 0)) then decide (((p.2.2.2.2.2.2.2.2.2.2.2).1) ≤ 4) else false)
def c13 (p : T23) : Bool := (bif (decide ((((p.2.2.2.2.2.2.2.2.2.2.2).2).1) ≥ 0)) then decide ((((p.2.2.2.2.2.2.2.2.2.2.2).2).1) ≤ 5) else false)
def c14 (p : T23) : Bool := (bif (decide (((((p.2.2.2.2.2.2.2.2.2.2.2).2).2).1) ≥ 0)) then decide (((((p.2.2.2.2.2.2.2.2.2.2.2).2).2).1) ≤ 3) else false)
def c15 (p : T23) : Bool := (bif (decide ((((((p.2.2.2.2.2.2.2.2.2.2.2).2).2).2).1) ≥ 1)) then decide ((((((p.2.2.2.2.2.2.2.2.2.2.2).2).2).2).1) ≤ 64) else false)
def c16 (p : T23) : Bool := (bif (decide (((((((p.2.2.2.2.2.2.2.2.2.2.2).2).2).2).2).1) ≥ (((((p.2.2.2.2.2.2.2.2.2.2.2).2).2).2).1))) then decide (((((((p.2.2.2.2.2.2.2.2.2.2.2).2).2).2).2).1) ≤ 64) else false)
def c17 (p : T23) : Bool := (bif (decide (((((((p.2.2.2.2.2.2.2.2.2.2.2).2).2).2).2).2.1) ≥ 0)) then decide (((((((p.2.2.2.2.2.2.2.2.2.2.2).2).2).2).2).2.1) ≤ 1000) else false)
theorem w01 : IntKind.i64.wrap ((0 : Int) + (1 : Int)) = 1 := by rfl
theorem w2 : IntKind.i64.wrap ((1 : Int) + (1 : Int)) = 2 := by rfl
theorem w3 : IntKind.i64.wrap ((2 : Int) + (1 : Int)) = 3 := by rfl
theorem w4 : IntKind.i64.wrap ((3 : Int) + (1 : Int)) = 4 := by rfl
theorem w5 : IntKind.i64.wrap ((4 : Int) + (1 : Int)) = 5 := by rfl
theorem w6 : IntKind.i64.wrap ((5 : Int) + (1 : Int)) = 6 := by rfl
theorem w7 : IntKind.i64.wrap ((6 : Int) + (1 : Int)) = 7 := by rfl
theorem w8 : IntKind.i64.wrap ((7 : Int) + (1 : Int)) = 8 := by rfl
theorem w9 : IntKind.i64.wrap ((8 : Int) + (1 : Int)) = 9 := by rfl
theorem w10 : IntKind.i64.wrap ((9 : Int) + (1 : Int)) = 10 := by rfl
theorem w11 : IntKind.i64.wrap ((10 : Int) + (1 : Int)) = 11 := by rfl
theorem w12 : IntKind.i64.wrap ((11 : Int) + (1 : Int)) = 12 := by rfl
theorem w13 : IntKind.i64.wrap ((12 : Int) + (1 : Int)) = 13 := by rfl
theorem w14 : IntKind.i64.wrap ((13 : Int) + (1 : Int)) = 14 := by rfl
theorem w15 : IntKind.i64.wrap ((14 : Int) + (1 : Int)) = 15 := by rfl
theorem w16 : IntKind.i64.wrap ((15 : Int) + (1 : Int)) = 16 := by rfl
theorem w17 : IntKind.i64.wrap ((16 : Int) + (1 : Int)) = 17 := by rfl
theorem w18 : IntKind.i64.wrap ((17 : Int) + (1 : Int)) = 18 := by rfl
def chk (p : T23) (s : List Int) : Int × Int × Unit :=
  bif !c1 p then (120, 1, ()) else bif !c2 p then (120, 2, ()) else bif !c3 p then (120, 3, ()) else bif !c4 p then (120, 4, ()) else bif !c5 p then (120, 5, ()) else bif !c6 p then (120, 6, ()) else bif !c7 p then (120, 7, ()) else bif !c8 p then (120, 8, ()) else bif !c9 p then (120, 9, ()) else bif !c10 p then (120, 10, ()) else bif !c11 p then (120, 11, ()) else bif !c12 p then (120, 12, ()) else bif !c13 p then (120, 13, ()) else bif !c14 p then (120, 14, ()) else bif !c15 p then (120, 15, ()) else bif !c16 p then (120, 16, ()) else bif !c17 p then (120, 17, ()) else bif !okH s then (120, 18, ()) else (0, 0, ())
theorem check (p : T23) (s : List Int) : F_check (p, ()) (s, ()) = ⟨true, false, chk p s, ((), ()), ()⟩ := by
  rw [F_check_eq]
  have hd := days p s
  simp only [w01, w2, w3, w4, w5, w6, w7, w8, w9, w10, w11, w12, w13, w14, w15, w16, w17, w18, csame, hd, Bool.and_true]
  unfold chk
  have e1 : ((bif decide (p.1 ≥ 1) then decide (p.1 ≤ 3652059) else false)) = c1 p := rfl
  rw [e1]
  cases h1 : c1 p with
  | false => rfl
  | true =>
  have e2 : ((bif decide (p.2.1 ≥ 0) then decide (p.2.1 ≤ 30) else false)) = c2 p := rfl
  rw [e2]
  cases h2 : c2 p with
  | false => rfl
  | true =>
  have h2 : c2 p = true := by assumption
  have e3 : (bif decide (p.2.2.1 ≥ IntKind.i64.wrap (p.2.1 + 1)) then decide (p.2.2.1 ≤ 365) else false) = c3 p := by
    have hb : 0 ≤ p.2.1 ∧ p.2.1 ≤ 30 := by
      have := h2; unfold c2 at this; rw [cft] at this; simpa using this
    rw [w64 (by omega) (by omega)]
    unfold c3
    by_cases g : p.2.2.1 ≥ p.2.1 + 1
    · have g1 : decide (p.2.2.1 ≥ p.2.1 + 1) = true := by rw [decide_eq_true_eq]; exact g
      have g2 : decide (p.2.2.1 > p.2.1) = true := by rw [decide_eq_true_eq]; omega
      rw [g1, g2]
    · have g1 : decide (p.2.2.1 ≥ p.2.1 + 1) = false := by rw [decide_eq_false_iff_not]; exact g
      have g2 : decide (p.2.2.1 > p.2.1) = false := by rw [decide_eq_false_iff_not]; omega
      rw [g1, g2]
  rw [e3]
  cases h3 : c3 p with
  | false => rfl
  | true =>
  have e4 : ((bif decide (p.2.2.2.1 ≥ 1) then decide (p.2.2.2.1 ≤ 365) else false)) = c4 p := rfl
  rw [e4]
  cases h4 : c4 p with
  | false => rfl
  | true =>
  have e5 : ((bif decide (p.2.2.2.2.1 ≥ 0) then decide (p.2.2.2.2.1 ≤ 10000) else false)) = c5 p := rfl
  rw [e5]
  cases h5 : c5 p with
  | false => rfl
  | true =>
  have e6 : ((bif decide (p.2.2.2.2.2.1 ≥ 0) then decide (p.2.2.2.2.2.1 ≤ 1000000000) else false)) = c6 p := rfl
  rw [e6]
  cases h6 : c6 p with
  | false => rfl
  | true =>
  have e7 : ((bif (decide (p.2.2.2.2.2.2.1 ≥ p.2.2.2.2.2.1)) then decide (p.2.2.2.2.2.2.1 ≤ 1000000000) else false)) = c7 p := rfl
  rw [e7]
  cases h7 : c7 p with
  | false => rfl
  | true =>
  have e8 : ((bif (decide (p.2.2.2.2.2.2.2.1 ≥ 0)) then decide (p.2.2.2.2.2.2.2.1 ≤ 1000000000) else false)) = c8 p := rfl
  rw [e8]
  cases h8 : c8 p with
  | false => rfl
  | true =>
  have e9 : ((bif (decide (p.2.2.2.2.2.2.2.2.1 ≥ 0)) then decide (p.2.2.2.2.2.2.2.2.1 ≤ 1000000000) else false)) = c9 p := rfl
  rw [e9]
  cases h9 : c9 p with
  | false => rfl
  | true =>
  have e10 : ((bif (decide (p.2.2.2.2.2.2.2.2.2.1 ≥ 0)) then decide (p.2.2.2.2.2.2.2.2.2.1 ≤ 8) else false)) = c10 p := rfl
  rw [e10]
  cases h10 : c10 p with
  | false => rfl
  | true =>
  have e11 : ((bif (decide ((p.2.2.2.2.2.2.2.2.2.2.1) ≥ 1)) then decide ((p.2.2.2.2.2.2.2.2.2.2.1) ≤ 60) else false)) = c11 p := rfl
  rw [e11]
  cases h11 : c11 p with
  | false => rfl
  | true =>
  have e12 : ((bif (decide (((p.2.2.2.2.2.2.2.2.2.2.2).1) ≥ 0)) then decide (((p.2.2.2.2.2.2.2.2.2.2.2).1) ≤ 4) else false)) = c12 p := rfl
  rw [e12]
  cases h12 : c12 p with
  | false => rfl
  | true =>
  have e13 : ((bif (decide ((((p.2.2.2.2.2.2.2.2.2.2.2).2).1) ≥ 0)) then decide ((((p.2.2.2.2.2.2.2.2.2.2.2).2).1) ≤ 5) else false)) = c13 p := rfl
  rw [e13]
  cases h13 : c13 p with
  | false => rfl
  | true =>
  have e14 : ((bif (decide (((((p.2.2.2.2.2.2.2.2.2.2.2).2).2).1) ≥ 0)) then decide (((((p.2.2.2.2.2.2.2.2.2.2.2).2).2).1) ≤ 3) else false)) = c14 p := rfl
  rw [e14]
  cases h14 : c14 p with
  | false => rfl
  | true =>
  have e15 : ((bif (decide ((((((p.2.2.2.2.2.2.2.2.2.2.2).2).2).2).1) ≥ 1)) then decide ((((((p.2.2.2.2.2.2.2.2.2.2.2).2).2).2).1) ≤ 64) else false)) = c15 p := rfl
  rw [e15]
  cases h15 : c15 p with
  | false => rfl
  | true =>
  have e16 : ((bif (decide (((((((p.2.2.2.2.2.2.2.2.2.2.2).2).2).2).2).1) ≥ (((((p.2.2.2.2.2.2.2.2.2.2.2).2).2).2).1))) then decide (((((((p.2.2.2.2.2.2.2.2.2.2.2).2).2).2).2).1) ≤ 64) else false)) = c16 p := rfl
  rw [e16]
  cases h16 : c16 p with
  | false => rfl
  | true =>
  have e17 : ((bif (decide (((((((p.2.2.2.2.2.2.2.2.2.2.2).2).2).2).2).2.1) ≥ 0)) then decide (((((((p.2.2.2.2.2.2.2.2.2.2.2).2).2).2).2).2.1) ≤ 1000) else false)) = c17 p := rfl
  rw [e17]
  cases h17 : c17 p with
  | false => rfl
  | true =>
  cases okH s <;> rfl
end Go.Proofs.YtlflclfhldghbaaGreatDoor.Fs
end
section
namespace Go.Proofs.YtlflclfhldghbaaGreatDoor.P
open Go
abbrev TermsT := Int × Int × Int × Int × Int × Int × Unit
abbrev RowT := Int × Int × Int × Bool × Unit
abbrev PolT := Int × Int × Int × Int × Int × Int × Int × Int × Int × Int × Int × Int × Int × Int × Int × Int × Int × Unit × Unit
abbrev NetT := Int × Int × Int × Int × Int × Int × Int × Int × Int × Int × Int × Int × Unit
abbrev BookT := NetT × Unit
abbrev EntT := Int × Int × Int × Unit
abbrev PartsT := Int × Int × Int × Int × Int × Unit
abbrev PosT := Int × Int × Unit
abbrev CaseT := Int × Bool × Int × Int × Int × Int × Int × Int × Int × Int × Int × Int × Int × Int × Int × Unit
abbrev EvT := Int × Int × Int × Int × Unit
abbrev LoanT := Int × TermsT × Unit × BookT × CaseT × Int × Int × Int × PartsT × Bool × Int × Int × Unit
abbrev NoteT := Int × Int × Int × Int × Int × Bool × Unit
abbrev W (x : Int) : Int := IntKind.i64.wrap x
abbrev Kst (c : CaseT) := c.1
abbrev Ksusp (c : CaseT) := c.2.1
abbrev Kcyc (c : CaseT) := c.2.2.1
abbrev Ksince (c : CaseT) := c.2.2.2.1
abbrev Kdead (c : CaseT) := c.2.2.2.2.1
abbrev Kprom (c : CaseT) := c.2.2.2.2.2.1
abbrev Kpdue (c : CaseT) := c.2.2.2.2.2.2.1
abbrev Kpamt (c : CaseT) := c.2.2.2.2.2.2.2.1
abbrev Kpgot (c : CaseT) := c.2.2.2.2.2.2.2.2.1
abbrev Kkept (c : CaseT) := c.2.2.2.2.2.2.2.2.2.1
abbrev Kbroken (c : CaseT) := c.2.2.2.2.2.2.2.2.2.2.1
abbrev Kcures (c : CaseT) := c.2.2.2.2.2.2.2.2.2.2.2.1
abbrev Krestr (c : CaseT) := c.2.2.2.2.2.2.2.2.2.2.2.2.1
abbrev Kcfee (c : CaseT) := c.2.2.2.2.2.2.2.2.2.2.2.2.2.1
abbrev Klfee (c : CaseT) := c.2.2.2.2.2.2.2.2.2.2.2.2.2.2.1
abbrev Pgrace (p : PolT) := p.2.1
abbrev Pnon (p : PolT) := p.2.2.1
abbrev Poff (p : PolT) := p.2.2.2.1
abbrev Pcap (p : PolT) := p.2.2.2.2.2.2.2.1
abbrev Plife (p : PolT) := p.2.2.2.2.2.2.2.2.1
abbrev Pproms (p : PolT) := p.2.2.2.2.2.2.2.2.2.1
abbrev Ppdays (p : PolT) := p.2.2.2.2.2.2.2.2.2.2.1
abbrev Prestr (p : PolT) := p.2.2.2.2.2.2.2.2.2.2.2.1
abbrev Porder (p : PolT) := p.2.2.2.2.2.2.2.2.2.2.2.2.1
def kOpen (c : CaseT) : Bool := c.1 == 3 || (c.1 == 4 || c.1 == 5)
def kOver (c : CaseT) : Bool := c.1 == 8 || c.1 == 9
def kBack (c : CaseT) : CaseT := ((bif Ksusp c then 5 else 3), Ksusp c, Kcyc c, Ksince c, Kdead c, Kprom c, 0, 0, 0, c.2.2.2.2.2.2.2.2.2)
def kEnd (c : CaseT) (st : Int) : CaseT := (st, false, Kcyc c, 0, 0, 0, 0, 0, 0, Kkept c, Kbroken c, Kcures c, Krestr c, 0, c.2.2.2.2.2.2.2.2.2.2.2.2.2.2)
def kCure (c : CaseT) : CaseT := kEnd (Kst c, Ksusp c, Kcyc c, Ksince c, Kdead c, Kprom c, Kpdue c, Kpamt c, Kpgot c, Kkept c, Kbroken c, W (Kcures c + 1), c.2.2.2.2.2.2.2.2.2.2.2.2) 6
def kBrk (c : CaseT) : CaseT := kBack (Kst c, Ksusp c, Kcyc c, Ksince c, Kdead c, Kprom c, Kpdue c, Kpamt c, Kpgot c, Kkept c, W (Kbroken c + 1), c.2.2.2.2.2.2.2.2.2.2.2)
def kKept (c : CaseT) : CaseT := kBack (Kst c, Ksusp c, Kcyc c, Ksince c, Kdead c, Kprom c, Kpdue c, Kpamt c, Kpgot c, W (Kkept c + 1), c.2.2.2.2.2.2.2.2.2.2)
def isDay (d : Int) : Bool := decide (1 ≤ d) && decide (d ≤ 3652059)
abbrev KR := Except Int (CaseT × List Int)
def age22 (today : Int) (c : CaseT) (a : List Int) : KR := if Kdead c ≤ today then .ok (kEnd c 8, a ++ [4]) else .ok (c, a)
def age15 (p : PolT) (today days : Int) (c : CaseT) (a : List Int) : KR :=
  if kOpen c = false then .ok (c, a)
  else if Ksusp c = false ∧ Pnon p ≤ days then age22 today ((if Kst c = 3 then 5 else Kst c), true, c.2.2) (a ++ [3])
  else age22 today c a
def age10 (p : PolT) (today days : Int) (c : CaseT) (a : List Int) : KR :=
  if kOpen c = false then
    if Pgrace p < days then age15 p today days (3, Ksusp c, W (Kcyc c + 1), today, W (today + Poff p), 0, Kpdue c, Kpamt c, Kpgot c, Kkept c, Kbroken c, Kcures c, Krestr c, 0, c.2.2.2.2.2.2.2.2.2.2.2.2.2.2) (a ++ [2])
    else if 0 < days then age15 p today days (2, c.2) a
    else if Kst c = 2 then age15 p today days (1, c.2) a
    else age15 p today days c a
  else if days = 0 then .ok (kCure c, a ++ [6])
  else age15 p today days c a
def sAge (p : PolT) (c : CaseT) (a : List Int) (today days : Int) : KR :=
  if isDay today = false ∨ days < 0 then .error 2
  else if kOver c then .error 130
  else if Kst c = 4 ∧ Kpdue c < today then age10 p today days (kBrk c) (a ++ [1])
  else age10 p today days c a
def paid15 (days : Int) (c : CaseT) (a : List Int) : KR :=
  if 0 < days then .ok (c, a)
  else if kOpen c then .ok (kCure c, a ++ [6])
  else if Kst c = 2 then .ok ((1, c.2), a)
  else .ok (c, a)
def sPaid (c : CaseT) (a : List Int) (days amount : Int) : KR :=
  if amount < 1 then .error 4
  else if days < 0 then .error 2
  else if kOver c then .error 130
  else if Kst c = 4 then
    if W (Kpamt c - Kpgot c) ≤ amount then paid15 days (kKept c) (a ++ [5])
    else paid15 days (Kst c, Ksusp c, Kcyc c, Ksince c, Kdead c, Kprom c, Kpdue c, Kpamt c, W (Kpgot c + amount), c.2.2.2.2.2.2.2.2.2) a
  else paid15 days c a
def sReturned (c : CaseT) (a : List Int) (amount : Int) : KR :=
  if amount < 1 then .error 4
  else if kOver c then .error 130
  else if Kst c = 4 then .ok ((Kst c, Ksusp c, Kcyc c, Ksince c, Kdead c, Kprom c, Kpdue c, Kpamt c, (if W (Kpgot c - amount) > 0 then W (Kpgot c - amount) else 0), c.2.2.2.2.2.2.2.2.2), a)
  else .ok (c, a)
def sPromise (p : PolT) (c : CaseT) (a : List Int) (today days amount : Int) : KR :=
  if isDay today = false ∨ days < 1 ∨ Ppdays p < days then .error 2
  else if amount < 1 then .error 4
  else if kOver c then .error 130
  else if kOpen c = false then .error 131
  else if Kst c = 4 then .error 132
  else if Pproms p ≤ Kprom c then .error 133
  else .ok ((4, Ksusp c, Kcyc c, Ksince c, W (Kdead c + days), W (Kprom c + 1), W (today + days), amount, 0, c.2.2.2.2.2.2.2.2.2), a)
def sRestr (p : PolT) (c : CaseT) (a : List Int) : KR :=
  if kOver c then .error 130
  else if kOpen c = false then .error 131
  else if Prestr p ≤ Krestr c then .error 133
  else .ok (kEnd (Kst c, Ksusp c, Kcyc c, Ksince c, Kdead c, Kprom c, Kpdue c, Kpamt c, Kpgot c, Kkept c, Kbroken c, Kcures c, W (Krestr c + 1), c.2.2.2.2.2.2.2.2.2.2.2.2.2) 7, a ++ [7])
def sFee (p : PolT) (c : CaseT) (a : List Int) (amount : Int) : KR :=
  if amount < 1 then .error 4
  else if kOver c then .error 130
  else if kOpen c = false then .error 131
  else if Kst c = 4 then .error 132
  else if W (Pcap p - amount) < Kcfee c ∨ W (Plife p - amount) < Klfee c then .error 133
  else .ok ((Kst c, Ksusp c, Kcyc c, Ksince c, Kdead c, Kprom c, Kpdue c, Kpamt c, Kpgot c, Kkept c, Kbroken c, Kcures c, Krestr c, W (Kcfee c + amount), W (Klfee c + amount), ()), a)
def sClose (c : CaseT) (a : List Int) : KR :=
  if kOver c then .error 130
  else if kOpen c then .ok ((9, (kCure c).2), a ++ [6] ++ [8])
  else .ok ((9, c.2), a ++ [8])
def sStep (p : PolT) (c : CaseT) (e : EvT) : KR :=
  if e.1 < 1 ∨ 7 < e.1 then .error 2
  else if e.1 = 1 then sAge p c [] e.2.1 e.2.2.1
  else if e.1 = 2 then sPaid c [] e.2.2.1 e.2.2.2.1
  else if e.1 = 3 then sReturned c [] e.2.2.2.1
  else if e.1 = 4 then sPromise p c [] e.2.1 e.2.2.1 e.2.2.2.1
  else if e.1 = 5 then sRestr p c []
  else if e.1 = 6 then sFee p c [] e.2.2.2.1
  else sClose c []
def netL (b : BookT) : List Int := [b.1.1, b.1.2.1, b.1.2.2.1, b.1.2.2.2.1, b.1.2.2.2.2.1, b.1.2.2.2.2.2.1, b.1.2.2.2.2.2.2.1, b.1.2.2.2.2.2.2.2.1, b.1.2.2.2.2.2.2.2.2.1, b.1.2.2.2.2.2.2.2.2.2.1, b.1.2.2.2.2.2.2.2.2.2.2.1, b.1.2.2.2.2.2.2.2.2.2.2.2.1]
def net (b : BookT) (i : Nat) : Int := (netL b).getD i 0
def mkBook (f : Nat → Int) : BookT := ((f 0, f 1, f 2, f 3, f 4, f 5, f 6, f 7, f 8, f 9, f 10, f 11, ()), ())
def badE (e : EntT) : Int :=
  if e.1 < 0 ∨ 12 ≤ e.1 ∨ e.2.1 < 0 ∨ 12 ≤ e.2.1 ∨ e.1 = e.2.1 then 80 else if e.2.2.1 < 1 then 4 else 0
def addE (f : Nat → Int) (e : EntT) : Nat → Int := fun i => f i + (if e.1 = (i : Int) then e.2.2.1 else 0) - (if e.2.1 = (i : Int) then e.2.2.1 else 0)
def sumE : (Nat → Int) → List EntT → Except Int (Nat → Int)
  | f, [] => .ok f
  | f, e :: r => if badE e ≠ 0 then .error (badE e) else sumE (addE f e) r
def inR (x : Int) : Prop := -9223372036854775808 < x ∧ x ≤ 9223372036854775807
instance (x : Int) : Decidable (inR x) := by unfold inR; infer_instance
def allR (f : Nat → Int) : Prop := inR (f 0) ∧ inR (f 1) ∧ inR (f 2) ∧ inR (f 3) ∧ inR (f 4) ∧ inR (f 5) ∧ inR (f 6) ∧ inR (f 7) ∧ inR (f 8) ∧ inR (f 9) ∧ inR (f 10) ∧ inR (f 11)
instance (f : Nat → Int) : Decidable (allR f) := by unfold allR; infer_instance
def sided (f : Nat → Int) : Prop := 0 ≤ f 0 ∧ 0 ≤ f 1 ∧ 0 ≤ f 2 ∧ 0 ≤ f 3 ∧ f 4 ≤ 0 ∧ f 5 ≤ 0 ∧ f 6 ≤ 0 ∧ f 7 ≤ 0 ∧ f 8 ≤ 0 ∧ 0 ≤ f 9 ∧ f 10 ≤ 0 ∧ 0 ≤ f 11
instance (f : Nat → Int) : Decidable (sided f) := by unfold sided; infer_instance
def sPost (b : BookT) (es : List EntT) : Except Int BookT :=
  match sumE (net b) es with
  | .error e => .error e
  | .ok f => if allR f then (if sided f then .ok (mkBook f) else .error 81) else .error 3
def bookOk (b : BookT) : Prop := allR (net b) ∧ sided (net b)
abbrev Lid (l : LoanT) := l.1
abbrev Lterms (l : LoanT) := l.2.1
abbrev Lbook (l : LoanT) := l.2.2.2.1
abbrev Lcase (l : LoanT) := l.2.2.2.2.1
abbrev Lday (l : LoanT) := l.2.2.2.2.2.1
abbrev Lcarry (l : LoanT) := l.2.2.2.2.2.2.1
abbrev Lapp (l : LoanT) := l.2.2.2.2.2.2.2.1
abbrev Llast (l : LoanT) := l.2.2.2.2.2.2.2.2.1
abbrev Lhas (l : LoanT) := l.2.2.2.2.2.2.2.2.2.1
abbrev Loff (l : LoanT) := l.2.2.2.2.2.2.2.2.2.2.1
abbrev N (l : LoanT) (i : Nat) := net (Lbook l) i
def setBook (l : LoanT) (b : BookT) : LoanT := (l.1, l.2.1, (), b, l.2.2.2.2)
def setCase (l : LoanT) (c : CaseT) : LoanT := (l.1, l.2.1, (), l.2.2.2.1, c, l.2.2.2.2.2)
def setDay (l : LoanT) (d : Int) : LoanT := (l.1, l.2.1, (), l.2.2.2.1, l.2.2.2.2.1, d, l.2.2.2.2.2.2)
def setCarry (l : LoanT) (x : Int) : LoanT := (l.1, l.2.1, (), l.2.2.2.1, l.2.2.2.2.1, l.2.2.2.2.2.1, x, l.2.2.2.2.2.2.2)
def setApp (l : LoanT) (x : Int) : LoanT := (l.1, l.2.1, (), l.2.2.2.1, l.2.2.2.2.1, l.2.2.2.2.2.1, l.2.2.2.2.2.2.1, x, l.2.2.2.2.2.2.2.2)
def setLast (l : LoanT) (q : PartsT) (h : Bool) : LoanT := (l.1, l.2.1, (), l.2.2.2.1, l.2.2.2.2.1, l.2.2.2.2.2.1, l.2.2.2.2.2.2.1, l.2.2.2.2.2.2.2.1, q, h, l.2.2.2.2.2.2.2.2.2.2)
def setOff (l : LoanT) (x : Int) : LoanT := (l.1, l.2.1, (), l.2.2.2.1, l.2.2.2.2.1, l.2.2.2.2.2.1, l.2.2.2.2.2.2.1, l.2.2.2.2.2.2.2.1, l.2.2.2.2.2.2.2.2.1, l.2.2.2.2.2.2.2.2.2.1, x, l.2.2.2.2.2.2.2.2.2.2.2)
def setTerms (l : LoanT) (t : TermsT) : LoanT := (l.1, t, (), l.2.2.2.1, l.2.2.2.2)
def parts0 : PartsT := (0, 0, 0, 0, 0, ())
def case0 : CaseT := (0, false, 0, 0, 0, 0, 0, 0, 0, 0, 0, 0, 0, 0, 0, ())
def net0 : NetT := (0, 0, 0, 0, 0, 0, 0, 0, 0, 0, 0, 0, ())
def loan0 : LoanT := (0, (0, 0, 0, 0, 0, 0, ()), (), (net0, ()), case0, 0, 0, 0, parts0, false, 0, 0, ())
def pol0 : PolT := (0, 0, 0, 0, 0, 0, 0, 0, 0, 0, 0, 0, 0, 0, 0, 0, 0, (), ())
def lOver (l : LoanT) : Bool := kOver (Lcase l)
def posOf (l : LoanT) : PosT := (Lapp l, W (N l 2 + N l 1), ())
def total (l : LoanT) : Int := W (W (N l 3 + N l 2) + N l 1)
def sMove (l : LoanT) (es : List EntT) : Except Int LoanT :=
  match sPost (Lbook l) (es.filter (fun e => e.2.2.1 != 0)) with
  | .error e => .error e
  | .ok b => .ok (setBook l b)
def sNote (l : LoanT) (nn : List NoteT) (kind amount : Int) : List NoteT := nn ++ [(0, Lid l, kind, Lday l, amount, false, ())]
def sForget (l : LoanT) : LoanT := setLast l parts0 false
end Go.Proofs.YtlflclfhldghbaaGreatDoor.P
end
section
set_option maxRecDepth 20000
namespace Go.Proofs.YtlflclfhldghbaaGreatDoor.Fs
open Go Go.Proofs.YtlflclfhldghbaaGreatDoor.Ls P
def wd (v : Int) : Int × Int × Unit := (v / 18446744073709551616, v % 18446744073709551616, ())
theorem p63 : (2 : Int) ^ (min ((63 : Int).toNat) 64) = 9223372036854775808 := rfl
theorem iw (x : Int) : IntKind.i64.wrap x = (x + 9223372036854775808) % 18446744073709551616 - 9223372036854775808 := by
  unfold IntKind.wrap
  have e : (2 : Int) ^ IntKind.bits IntKind.i64 = 18446744073709551616 := by rfl
  have e2 : (2 : Int) ^ (IntKind.bits IntKind.i64 - 1) = 9223372036854775808 := by rfl
  simp only [e, e2, show IntKind.signed IntKind.i64 = true from rfl, Bool.true_and, decide_eq_true_eq]
  split <;> omega
theorem uw (x : Int) : IntKind.u64.wrap x = x % 18446744073709551616 := by
  unfold IntKind.wrap
  have e : (2 : Int) ^ IntKind.bits IntKind.u64 = 18446744073709551616 := by rfl
  simp only [e, show IntKind.signed IntKind.u64 = false from rfl, Bool.false_and, Bool.false_eq_true, if_false]
theorem fd63 (x : Int) : x.fdiv 9223372036854775808 = x / 9223372036854775808 := Int.fdiv_eq_ediv_of_nonneg x (by omega)
theorem wd_plus {v x : Int} (h1 : -100000000000000000000000 ≤ v) (h2 : v ≤ 100000000000000000000000) (x1 : -9223372036854775808 ≤ x) (x2 : x ≤ 9223372036854775807) :
    (((IntKind.i64.wrap ((IntKind.i64.wrap ((wd v).1 + x.fdiv (2 ^ (min ((63 : Int).toNat) 64)))) + (IntKind.i64.wrap (((((((wd v).2.1.toNat + (IntKind.u64.wrap x).toNat) + (0 : Int).toNat)) / 18446744073709551616) : Nat) : Int)))), ((((((wd v).2.1.toNat + (IntKind.u64.wrap x).toNat) + (0 : Int).toNat) % 18446744073709551616) : Nat) : Int), ()) : Int × Int × Unit) = wd (v + x) := by
  unfold wd
  simp only [p63, fd63, uw]
  obtain ⟨h, hh⟩ : ∃ h, h = v / 18446744073709551616 := ⟨_, rfl⟩
  obtain ⟨l, hl⟩ : ∃ l, l = v % 18446744073709551616 := ⟨_, rfl⟩
  obtain ⟨s, hs⟩ : ∃ s, s = x / 9223372036854775808 := ⟨_, rfl⟩
  obtain ⟨u, hu⟩ : ∃ u, u = x % 18446744073709551616 := ⟨_, rfl⟩
  obtain ⟨c, hc⟩ : ∃ c : Int, c = (((l.toNat + u.toNat + (0 : Int).toNat) / 18446744073709551616 : Nat) : Int) := ⟨_, rfl⟩
  rw [← hh, ← hl, ← hs, ← hu, ← hc]
  have b1 : 0 ≤ c ∧ c ≤ 1 := by omega
  have b2 : -1 ≤ s ∧ s ≤ 0 := by omega
  have b3 : -6000 ≤ h ∧ h ≤ 6000 := by omega
  rw [w64 (x := h + s) (by omega) (by omega), w64 (x := c) (by omega) (by omega), w64 (by omega) (by omega)]
  refine Prod.ext ?_ (Prod.ext ?_ rfl) <;> simp only [] <;> omega
theorem wd_minus {v x : Int} (h1 : -100000000000000000000000 ≤ v) (h2 : v ≤ 100000000000000000000000) (x1 : -9223372036854775808 ≤ x) (x2 : x ≤ 9223372036854775807) :
    (((IntKind.i64.wrap ((IntKind.i64.wrap ((wd v).1 - x.fdiv (2 ^ (min ((63 : Int).toNat) 64)))) - (IntKind.i64.wrap (((bif (Nat.blt (wd v).2.1.toNat ((IntKind.u64.wrap x).toNat + (0 : Int).toNat)) then 1 else 0) : Nat) : Int)))), (((((((wd v).2.1.toNat + 18446744073709551616) - (IntKind.u64.wrap x).toNat) - (0 : Int).toNat) % 18446744073709551616) : Nat) : Int), ()) : Int × Int × Unit) = wd (v - x) := by
  unfold wd
  simp only [p63, fd63, uw]
  obtain ⟨h, hh⟩ : ∃ h, h = v / 18446744073709551616 := ⟨_, rfl⟩
  obtain ⟨l, hl⟩ : ∃ l, l = v % 18446744073709551616 := ⟨_, rfl⟩
  obtain ⟨s, hs⟩ : ∃ s, s = x / 9223372036854775808 := ⟨_, rfl⟩
  obtain ⟨u, hu⟩ : ∃ u, u = x % 18446744073709551616 := ⟨_, rfl⟩
  obtain ⟨c, hc⟩ : ∃ c : Int, c = ((bif (Nat.blt l.toNat (u.toNat + (0 : Int).toNat)) then 1 else 0 : Nat) : Int) := ⟨_, rfl⟩
  rw [← hh, ← hl, ← hs, ← hu, ← hc]
  have b1 : c = if l < u then 1 else 0 := by
    rw [hc]
    by_cases q : l < u
    · have : Nat.blt l.toNat (u.toNat + (0 : Int).toNat) = true := Nat.ble_eq_true_of_le (by omega)
      rw [this, if_pos q]; rfl
    · have : Nat.blt l.toNat (u.toNat + (0 : Int).toNat) = false := by
        rw [Bool.eq_false_iff]; intro h; have := Nat.le_of_ble_eq_true h; omega
      rw [this, if_neg q]; rfl
  clear hc
  have b2 : -1 ≤ s ∧ s ≤ 0 := by omega
  have b3 : -6000 ≤ h ∧ h ≤ 6000 := by omega
  have b4 : 0 ≤ c ∧ c ≤ 1 := by rw [b1]; split <;> omega
  rw [w64 (x := h - s) (by omega) (by omega), w64 (x := c) (by omega) (by omega), w64 (by omega) (by omega)]
  split at b1 <;> (refine Prod.ext ?_ (Prod.ext ?_ rfl) <;> simp only [] <;> omega)
theorem wd_narrow {v : Int} (h1 : -100000000000000000000000 ≤ v) (h2 : v ≤ 100000000000000000000000) :
    (bif (!((wd v).1 == ((IntKind.i64.wrap (wd v).2.1).fdiv (2 ^ (min ((63 : Int).toNat) 64))))) then true else (IntKind.i64.wrap (wd v).2.1 == (-9223372036854775808))) = !decide (inR v) := by
  unfold wd
  simp only [p63, fd63]
  have e := iw (v % 18446744073709551616)
  generalize IntKind.i64.wrap (v % 18446744073709551616) = y at e ⊢
  rw [Bool.eq_iff_iff]
  simp only [ctb, Bool.or_eq_true, Bool.not_eq_true', beq_eq_false_iff_ne, beq_iff_eq, decide_eq_false_iff_not, ne_eq]
  unfold inR
  constructor
  · rintro (q | q) ⟨r1, r2⟩ <;> omega
  · intro q
    by_cases r : v / 18446744073709551616 = y / 9223372036854775808
    · right
      by_cases r1 : -9223372036854775808 < v
      · exact absurd ⟨r1, by omega⟩ q
      · omega
    · exact .inl r
theorem wd_val {v : Int} (h : inR v) : IntKind.i64.wrap (wd v).2.1 = v := by
  unfold inR at h; unfold wd; simp only [iw]; omega
end Go.Proofs.YtlflclfhldghbaaGreatDoor.Fs
end
