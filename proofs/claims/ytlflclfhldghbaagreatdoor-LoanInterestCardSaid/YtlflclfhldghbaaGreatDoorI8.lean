-- Texts of this claim, joined and cut down to what it uses (a program of this session).
import Derived.Test.YtlflclfhldghbaaGreatDoorT7
import Derived.Test.YtlflclfhldghbaaGreatDoorProg
import Derived.KernelRfl
import Derived.Test.YtlflclfhldghbaaGreatDoorRows
import Derived.LaidSub
import Derived.LaidLaws
import Derived.Lib.LaidTab
import Derived.Lib.SmallJoins
import Derived.Deep.Slices
import Derived.Deep.Fields
import Derived.ChangeSame
import Derived.ChangeSlices
import Derived.OpenShut
import Derived.Below
set_option linter.unusedVariables false
set_option linter.unusedSimpArgs false
set_option linter.unnecessarySimpa false
section
set_option maxRecDepth 20000
namespace Go.Proofs.YtlflclfhldghbaaGreatDoor.Fs
open Go Go.Proofs.YtlflclfhldghbaaGreatDoor.Ls P
noncomputable section
theorem lastA0 : lastA parts0 := by unfold lastA parts0; simp
theorem move_last {l es l'} (h : sMove l es = .ok l') : Llast l' = Llast l := by
  rw [(move_ok h).2]; rfl
theorem act_last {plan l nn a x} (hl : lastA (Llast l)) (h : sAct plan l nn a = .ok x) : lastA (Llast x.1) := by
  unfold sAct at h
  split at h
  · cases h; exact hl
  split at h
  · cases h; exact hl
  split at h
  · cases h; exact hl
  split at h
  · split at h
    · cases h
    · rename_i hm; cases h; rw [move_last hm]; exact hl
  split at h
  · cases h; exact lastA0
  split at h
  · unfold sChargeOff at h
    split at h
    · cases h
    · cases h; exact lastA0
  · cases h; exact hl
theorem acts_last {plan} : ∀ (al : List Int) {l nn x}, lastA (Llast l) → sActs plan l nn al = .ok x → lastA (Llast x.1)
  | [], l, nn, x, hl, h => by cases h; exact hl
  | a :: r, l, nn, x, hl, h => by
    unfold sActs at h
    split at h
    · cases h
    · rename_i y hy; exact acts_last r (act_last hl hy) h
theorem play_last {p plan l nn e x} (hl : lastA (Llast l)) (h : sPlay p plan l nn e = .ok x) : lastA (Llast x.1) := by
  unfold sPlay at h
  split at h
  · cases h
  · rename_i y hy; exact acts_last _ (show lastA (Llast (setCase l y.1)) from hl) h
theorem settle_last {p plan l nn x} (hl : lastA (Llast l)) (h : sSettle p plan l nn = .ok x) : lastA (Llast x.1) := by
  unfold sSettle at h
  split at h
  · exact play_last hl h
  · cases h; exact hl
theorem accrue_last {l d x} (hl : lastA (Llast l)) (h : sAccrue l d = .ok x) : lastA (Llast x) := by
  unfold sAccrue at h
  split at h
  · cases h; exact hl
  split at h
  · cases h
  split at h
  · cases h
  · rename_i l2 hm; cases h
    show lastA (Llast l2)
    rw [move_last hm]; exact hl
theorem chargeL_last {p plan} : ∀ (rows : List Int) {l nn x}, lastA (Llast l) → sChargeL p plan l nn rows = .ok x → lastA (Llast x.1)
  | [], l, nn, x, hl, h => by cases h; exact hl
  | i :: r, l, nn, x, hl, h => by
    unfold sChargeL at h
    split at h
    · exact chargeL_last r hl h
    · split at h
      · cases h
      · rename_i y hy
        split at h
        · cases h
        · rename_i l2 hm
          refine chargeL_last r ?_ h
          rw [move_last hm]; exact play_last hl hy
theorem charge_last {p plan l nn x} (hl : lastA (Llast l)) (h : sCharge p plan l nn = .ok x) : lastA (Llast x.1) := by
  unfold sCharge at h
  split at h
  · cases h; exact hl
  · exact chargeL_last _ hl h
theorem plan_LI (t : TermsT) (s : List Int) (h : (sPlan t s).1 = true) : 1 ≤ (sPlan t s).2.length ∧ (sPlan t s).2.length ≤ 120 ∧ planA (sPlan t s).2 := by
  obtain ⟨_, h1, h2, h3⟩ := planS t s
  refine ⟨?_, h1, fun r hr => ?_⟩
  · have := (h2 h).2
    cases hq : (sPlan t s).2 with
    | nil => exact absurd hq this
    | cons a b => simp
  · have := h3 r hr
    unfold rowB at this
    unfold rowA
    omega
def goodC (r : CR) : Prop := ∀ x, r = .ok x → LI x.1 x.2.2.1
theorem goodC_err {e : Int} : goodC (.error e) := fun x h => by cases h
theorem pay_LI {p plan l amount} (hI : LI l plan) (ha : amount ≤ 9223372036854775807) : goodC (sPay p plan l amount) := by
  obtain ⟨hb, h1, h2, hA, hl⟩ := hI
  intro x h
  unfold sPay at h
  split at h
  · cases h
  split at h
  · cases h
  split at h
  · cases h
  · rename_i l1 hm
    have hb1 := (move_ok hm).1
    split at h
    · cases h
      exact ⟨hb1, h1, h2, hA, by show lastA (Llast l1); rw [move_last hm]; exact hl⟩
    · split at h
      · cases h
      · rename_i y hy
        have hl2 : lastA (Llast (paidL l1 (sTake p l amount).1)) := take_le hb ha
        have hy1 := play_ok (show bookOk (Lbook (paidL l1 (sTake p l amount).1)) from hb1) hy
        split at h
        · cases h
        · rename_i z hz
          cases h
          exact ⟨(settle_ok hy1.1 hz).1, h1, h2, hA, settle_last (play_last hl2 hy) hz⟩
theorem return_LI {p plan l} (hI : LI l plan) : goodC (sReturn p plan l) := by
  obtain ⟨hb, h1, h2, hA, hl⟩ := hI
  intro x h
  unfold sReturn at h
  split at h
  · cases h
  split at h
  · cases h
  split at h
  · cases h
  · rename_i l1 hm
    split at h
    · cases h
    · rename_i y hy
      cases h
      exact ⟨(play_ok (show bookOk (Lbook (backL l1 (Llast l))) from (move_ok hm).1) hy).1, h1, h2, hA, lastA0⟩
theorem refund_LI {plan l amount} (hI : LI l plan) : goodC (sRefund plan l amount) := by
  obtain ⟨hb, h1, h2, hA, hl⟩ := hI
  intro x h
  unfold sRefund at h
  split at h
  · cases h
  split at h
  · cases h
  split at h
  · cases h
  · rename_i l1 hm
    cases h
    exact ⟨(move_ok hm).1, h1, h2, hA, by show lastA (Llast l1); rw [move_last hm]; exact hl⟩
theorem waive_LI {p plan l amount} (hI : LI l plan) : goodC (sWaive p plan l amount) := by
  obtain ⟨hb, h1, h2, hA, hl⟩ := hI
  intro x h
  unfold sWaive at h
  split at h
  · cases h
  split at h
  · cases h
  split at h
  · cases h
  split at h
  · cases h
  · rename_i l1 hm
    split at h
    · cases h
    · rename_i y hy
      cases h
      exact ⟨(settle_ok (move_ok hm).1 hy).1, h1, h2, hA, settle_last (by rw [move_last hm]; exact hl) hy⟩
theorem promise_LI {p plan l amount days} (hI : LI l plan) : goodC (sPromiseC p plan l amount days) := by
  obtain ⟨hb, h1, h2, hA, hl⟩ := hI
  intro x h
  unfold sPromiseC at h
  split at h
  · cases h
  · rename_i y hy
    cases h
    exact ⟨(play_ok hb hy).1, h1, h2, hA, play_last hl hy⟩
theorem accrueC_LI {plan l days} (hI : LI l plan) : goodC (sAccrueC plan l days) := by
  obtain ⟨hb, h1, h2, hA, hl⟩ := hI
  intro x h
  unfold sAccrueC at h
  split at h
  · cases h
  split at h
  · cases h
  split at h
  · cases h
  · rename_i l1 hm
    cases h
    exact ⟨accrue_ok hb hm, h1, h2, hA, accrue_last hl hm⟩
theorem roll_LI {p plan l} (hI : LI l plan) : goodC (sRoll p plan l) := by
  obtain ⟨hb, h1, h2, hA, hl⟩ := hI
  intro x h
  unfold sRoll at h
  split at h
  · cases h
  split at h
  · cases h
  · rename_i l1 hm
    have hb1 := accrue_ok hb hm
    have hl1 := accrue_last hl hm
    split at h
    · cases h; exact ⟨hb1, h1, h2, hA, hl1⟩
    · split at h
      · cases h
      · rename_i y hy
        have hy1 := play_ok hb1 hy
        split at h
        · cases h
        · rename_i z hz
          cases h
          obtain ⟨k1, k2⟩ := chargeP_keep p plan y.1
          exact ⟨(charge_ok hy1.1 (by omega) hz).1, by show 1 ≤ (sChargeP p plan y.1).length; omega, by show (sChargeP p plan y.1).length ≤ 120; omega, k2 hA, charge_last (play_last hl1 hy) hz⟩
theorem restructure_LI {p p0 plan l count rate} (hI : LI l plan) : goodC (sRestructure p p0 plan l count rate) := by
  obtain ⟨hb, h1, h2, hA, hl⟩ := hI
  intro x h
  unfold sRestructure at h
  split at h
  · cases h
  split at h
  · cases h
  · rename_i y hy
    split at h
    · cases h
    split at h
    · cases h
    · rename_i hp
      split at h
      · cases h
      · rename_i l2 hm
        cases h
        obtain ⟨q1, q2, q3⟩ := plan_LI (newT y.1 count rate) p0 (by simpa using hp)
        exact ⟨(move_ok hm).1, q1, q2, q3, lastA0⟩
theorem open_LI {p0 id t} : goodC (sOpen p0 id t) := by
  intro x h
  unfold sOpen at h
  split at h
  · cases h
  split at h
  · cases h
  split at h
  · cases h
  · rename_i hp
    split at h
    · cases h
    · rename_i l hm
      cases h
      obtain ⟨q1, q2, q3⟩ := plan_LI t p0 (by simpa using hp)
      exact ⟨(move_ok hm).1, q1, q2, q3, by show lastA (Llast l); rw [move_last hm]; exact lastA0⟩
theorem wk_LI {p p0 r} (h : goodC r) : goodC (wk p p0 r) := by
  unfold wk; split
  · exact h
  · exact goodC_err
abbrev OpT := Int × Int × Int × Int × Int × Unit
def sCall (p : PolT) (p0 : List Int) (l : LoanT) (plan : List RowT) (o : OpT) : CR :=
  if o.1 = 1 then wk p p0 (sPay p plan l o.2.1)
  else if o.1 = 2 then wk p p0 (sReturn p plan l)
  else if o.1 = 3 then wk p p0 (sRefund plan l o.2.1)
  else if o.1 = 4 then wk p p0 (sWaive p plan l o.2.1)
  else if o.1 = 5 then wk p p0 (sPromiseC p plan l o.2.1 o.2.2.1)
  else if o.1 = 6 then wk p p0 (sRestructure p p0 plan l o.2.2.2.1 o.2.2.2.2.1)
  else if o.1 = 7 then wk p p0 (sRoll p plan l)
  else if o.1 = 8 then wk p p0 (sAccrueC plan l o.2.2.1)
  else .ok (l, parts0, plan, [])
theorem call_LI {p p0 l plan} {o : OpT} (hI : LI l plan) (ha : o.2.1 ≤ 9223372036854775807) : goodC (sCall p p0 l plan o) := by
  unfold sCall
  split
  · exact wk_LI (pay_LI hI ha)
  split
  · exact wk_LI (return_LI hI)
  split
  · exact wk_LI (refund_LI hI)
  split
  · exact wk_LI (waive_LI hI)
  split
  · exact wk_LI (promise_LI hI)
  split
  · exact wk_LI (restructure_LI hI)
  split
  · exact wk_LI (roll_LI hI)
  split
  · exact wk_LI (accrueC_LI hI)
  · intro x h; cases h; exact hI
abbrev LP := LoanT × List RowT
def nxt (s : LP) : CR → LP | .error _ => s | .ok x => (x.1, x.2.2.1)
theorem nxt_LI {s : LP} {r : CR} (hI : LI s.1 s.2) (h : goodC r) : LI (nxt s r).1 (nxt s r).2 := by
  cases r with
  | error e => exact hI
  | ok x => exact h x rfl
end
end Go.Proofs.YtlflclfhldghbaaGreatDoor.Fs
end
section
set_option maxRecDepth 100000
namespace Go.Proofs.YtlflclfhldghbaaGreatDoor.Fs
open Go Go.Proofs.YtlflclfhldghbaaGreatDoor.Ls
noncomputable def C_lived : Cx TT := cxI inls_lived tbl88 Go.Proofs.Tryz.f7.ntmps [(7, s_lived_7), (10, s_lived_10), (12, s_lived_12)] [] [1000011] [] [12]
noncomputable def k_lived (a : g_lived.args.ty) (h : tysO TT g_lived.hp) : Nat := 400000
noncomputable def F_lived : g_lived.args.ty → tysO TT g_lived.hp → Res TT g_lived := fun a h => bodyG C_lived g_lived Go.Proofs.Tryz.f7 [] (k_lived a h) a h
theorem F_lived_ok : FOK prog globs 7 g_lived F_lived :=
  bodyG_sound (cx := C_lived) mix (cxI_ok (il := inls_lived) (by kernel_rfl) tbl88_ok _ _ _ _ _ _) (f := 7) (fn := Go.Proofs.Tryz.f7) (by kernel_rfl) (by kernel_rfl) (by kernel_rfl) (by kernel_rfl) _
noncomputable def L_lived_7 (k : Nat) (v : s_lived_7.ty TT) : Res TT g_lived := loopG C_lived g_lived Go.Proofs.Tryz.f7 [] k (todoF Go.Proofs.Tryz.f7 7) (SS.st s_lived_7 0 v)
noncomputable def L_lived_10 (k : Nat) (v : s_lived_10.ty TT) : Res TT g_lived := loopG C_lived g_lived Go.Proofs.Tryz.f7 [] k (todoF Go.Proofs.Tryz.f7 10) (SS.st s_lived_10 0 v)
noncomputable def L_lived_12 (k : Nat) (v : s_lived_12.ty TT) : Res TT g_lived := loopG C_lived g_lived Go.Proofs.Tryz.f7 [] k (todoG Go.Proofs.Tryz.f7 12) (SS.st s_lived_12 0 v)
theorem F_lived_eq (p : T23) (id : Int) (t : T25) (p_0 : List Int) (script : List T58) : F_lived (p, id, t, (), ()) (p_0, script, ()) =
  let x0 := ((F_open (p, id, t, ()) (p_0, ())).ret : (Int × (Int × Int × Int × Int × Int × Int × Unit) × Unit × ((Int × Int × Int × Int × Int × Int × Int × Int × Int × Int × Int × Int × Unit) × Unit) × (Int × Bool × Int × Int × Int × Int × Int × Int × Int × Int × Int × Int × Int × Int × Int × Unit) × Int × Int × Int × (Int × Int × Int × Int × Int × Unit) × Bool × Int × Int × Unit) × (Int × Int × Int × Int × Int × Unit) × Unit × Int × Unit)
  let x1 := (F_open (p, id, t, ()) (p_0, ())).ok
  let x2 := (L_lived_7 (k_lived (p, id, t, (), ()) (p_0, script, ())) (((), (), (), (), (0 : Int), ()), p_0, script, p, ((0 : Int), ((0 : Int), (0 : Int), (0 : Int), (0 : Int), (0 : Int), (0 : Int), ()), (), (((0 : Int), (0 : Int), (0 : Int), (0 : Int), (0 : Int), (0 : Int), (0 : Int), (0 : Int), (0 : Int), (0 : Int), (0 : Int), (0 : Int), ()), ()), ((0 : Int), false, (0 : Int), (0 : Int), (0 : Int), (0 : Int), (0 : Int), (0 : Int), (0 : Int), (0 : Int), (0 : Int), (0 : Int), (0 : Int), (0 : Int), (0 : Int), ()), (0 : Int), (0 : Int), (0 : Int), ((0 : Int), (0 : Int), (0 : Int), (0 : Int), (0 : Int), ()), false, (0 : Int), (0 : Int), ()), x0.1, ([] : List (Int × Int × Int × Bool × Unit)), (((F_open (p, id, t, ()) (p_0, ())).out : Unit × (List (Int × Int × Int × Bool × Unit)) × (List (Int × Int × Int × Int × Int × Bool × Unit)) × Unit).2).1, ()))
  (bif (x0.2.2.2.1 != 0) then ⟨x1, false, (((0 : Int), ((0 : Int), (0 : Int), (0 : Int), (0 : Int), (0 : Int), (0 : Int), ()), (), (((0 : Int), (0 : Int), (0 : Int), (0 : Int), (0 : Int), (0 : Int), (0 : Int), (0 : Int), (0 : Int), (0 : Int), (0 : Int), (0 : Int), ()), ()), ((0 : Int), false, (0 : Int), (0 : Int), (0 : Int), (0 : Int), (0 : Int), (0 : Int), (0 : Int), (0 : Int), (0 : Int), (0 : Int), (0 : Int), (0 : Int), (0 : Int), ()), (0 : Int), (0 : Int), (0 : Int), ((0 : Int), (0 : Int), (0 : Int), (0 : Int), (0 : Int), ()), false, (0 : Int), (0 : Int), ()), false, ()), ((), (), ([] : List (Int × Int × Int × Bool × Unit)), ()), ()⟩ else ⟨(x1 && x2.ok), x2.pan, x2.ret, x2.out, x2.pv⟩) := by kernel_rfl
theorem L_lived_7_eq (k : Nat) (i : Int) (p_0 : List Int) (script : List T58) (p : T23) (t8 : T36) (l : T36) (t8_r : List T123) (l_r : List T123) : L_lived_7 (k + 1) (((), (), (), (), i, ()), (p_0, script, p, t8, l, t8_r, l_r, ())) =
  let x0 := (script.getD i.toNat ((0 : Int), (0 : Int), (0 : Int), (0 : Int), (0 : Int), ()))
  let x1 := (x0.1 != 7)
  let x2 := ((((bif decide (i < ((script.length : Nat) : Int)) then true else true) && (decide (0 ≤ i) && decide (i < ((script.length : Nat) : Int)))) && (Nat.blt i.toNat script.length)) && true)
  let x3 := x0.2.2.1
  let x4 := decide (x3 > 400)
  let x5 := (L_lived_10 k (((), (), (), (), i, (bif x1 then (1 : Int) else (bif x4 then (400 : Int) else x3)), ()), p_0, script, p, t8, l, t8_r, l_r, ()))
  (bif (bif decide (i < ((script.length : Nat) : Int)) then decide (i < 300) else false) then ⟨((bif x1 then x2 else (bif x4 then x2 else x2)) && x5.ok), x5.pan, x5.ret, x5.out, x5.pv⟩ else ⟨(bif decide (i < ((script.length : Nat) : Int)) then true else true), false, (l, true, ()), ((), (), l_r, ()), ()⟩) := by kernel_rfl
theorem L_lived_10_eq (k : Nat) (i : Int) (n : Int) (p_0 : List Int) (script : List T58) (p : T23) (t8 : T36) (l : T36) (t8_r : List T123) (l_r : List T123) : L_lived_10 (k + 1) (((), (), (), (), i, n, ()), (p_0, script, p, t8, l, t8_r, l_r, ())) =
  (bif decide (n > 0) then (L_lived_12 k (((), (), (), (), i, n, ()), p_0, script, p, t8, l, t8_r, l_r, ())) else (L_lived_7 k (((), (), (), (), (IntKind.i64.wrap (i + 1)), ()), p_0, script, p, t8, l, t8_r, l_r, ()))) := by kernel_rfl
theorem L_lived_12_eq (k : Nat) (i : Int) (n : Int) (p_0 : List Int) (script : List T58) (p : T23) (t8 : T36) (l : T36) (t8_r : List T123) (l_r : List T123) : L_lived_12 (k + 1) (((), (), (), (), i, n, ()), (p_0, script, p, t8, l, t8_r, l_r, ())) =
  let x0 := (script.getD i.toNat ((0 : Int), (0 : Int), (0 : Int), (0 : Int), (0 : Int), ()))
  let x1 := x0.1
  let x2 := ((decide (0 ≤ i) && decide (i < ((script.length : Nat) : Int))) && (Nat.blt i.toNat script.length))
  let x3 := x0.2
  let x4 := x3.1
  let x5 := (F_pay (p, l, x4, ()) (p_0, l_r, ()))
  let x6 := (L_lived_10 k (((), (), (), (), i, (IntKind.i64.wrap (n - 1)), ()), p_0, script, p, t8, (x5.ret : (Int × (Int × Int × Int × Int × Int × Int × Unit) × Unit × ((Int × Int × Int × Int × Int × Int × Int × Int × Int × Int × Int × Int × Unit) × Unit) × (Int × Bool × Int × Int × Int × Int × Int × Int × Int × Int × Int × Int × Int × Int × Int × Unit) × Int × Int × Int × (Int × Int × Int × Int × Int × Unit) × Bool × Int × Int × Unit) × (Int × Int × Int × Int × Int × Unit) × Unit × Int × Unit).1, t8_r, (((x5.out : Unit × Unit × (List (Int × Int × Int × Bool × Unit)) × (List (Int × Int × Int × Int × Int × Bool × Unit)) × Unit).2).2).1, ()))
  let x7 := (L_lived_10 k (((), (), (), (), i, (IntKind.i64.wrap (n - 1)), ()), p_0, script, p, t8, ((F_return_ (p, l, ()) (p_0, l_r, ())).ret : (Int × (Int × Int × Int × Int × Int × Int × Unit) × Unit × ((Int × Int × Int × Int × Int × Int × Int × Int × Int × Int × Int × Int × Unit) × Unit) × (Int × Bool × Int × Int × Int × Int × Int × Int × Int × Int × Int × Int × Int × Int × Int × Unit) × Int × Int × Int × (Int × Int × Int × Int × Int × Unit) × Bool × Int × Int × Unit) × (Int × Int × Int × Int × Int × Unit) × Unit × Int × Unit).1, t8_r, ((((F_return_ (p, l, ()) (p_0, l_r, ())).out : Unit × Unit × (List (Int × Int × Int × Bool × Unit)) × (List (Int × Int × Int × Int × Int × Bool × Unit)) × Unit).2).2).1, ()))
  let x8 := (F_refund (p, l, x4, ()) (p_0, l_r, ()))
  let x9 := (L_lived_10 k (((), (), (), (), i, (IntKind.i64.wrap (n - 1)), ()), p_0, script, p, t8, (x8.ret : (Int × (Int × Int × Int × Int × Int × Int × Unit) × Unit × ((Int × Int × Int × Int × Int × Int × Int × Int × Int × Int × Int × Int × Unit) × Unit) × (Int × Bool × Int × Int × Int × Int × Int × Int × Int × Int × Int × Int × Int × Int × Int × Unit) × Int × Int × Int × (Int × Int × Int × Int × Int × Unit) × Bool × Int × Int × Unit) × (Int × Int × Int × Int × Int × Unit) × Unit × Int × Unit).1, t8_r, (((x8.out : Unit × Unit × (List (Int × Int × Int × Bool × Unit)) × (List (Int × Int × Int × Int × Int × Bool × Unit)) × Unit).2).2).1, ()))
  let x10 := (F_waive (p, l, x4, ()) (p_0, l_r, ()))
  let x11 := (L_lived_10 k (((), (), (), (), i, (IntKind.i64.wrap (n - 1)), ()), p_0, script, p, t8, (x10.ret : (Int × (Int × Int × Int × Int × Int × Int × Unit) × Unit × ((Int × Int × Int × Int × Int × Int × Int × Int × Int × Int × Int × Int × Unit) × Unit) × (Int × Bool × Int × Int × Int × Int × Int × Int × Int × Int × Int × Int × Int × Int × Int × Unit) × Int × Int × Int × (Int × Int × Int × Int × Int × Unit) × Bool × Int × Int × Unit) × (Int × Int × Int × Int × Int × Unit) × Unit × Int × Unit).1, t8_r, (((x10.out : Unit × Unit × (List (Int × Int × Int × Bool × Unit)) × (List (Int × Int × Int × Int × Int × Bool × Unit)) × Unit).2).2).1, ()))
  let x12 := x3.2
  let x13 := (F_promise (p, l, x4, x12.1, ()) (p_0, l_r, ()))
  let x14 := (L_lived_10 k (((), (), (), (), i, (IntKind.i64.wrap (n - 1)), ()), p_0, script, p, t8, (x13.ret : (Int × (Int × Int × Int × Int × Int × Int × Unit) × Unit × ((Int × Int × Int × Int × Int × Int × Int × Int × Int × Int × Int × Int × Unit) × Unit) × (Int × Bool × Int × Int × Int × Int × Int × Int × Int × Int × Int × Int × Int × Int × Int × Unit) × Int × Int × Int × (Int × Int × Int × Int × Int × Unit) × Bool × Int × Int × Unit) × (Int × Int × Int × Int × Int × Unit) × Unit × Int × Unit).1, t8_r, (((x13.out : Unit × Unit × (List (Int × Int × Int × Bool × Unit)) × (List (Int × Int × Int × Int × Int × Bool × Unit)) × Unit).2).2).1, ()))
  let x15 := (F_restructure (p, l, x12.2) (p_0, l_r, ()))
  let x16 := (L_lived_10 k (((), (), (), (), i, (IntKind.i64.wrap (n - 1)), ()), p_0, script, p, t8, (x15.ret : (Int × (Int × Int × Int × Int × Int × Int × Unit) × Unit × ((Int × Int × Int × Int × Int × Int × Int × Int × Int × Int × Int × Int × Unit) × Unit) × (Int × Bool × Int × Int × Int × Int × Int × Int × Int × Int × Int × Int × Int × Int × Int × Unit) × Int × Int × Int × (Int × Int × Int × Int × Int × Unit) × Bool × Int × Int × Unit) × (Int × Int × Int × Int × Int × Unit) × Unit × Int × Unit).1, t8_r, (((x15.out : Unit × Unit × (List (Int × Int × Int × Bool × Unit)) × (List (Int × Int × Int × Int × Int × Bool × Unit)) × Unit).2).2).1, ()))
  let x17 := (L_lived_10 k (((), (), (), (), i, (IntKind.i64.wrap (n - 1)), ()), p_0, script, p, t8, ((F_roll (p, l, ()) (p_0, l_r, ())).ret : (Int × (Int × Int × Int × Int × Int × Int × Unit) × Unit × ((Int × Int × Int × Int × Int × Int × Int × Int × Int × Int × Int × Int × Unit) × Unit) × (Int × Bool × Int × Int × Int × Int × Int × Int × Int × Int × Int × Int × Int × Int × Int × Unit) × Int × Int × Int × (Int × Int × Int × Int × Int × Unit) × Bool × Int × Int × Unit) × (Int × Int × Int × Int × Int × Unit) × Unit × Int × Unit).1, t8_r, ((((F_roll (p, l, ()) (p_0, l_r, ())).out : Unit × Unit × (List (Int × Int × Int × Bool × Unit)) × (List (Int × Int × Int × Int × Int × Bool × Unit)) × Unit).2).2).1, ()))
  let x18 := (F_accrueC (p, l, x12.1, ()) (p_0, l_r, ()))
  let x19 := (L_lived_10 k (((), (), (), (), i, (IntKind.i64.wrap (n - 1)), ()), p_0, script, p, t8, (x18.ret : (Int × (Int × Int × Int × Int × Int × Int × Unit) × Unit × ((Int × Int × Int × Int × Int × Int × Int × Int × Int × Int × Int × Int × Unit) × Unit) × (Int × Bool × Int × Int × Int × Int × Int × Int × Int × Int × Int × Int × Int × Int × Int × Unit) × Int × Int × Int × (Int × Int × Int × Int × Int × Unit) × Bool × Int × Int × Unit) × (Int × Int × Int × Int × Int × Unit) × Unit × Int × Unit).1, t8_r, (((x18.out : Unit × Unit × (List (Int × Int × Int × Bool × Unit)) × (List (Int × Int × Int × Int × Int × Bool × Unit)) × Unit).2).2).1, ()))
  let x20 := (L_lived_10 k (((), (), (), (), i, (IntKind.i64.wrap (n - 1)), ()), p_0, script, p, t8, l, t8_r, l_r, ()))
  (bif (x1 == 1) then ⟨((x2 && x5.ok) && x6.ok), x6.pan, x6.ret, x6.out, x6.pv⟩ else (bif (x1 == 2) then ⟨((x2 && (F_return_ (p, l, ()) (p_0, l_r, ())).ok) && x7.ok), x7.pan, x7.ret, x7.out, x7.pv⟩ else (bif (x1 == 3) then ⟨((x2 && x8.ok) && x9.ok), x9.pan, x9.ret, x9.out, x9.pv⟩ else (bif (x1 == 4) then ⟨((x2 && x10.ok) && x11.ok), x11.pan, x11.ret, x11.out, x11.pv⟩ else (bif (x1 == 5) then ⟨((x2 && x13.ok) && x14.ok), x14.pan, x14.ret, x14.out, x14.pv⟩ else (bif (x1 == 6) then ⟨((x2 && x15.ok) && x16.ok), x16.pan, x16.ret, x16.out, x16.pv⟩ else (bif (x1 == 7) then ⟨((x2 && (F_roll (p, l, ()) (p_0, l_r, ())).ok) && x17.ok), x17.pan, x17.ret, x17.out, x17.pv⟩ else (bif (x1 == 8) then ⟨((x2 && x18.ok) && x19.ok), x19.pan, x19.ret, x19.out, x19.pv⟩ else ⟨((x2 && true) && x20.ok), x20.pan, x20.ret, x20.out, x20.pv⟩)))))))) := by kernel_rfl
noncomputable def tbl89 : List (Ent TT) := ⟨7, g_lived, F_lived⟩ :: tbl88
theorem tbl89_ok : TblOK prog globs tbl89 := tbl_cons (by kernel_rfl) F_lived_ok tbl88_ok
end Go.Proofs.YtlflclfhldghbaaGreatDoor.Fs
end
section
set_option maxRecDepth 20000
namespace Go.Proofs.YtlflclfhldghbaaGreatDoor.Fs
open Go Go.Proofs.YtlflclfhldghbaaGreatDoor.Ls P
noncomputable section
def opA (o : OpT) : Prop := o.2.1 ≤ 9223372036854775807
def o0 : OpT := (0, 0, 0, 0, 0, ())
set_option maxHeartbeats 1000000 in
theorem L12 (k : Nat) (i : Nat) (n : Int) (p0 : List Int) (script : List OpT) (p : PolT) (t8 l : LoanT) (t8r lr : List RowT) (hi : i < script.length) (hI : LI l lr) (hs : ∀ o ∈ script, opA o) :
    L_lived_12 (k + 1) (((), (), (), (), (i : Int), n, ()), (p0, script, p, t8, l, t8r, lr, ())) =
      L_lived_10 k (((), (), (), (), (i : Int), W (n - 1), ()), (p0, script, p, t8, (nxt (l, lr) (sCall p p0 l lr (script.getD i o0))).1, t8r, (nxt (l, lr) (sCall p p0 l lr (script.getD i o0))).2, ())) := by
  rw [L_lived_12_eq]
  have hmem : script.getD i ((0 : Int), (0 : Int), (0 : Int), (0 : Int), (0 : Int), ()) ∈ script := getD_mem _ hi
  have ho := hs _ hmem
  unfold o0
  generalize hE : script.getD i ((0 : Int), (0 : Int), (0 : Int), (0 : Int), (0 : Int), ()) = o at *
  have hbl : Nat.blt i script.length = true := Nat.ble_eq_true_of_le hi
  have h0 : decide ((0 : Int) ≤ (i : Int)) = true := by simp
  have h1 := pay p p0 l lr o.2.1 hI ho
  have h2 := return_ p p0 l lr hI
  have h3 := refund p p0 l lr o.2.1 hI ho
  have h4 := waive p p0 l lr o.2.1 hI ho
  have h5 := promise p p0 l lr o.2.1 o.2.2.1 hI
  have h6 := restructure p p0 l lr o.2.2.2.1 o.2.2.2.2.1 hI
  have h7 := roll p p0 l lr hI
  have h8 := accrueC p p0 l lr o.2.2.1 hI
  simp only [Int.toNat_natCast, hE, h1, h2, h3, h4, h5, h6, h7, h8, hbl, h0, dT hi, tand, andt]
  unfold sCall
  by_cases c1 : o.1 = 1
  · rw [if_pos c1, show (o.1 == 1) = true from by simpa using c1, ctt]
    generalize wk p p0 (sPay p lr l o.2.1) = r
    cases r <;> exact reta _
  rw [if_neg c1, show (o.1 == 1) = false from by simpa using c1, cff]
  by_cases c2 : o.1 = 2
  · rw [if_pos c2, show (o.1 == 2) = true from by simpa using c2, ctt]
    generalize wk p p0 (sReturn p lr l) = r
    cases r <;> exact reta _
  rw [if_neg c2, show (o.1 == 2) = false from by simpa using c2, cff]
  by_cases c3 : o.1 = 3
  · rw [if_pos c3, show (o.1 == 3) = true from by simpa using c3, ctt]
    generalize wk p p0 (sRefund lr l o.2.1) = r
    cases r <;> exact reta _
  rw [if_neg c3, show (o.1 == 3) = false from by simpa using c3, cff]
  by_cases c4 : o.1 = 4
  · rw [if_pos c4, show (o.1 == 4) = true from by simpa using c4, ctt]
    generalize wk p p0 (sWaive p lr l o.2.1) = r
    cases r <;> exact reta _
  rw [if_neg c4, show (o.1 == 4) = false from by simpa using c4, cff]
  by_cases c5 : o.1 = 5
  · rw [if_pos c5, show (o.1 == 5) = true from by simpa using c5, ctt]
    generalize wk p p0 (sPromiseC p lr l o.2.1 o.2.2.1) = r
    cases r <;> exact reta _
  rw [if_neg c5, show (o.1 == 5) = false from by simpa using c5, cff]
  by_cases c6 : o.1 = 6
  · rw [if_pos c6, show (o.1 == 6) = true from by simpa using c6, ctt]
    generalize wk p p0 (sRestructure p p0 lr l o.2.2.2.1 o.2.2.2.2.1) = r
    cases r <;> exact reta _
  rw [if_neg c6, show (o.1 == 6) = false from by simpa using c6, cff]
  by_cases c7 : o.1 = 7
  · rw [if_pos c7, show (o.1 == 7) = true from by simpa using c7, ctt]
    generalize wk p p0 (sRoll p lr l) = r
    cases r <;> exact reta _
  rw [if_neg c7, show (o.1 == 7) = false from by simpa using c7, cff]
  by_cases c8 : o.1 = 8
  · rw [if_pos c8, show (o.1 == 8) = true from by simpa using c8, ctt]
    generalize wk p p0 (sAccrueC lr l o.2.2.1) = r
    cases r <;> exact reta _
  rw [if_neg c8, show (o.1 == 8) = false from by simpa using c8, cff]
  exact reta _
def again (p : PolT) (p0 : List Int) (o : OpT) : Nat → LP → LP
  | 0, s => s
  | n + 1, s => again p p0 o n (nxt s (sCall p p0 s.1 s.2 o))
def times (o : OpT) : Nat := if o.1 ≠ 7 then 1 else if 400 < o.2.2.1 then 400 else o.2.2.1.toNat
theorem times_le (o : OpT) : times o ≤ 400 := by unfold times; split; omega; split <;> omega
theorem again_LI {p p0} {o : OpT} (ho : opA o) : ∀ (n : Nat) (s : LP), LI s.1 s.2 → LI (again p p0 o n s).1 (again p p0 o n s).2
  | 0, s, h => h
  | n + 1, s, h => again_LI ho n _ (nxt_LI h (call_LI h ho))
theorem L10 (p0 : List Int) (script : List OpT) (p : PolT) (t8 : LoanT) (t8r : List RowT) (i : Nat) (hi : i < script.length) (hi2 : i ≤ 1000) (hs : ∀ o ∈ script, opA o) : ∀ (n k : Nat) (m : Int) (l : LoanT) (lr : List RowT), m.toNat = n → n ≤ 400 → LI l lr →
    L_lived_10 (k + 1 + 2 * n) (((), (), (), (), (i : Int), m, ()), (p0, script, p, t8, l, t8r, lr, ())) =
      L_lived_7 k (((), (), (), (), ((i + 1 : Nat) : Int), ()), (p0, script, p, t8, (again p p0 (script.getD i o0) n (l, lr)).1, t8r, (again p p0 (script.getD i o0) n (l, lr)).2, ()))
  | 0, k, m, l, lr, hm, hn, hI => by
    rw [show k + 1 + 2 * 0 = k + 1 by omega, L_lived_10_eq, decide_eq_false (show ¬ m > 0 by omega), cff, wN (show i ≤ 10000000 by omega)]
    rfl
  | n + 1, k, m, l, lr, hm, hn, hI => by
    rw [show k + 1 + 2 * (n + 1) = (k + 1 + 2 * n) + 1 + 1 by omega, L_lived_10_eq, decide_eq_true (show m > 0 by omega), ctt, L12 _ i m p0 script p t8 l t8r lr hi hI hs]
    have hw : W (m - 1) = m - 1 := by unfold W; exact w64 (by omega) (by omega)
    rw [hw]
    have hmem : script.getD i o0 ∈ script := getD_mem _ hi
    exact L10 p0 script p t8 t8r i hi hi2 hs n k (m - 1) _ _ (by omega) (by omega) (nxt_LI (s := (l, lr)) hI (call_LI hI (hs _ hmem)))
def steps (p : PolT) (p0 : List Int) : List OpT → LP → LP
  | [], s => s
  | o :: r, s => steps p p0 r (again p p0 o (times o) s)
theorem L7 (p0 : List Int) (script : List OpT) (p : PolT) (t8 : LoanT) (t8r : List RowT) (hs : ∀ o ∈ script, opA o) : ∀ (n k i : Nat) (l : LoanT) (lr : List RowT), i + n = min script.length 300 → 803 * n + 1 ≤ k → LI l lr →
    L_lived_7 k (((), (), (), (), (i : Int), ()), (p0, script, p, t8, l, t8r, lr, ())) =
      ⟨true, false, ((steps p p0 ((script.take 300).drop i) (l, lr)).1, true, ()), ((), (), (steps p p0 ((script.take 300).drop i) (l, lr)).2, ()), ()⟩
  | 0, k, i, l, lr, hn, hk, hI => by
    obtain ⟨k', rfl⟩ : ∃ k', k = k' + 1 := ⟨k - 1, by omega⟩
    have e : (script.take 300).drop i = [] := List.drop_eq_nil_of_le (by simp; omega)
    rw [L_lived_7_eq, e]
    have : (bif decide ((i : Int) < ((script.length : Nat) : Int)) then decide ((i : Int) < 300) else false) = false := by
      rw [cand, Bool.eq_false_iff]
      intro q
      simp only [Bool.and_eq_true, decide_eq_true_eq] at q
      omega
    rw [this, csame]
    rfl
  | n + 1, k, i, l, lr, hn, hk, hI => by
    have hi : i < script.length := by omega
    have hmem : script.getD i o0 ∈ script := getD_mem _ hi
    have ho := hs _ hmem
    obtain ⟨k', hk'⟩ : ∃ k', k = (k' + 1 + 2 * times (script.getD i o0)) + 1 := ⟨k - 2 - 2 * times (script.getD i o0), by have := times_le (script.getD i o0); omega⟩
    subst hk'
    have hd : (script.take 300).drop i = script.getD i o0 :: (script.take 300).drop (i + 1) := by
      rw [drop1 o0 (show i < (script.take 300).length by simp; omega)]
      congr 1
      rw [List.getD_eq_getElem?_getD, List.getD_eq_getElem?_getD, List.getElem?_take_of_lt (by omega)]
    rw [L_lived_7_eq, hd]
    have hc : (bif decide ((i : Int) < ((script.length : Nat) : Int)) then decide ((i : Int) < 300) else false) = true := by
      rw [dT hi, ctt]; exact decide_eq_true (by omega)
    have hbl : Nat.blt i script.length = true := Nat.ble_eq_true_of_le hi
    have h0 : decide ((0 : Int) ≤ (i : Int)) = true := by simp
    rw [hc, ctt]
    simp only [Int.toNat_natCast, csame, hbl, h0, dT hi, tand, andt]
    refine (reta _).trans ?_
    have hm : (bif (script.getD i ((0 : Int), (0 : Int), (0 : Int), (0 : Int), (0 : Int), ())).1 != 7 then (1 : Int) else (bif decide ((script.getD i ((0 : Int), (0 : Int), (0 : Int), (0 : Int), (0 : Int), ())).2.2.1 > 400) then (400 : Int) else (script.getD i ((0 : Int), (0 : Int), (0 : Int), (0 : Int), (0 : Int), ())).2.2.1)).toNat = times (script.getD i o0) := by
      unfold times o0
      generalize script.getD i ((0 : Int), (0 : Int), (0 : Int), (0 : Int), (0 : Int), ()) = o
      by_cases c : o.1 = 7
      · rw [if_neg (by simpa using c), show (o.1 != 7) = false from by simpa using c, cff]
        by_cases c2 : 400 < o.2.2.1
        · rw [if_pos c2, decide_eq_true (show o.2.2.1 > 400 from c2), ctt]; rfl
        · rw [if_neg c2, decide_eq_false (show ¬ o.2.2.1 > 400 from c2), cff]
      · rw [if_pos c, show (o.1 != 7) = true from by simpa using c, ctt]; rfl
    rw [L10 p0 script p t8 t8r i hi (by omega) hs (times (script.getD i o0)) k' _ l lr hm (times_le _) hI]
    have hI2 := again_LI (p := p) (p0 := p0) ho (times (script.getD i o0)) (l, lr) hI
    rw [L7 p0 script p t8 t8r hs n k' (i + 1) _ _ (by omega) (by have := times_le (script.getD i o0); omega) hI2]
    rfl
def sLived (p : PolT) (p0 : List Int) (id : Int) (t : TermsT) (script : List OpT) : Option LP :=
  match wk p p0 (sOpen p0 id t) with
  | .error _ => none
  | .ok x => some (steps p p0 (script.take 300) (x.1, x.2.2.1))
def livedR : Option LP → Res TT g_lived
  | none => ⟨true, false, (loan0, false, ()), ((), (), [], ()), ()⟩
  | some s => ⟨true, false, (s.1, true, ()), ((), (), s.2, ()), ()⟩
theorem open_err {p p0 id t e} (h : wk p p0 (sOpen p0 id t) = .error e) : e ≠ 0 := by
  unfold wk at h
  split at h
  · unfold sOpen at h
    split at h
    · cases h; omega
    split at h
    · cases h; omega
    split at h
    · cases h; omega
    split at h
    · rename_i hm; cases h; exact sMove_err hm
    · cases h
  · cases h; assumption
theorem lived (p : PolT) (p0 : List Int) (id : Int) (t : TermsT) (script : List OpT) (hs : ∀ o ∈ script, opA o) :
    F_lived (p, id, t, (), ()) (p0, script, ()) = livedR (sLived p p0 id t script) ∧ ∀ s, sLived p p0 id t script = some s → LI s.1 s.2 := by
  rw [F_lived_eq, open_ p p0 id t]
  unfold sLived
  have hk : k_lived (p, id, t, (), ()) (p0, script, ()) = 400000 := rfl
  rw [hk]
  have hg := wk_LI (p := p) (p0 := p0) (open_LI (p0 := p0) (id := id) (t := t))
  cases hr : wk p p0 (sOpen p0 id t) with
  | error e =>
    have he := open_err hr
    simp only [cret, show (e != 0) = true from by simpa using he, ctt]
    exact ⟨rfl, fun s h => by cases h⟩
  | ok x =>
    have hI := hg x hr
    have h00 : ((0 : Int) != 0) = false := rfl
    simp only [cret, cplan, h00, cff, tand]
    have hst : ∀ (al : List OpT) (s : LP), (∀ o ∈ al, opA o) → LI s.1 s.2 → LI (steps p p0 al s).1 (steps p p0 al s).2 := by
      intro al
      induction al with
      | nil => exact fun s _ h => h
      | cons o r ih => exact fun s ha h => ih _ (fun o' h' => ha o' (List.mem_cons_of_mem _ h')) (again_LI (ha o List.mem_cons_self) _ _ h)
    refine ⟨?_, fun s h => ?_⟩
    · refine (reta _).trans ?_
      have h := L7 p0 script p loan0 [] hs (min script.length 300) 400000 0 x.1 x.2.2.1 (by omega) (by omega) hI
      rw [List.drop_zero] at h
      exact h
    · cases h
      exact hst _ _ (fun o ho => hs o (List.mem_of_mem_take ho)) hI
end
end Go.Proofs.YtlflclfhldghbaaGreatDoor.Fs
end
section
set_option maxRecDepth 20000
namespace Go.Proofs.YtlflclfhldghbaaGreatDoor.Fs
open Go Go.Proofs.YtlflclfhldghbaaGreatDoor.Ls P
noncomputable section
def SI (l : LoanT) : Prop := 0 ≤ (Lterms l).2.2.1 ∧ (Lterms l).2.2.1 ≤ 100000 ∧ 0 ≤ Lcarry l ∧ Lcarry l < 3650000 ∧ -9223372036854775808 ≤ Lday l ∧ Lday l ≤ 9223372036854775807
theorem move_S {l es l'} (hk : SI l) (h : sMove l es = .ok l') : SI l' := by
  rw [(move_ok h).2]; exact hk
theorem act_S {plan l nn a x} (hl : SI l) (h : sAct plan l nn a = .ok x) : SI x.1 := by
  unfold sAct at h
  split at h
  · cases h; exact hl
  split at h
  · cases h; exact hl
  split at h
  · cases h; exact hl
  split at h
  · split at h
    · cases h
    · rename_i hm; cases h; exact move_S hl hm
  split at h
  · cases h; exact hl
  split at h
  · unfold sChargeOff at h
    split at h
    · cases h
    · rename_i l2 hm
      cases h
      have h1 : SI (setOff l (total l)) := hl
      have h2 : SI l2 := move_S h1 hm
      exact h2
  · cases h; exact hl
theorem acts_S {plan} : ∀ (al : List Int) {l nn x}, SI l → sActs plan l nn al = .ok x → SI x.1
  | [], l, nn, x, hl, h => by cases h; exact hl
  | a :: r, l, nn, x, hl, h => by
    unfold sActs at h
    split at h
    · cases h
    · rename_i y hy; exact acts_S r (act_S hl hy) h
theorem play_S {p plan l nn e x} (hl : SI l) (h : sPlay p plan l nn e = .ok x) : SI x.1 := by
  unfold sPlay at h
  split at h
  · cases h
  · rename_i y hy; exact acts_S _ (show SI (setCase l y.1) from hl) h
theorem settle_S {p plan l nn x} (hl : SI l) (h : sSettle p plan l nn = .ok x) : SI x.1 := by
  unfold sSettle at h
  split at h
  · exact play_S hl h
  · cases h; exact hl
theorem span_c {pr rate carry days : Int} : 0 ≤ (sSpan pr rate carry days).2.1 ∧ (sSpan pr rate carry days).2.1 < 3650000 := by
  unfold sSpan
  split
  · simp
  split
  · simp
  split
  · simp
  generalize pr * (rate * days) = Q
  split
  · simp only []; omega
  split
  · simp
  · simp only []; omega
theorem accrue_S {l d x} (hl : SI l) (h : sAccrue l d = .ok x) : SI x := by
  obtain ⟨a, b, c, d', e⟩ := hl
  unfold sAccrue at h
  split at h
  · cases h; exact ⟨a, b, c, d', wge _, wle _⟩
  split at h
  · cases h
  split at h
  · cases h
  · rename_i l2 hm; cases h
    have h1 : SI (setDay l (W (Lday l + d))) := ⟨a, b, c, d', wge _, wle _⟩
    have h2 : SI l2 := move_S h1 hm
    exact ⟨h2.1, h2.2.1, span_c.1, span_c.2, h2.2.2.2.2⟩
theorem chargeL_S {p plan} : ∀ (rows : List Int) {l nn x}, SI l → sChargeL p plan l nn rows = .ok x → SI x.1
  | [], l, nn, x, hl, h => by cases h; exact hl
  | i :: r, l, nn, x, hl, h => by
    unfold sChargeL at h
    split at h
    · exact chargeL_S r hl h
    · split at h
      · cases h
      · rename_i y hy
        split at h
        · cases h
        · rename_i l2 hm
          exact chargeL_S r (move_S (play_S hl hy) hm) h
theorem charge_S {p plan l nn x} (hl : SI l) (h : sCharge p plan l nn = .ok x) : SI x.1 := by
  unfold sCharge at h
  split at h
  · cases h; exact hl
  · exact chargeL_S _ hl h
theorem paid_S {l q} (hl : SI l) : SI (paidL l q) := hl
theorem back_S {l q} (hl : SI l) : SI (backL l q) := hl
def goodS (r : CR) : Prop := ∀ x, r = .ok x → SI x.1
theorem pay_S {p plan l amount} (hS : SI l) : goodS (sPay p plan l amount) := by
  intro x h
  unfold sPay at h
  split at h
  · cases h
  split at h
  · cases h
  split at h
  · cases h
  · rename_i l1 hm
    split at h
    · cases h; exact move_S hS hm
    · split at h
      · cases h
      · rename_i y hy
        split at h
        · cases h
        · rename_i z hz
          cases h
          exact settle_S (play_S (paid_S (move_S hS hm)) hy) hz
theorem return_S {p plan l} (hS : SI l) : goodS (sReturn p plan l) := by
  intro x h
  unfold sReturn at h
  split at h
  · cases h
  split at h
  · cases h
  split at h
  · cases h
  · rename_i l1 hm
    split at h
    · cases h
    · rename_i y hy
      cases h
      have := play_S (back_S (q := Llast l) (move_S hS hm)) hy
      exact this
theorem refund_S {plan l amount} (hS : SI l) : goodS (sRefund plan l amount) := by
  intro x h
  unfold sRefund at h
  split at h
  · cases h
  split at h
  · cases h
  split at h
  · cases h
  · rename_i l1 hm
    cases h; exact move_S hS hm
theorem waive_S {p plan l amount} (hS : SI l) : goodS (sWaive p plan l amount) := by
  intro x h
  unfold sWaive at h
  split at h
  · cases h
  split at h
  · cases h
  split at h
  · cases h
  split at h
  · cases h
  · rename_i l1 hm
    split at h
    · cases h
    · rename_i y hy
      cases h
      exact settle_S (move_S hS hm) hy
theorem promise_S {p plan l amount days} (hS : SI l) : goodS (sPromiseC p plan l amount days) := by
  intro x h
  unfold sPromiseC at h
  split at h
  · cases h
  · rename_i y hy
    cases h
    exact play_S hS hy
theorem accrueC_S {plan l days} (hS : SI l) : goodS (sAccrueC plan l days) := by
  intro x h
  unfold sAccrueC at h
  split at h
  · cases h
  split at h
  · cases h
  split at h
  · cases h
  · rename_i l1 hm
    cases h
    exact accrue_S hS hm
theorem roll_S {p plan l} (hS : SI l) : goodS (sRoll p plan l) := by
  intro x h
  unfold sRoll at h
  split at h
  · cases h
  split at h
  · cases h
  · rename_i l1 hm
    split at h
    · cases h; exact accrue_S hS hm
    · split at h
      · cases h
      · rename_i y hy
        split at h
        · cases h
        · rename_i z hz
          cases h
          exact charge_S (play_S (accrue_S hS hm) hy) hz
theorem restructure_S {p p0 plan l count rate} (hS : SI l) : goodS (sRestructure p p0 plan l count rate) := by
  intro x h
  unfold sRestructure at h
  split at h
  · cases h
  rename_i hcr
  split at h
  · cases h
  · rename_i y hy
    split at h
    · cases h
    split at h
    · cases h
    · split at h
      · cases h
      · rename_i l2 hm
        cases h
        have h2 := move_S (play_S hS hy) hm
        exact ⟨by show 0 ≤ rate; omega, by show rate ≤ 100000; omega, h2.2.2.1, h2.2.2.2.1, h2.2.2.2.2⟩
theorem open_S {p0 id t} : ∀ x, sOpen p0 id t = .ok x → SI x.1 := by
  intro x h
  unfold sOpen at h
  split at h
  · cases h
  split at h
  · cases h
  rename_i ht
  split at h
  · cases h
  · split at h
    · cases h
    · rename_i l hm
      cases h
      have hp := okT_pr (t := t) (by cases hq : okT t; exact absurd hq ht; rfl)
      have h0 : SI (openL id t) := ⟨hp.2.2.1, hp.2.2.2.1, by show (0 : Int) ≤ 0; omega, by show (0 : Int) < 3650000; omega, by show -9223372036854775808 ≤ t.2.2.2.2.1; omega, by show t.2.2.2.2.1 ≤ 9223372036854775807; omega⟩
      exact move_S h0 hm
theorem wk_S {p p0 r} (h : goodS r) : goodS (wk p p0 r) := by
  unfold wk; split
  · exact h
  · intro x h; cases h
theorem call_S {p p0 l plan} {o : OpT} (hS : SI l) : goodS (sCall p p0 l plan o) := by
  unfold sCall
  split
  · exact wk_S (pay_S hS)
  split
  · exact wk_S (return_S hS)
  split
  · exact wk_S (refund_S hS)
  split
  · exact wk_S (waive_S hS)
  split
  · exact wk_S (promise_S hS)
  split
  · exact wk_S (restructure_S hS)
  split
  · exact wk_S (roll_S hS)
  split
  · exact wk_S (accrueC_S hS)
  · intro x h; cases h; exact hS
theorem nxt_S {s : LP} {r : CR} (hS : SI s.1) (h : goodS r) : SI (nxt s r).1 := by
  cases r with
  | error e => exact hS
  | ok x => exact h x rfl
theorem again_S {p p0} {o : OpT} : ∀ (n : Nat) (s : LP), SI s.1 → SI (again p p0 o n s).1
  | 0, s, h => h
  | n + 1, s, h => again_S n _ (nxt_S h (call_S h))
theorem steps_S {p p0} : ∀ (al : List OpT) (s : LP), SI s.1 → SI (steps p p0 al s).1
  | [], s, h => h
  | o :: r, s, h => steps_S r _ (again_S _ _ h)
end
end Go.Proofs.YtlflclfhldghbaaGreatDoor.Fs
end
section
set_option maxRecDepth 20000
namespace Go.Proofs.YtlflclfhldghbaaGreatDoor.Fs
open Go Go.Proofs.YtlflclfhldghbaaGreatDoor.Ls P
noncomputable section
def dE (e : EntT) (i : Nat) : Int := (if e.1 = (i : Int) then e.2.2.1 else 0) - (if e.2.1 = (i : Int) then e.2.2.1 else 0)
def dS : List EntT → Nat → Int
  | [], _ => 0
  | e :: r, i => dE e i + dS r i
theorem addE_d (f : Nat → Int) (e : EntT) (i : Nat) : addE f e i = f i + dE e i := by unfold addE dE; omega
theorem sumE_d : ∀ (es : List EntT) (f g : Nat → Int), sumE f es = .ok g → ∀ i, g i = f i + dS es i
  | [], f, g, h, i => by cases h; simp [dS]
  | e :: r, f, g, h, i => by
    unfold sumE at h
    split at h
    · cases h
    · rw [sumE_d r _ _ h i, addE_d, dS]; omega
theorem post_d {b es b'} (h : sPost b es = .ok b') : ∀ i, i < 12 → net b' i = net b i + dS es i := by
  unfold sPost at h
  split at h
  · cases h
  · rename_i g hg
    split at h
    · split at h
      · cases h
        intro i hi
        rw [net_mk hi]
        exact sumE_d _ _ _ hg i
      · cases h
    · cases h
end
end Go.Proofs.YtlflclfhldghbaaGreatDoor.Fs
end
section
set_option maxRecDepth 20000
namespace Go.Proofs.YtlflclfhldghbaaGreatDoor.Fs
open Go Go.Proofs.YtlflclfhldghbaaGreatDoor.Ls P
noncomputable section
theorem dE_zero {e : EntT} (h : e.2.2.1 = 0) (i : Nat) : dE e i = 0 := by unfold dE; rw [h]; split <;> split <;> omega
theorem dS_filter : ∀ (es : List EntT) (i : Nat), dS (es.filter (fun e => e.2.2.1 != 0)) i = dS es i
  | [], i => rfl
  | e :: r, i => by
    by_cases c : e.2.2.1 = 0
    · rw [List.filter_cons, if_neg (by simpa using c), dS_filter r i, dS, dE_zero c]; omega
    · rw [List.filter_cons, if_pos (by simpa using c), dS, dS, dS_filter r i]
theorem move_net {l es l'} (h : sMove l es = .ok l') : ∀ i, i < 12 → N l' i = N l i + dS es i := by
  unfold sMove at h
  split at h
  · cases h
  · rename_i b hp
    cases h
    intro i hi
    have := post_d hp i hi
    rw [dS_filter] at this
    exact this
def Same (l l' : LoanT) : Prop := N l' 1 = N l 1 ∧ N l' 2 = N l 2 ∧ N l' 5 + N l' 7 = N l 5 + N l 7 ∧ Lterms l' = Lterms l ∧ Lday l' = Lday l ∧ Lcarry l' = Lcarry l
theorem Same.refl (l : LoanT) : Same l l := ⟨rfl, rfl, rfl, rfl, rfl, rfl⟩
theorem Same.trans {a b c : LoanT} (h : Same a b) (g : Same b c) : Same a c := by
  obtain ⟨h1, h2, h3, h4, h5, h6⟩ := h
  obtain ⟨g1, g2, g3, g4, g5, g6⟩ := g
  exact ⟨g1.trans h1, g2.trans h2, g3.trans h3, g4.trans h4, g5.trans h5, g6.trans h6⟩
theorem move_same {l es l'} (h : sMove l es = .ok l') (h1 : dS es 1 = 0) (h2 : dS es 2 = 0) (h5 : dS es 5 + dS es 7 = 0) : Same l l' ∧ Lcase l' = Lcase l := by
  have n := move_net h
  have e := (move_ok h).2
  have n1 := n 1 (by omega); have n2 := n 2 (by omega); have n5 := n 5 (by omega); have n7 := n 7 (by omega)
  refine ⟨⟨by omega, by omega, by omega, ?_, ?_, ?_⟩, ?_⟩ <;> (rw [e]; rfl)
theorem act_same {plan l nn a x} (h4 : a ≠ 4) (h : sAct plan l nn a = .ok x) : Same l x.1 ∧ Lcase x.1 = Lcase l := by
  unfold sAct at h
  split at h
  · cases h; exact ⟨Same.refl _, rfl⟩
  split at h
  · cases h; exact ⟨Same.refl _, rfl⟩
  split at h
  · cases h; exact ⟨Same.refl _, rfl⟩
  split at h
  · split at h
    · cases h
    · rename_i hm
      cases h
      exact move_same hm (by simp [dS, dE]) (by simp [dS, dE]) (by simp only [dS, dE]; simp; omega)
  split at h
  · cases h; exact ⟨Same.refl _, rfl⟩
  cases h; exact ⟨Same.refl _, rfl⟩
theorem act_case {plan l nn a x} (h : sAct plan l nn a = .ok x) : Lcase x.1 = Lcase l := by
  by_cases h4 : a = 4
  · subst h4
    unfold sAct at h
    rw [if_neg (by omega), if_neg (by omega), if_neg (by omega), if_neg (by omega), if_neg (by omega), if_pos rfl] at h
    unfold sChargeOff at h
    split at h
    · cases h
    · rename_i l2 hm
      cases h
      show Lcase l2 = Lcase l
      rw [(move_ok hm).2]; rfl
  · exact (act_same h4 h).2
theorem acts_case {plan} : ∀ (al : List Int) {l nn x}, sActs plan l nn al = .ok x → Lcase x.1 = Lcase l
  | [], l, nn, x, h => by cases h; rfl
  | a :: r, l, nn, x, h => by
    unfold sActs at h
    split at h
    · cases h
    · rename_i y hy
      exact (acts_case r h).trans (act_case hy)
theorem acts_same {plan} : ∀ (al : List Int) {l nn x}, ¬ 4 ∈ al → sActs plan l nn al = .ok x → Same l x.1
  | [], l, nn, x, hn, h => by cases h; exact Same.refl _
  | a :: r, l, nn, x, hn, h => by
    unfold sActs at h
    split at h
    · cases h
    · rename_i y hy
      exact (act_same (fun q => hn (by rw [q]; exact List.mem_cons_self)) hy).1.trans (acts_same r (fun q => hn (List.mem_cons_of_mem _ q)) h)
theorem age22_4 {t c a x} (ha : ¬ (4 : Int) ∈ a) (h : age22 t c a = .ok x) : (4 : Int) ∈ x.2 → kOver x.1 = true := by
  unfold age22 at h
  split at h
  · cases h; exact fun _ => rfl
  · cases h; exact fun q => absurd q ha
theorem age15_4 {p t d c a x} (ha : ¬ (4 : Int) ∈ a) (h : age15 p t d c a = .ok x) : (4 : Int) ∈ x.2 → kOver x.1 = true := by
  unfold age15 at h
  split at h
  · cases h; exact fun q => absurd q ha
  split at h
  · exact age22_4 (by simpa using ha) h
  · exact age22_4 ha h
theorem age10_4 {p t d c a x} (ha : ¬ (4 : Int) ∈ a) (h : age10 p t d c a = .ok x) : (4 : Int) ∈ x.2 → kOver x.1 = true := by
  unfold age10 at h
  split at h
  · split at h
    · exact age15_4 (by simpa using ha) h
    split at h
    · exact age15_4 ha h
    split at h
    · exact age15_4 ha h
    · exact age15_4 ha h
  split at h
  · cases h; intro q; simp at q; exact absurd q ha
  · exact age15_4 ha h
theorem age_4 {p c t d x} (h : sAge p c [] t d = .ok x) : (4 : Int) ∈ x.2 → kOver x.1 = true := by
  unfold sAge at h
  split at h
  · cases h
  split at h
  · cases h
  split at h
  · exact age10_4 (by simp) h
  · exact age10_4 (by simp) h
theorem step1 (p : PolT) (c : CaseT) (t d : Int) : sStep p c (1, t, d, 0, ()) = sAge p c [] t d := by
  unfold sStep
  simp only []
  rw [if_neg (by omega), if_pos trivial]
theorem step6 (p : PolT) (c : CaseT) (a : Int) : sStep p c (6, 0, 0, a, ()) = sFee p c [] a := by
  unfold sStep
  simp only []
  rw [if_neg (by omega), if_neg (by omega), if_neg (by omega), if_neg (by omega), if_neg (by omega), if_neg (by omega), if_pos trivial]
theorem fee_case {p c a x} (h : sFee p c [] a = .ok x) : x.2 = [] ∧ kOver x.1 = kOver c := by
  unfold sFee at h
  split at h
  · cases h
  split at h
  · cases h
  split at h
  · cases h
  split at h
  · cases h
  split at h
  · cases h
  · cases h; exact ⟨rfl, rfl⟩
theorem chargeL_same {p plan} : ∀ (rows : List Int) {l nn x}, sChargeL p plan l nn rows = .ok x → Same l x.1 ∧ lOver x.1 = lOver l
  | [], l, nn, x, h => by cases h; exact ⟨Same.refl _, rfl⟩
  | i :: r, l, nn, x, h => by
    unfold sChargeL at h
    split at h
    · exact chargeL_same r h
    · split at h
      · cases h
      · rename_i y hy
        split at h
        · cases h
        · rename_i l2 hm
          obtain ⟨s1, o1⟩ := chargeL_same r h
          obtain ⟨s2, c2⟩ := move_same hm (by simp [dS, dE]) (by simp [dS, dE]) (by simp [dS, dE])
          unfold sPlay at hy
          rw [step6] at hy
          split at hy
          · cases hy
          rename_i w hw
          obtain ⟨f1, f2⟩ := fee_case hw
          rw [f1] at hy
          cases hy
          refine ⟨(Same.trans (show Same l (setCase l w.1) from Same.refl _) s2).trans s1, o1.trans ?_⟩
          unfold lOver
          rw [c2]
          exact f2
theorem charge_same {p plan l nn x} (h : sCharge p plan l nn = .ok x) : Same l x.1 ∧ lOver x.1 = lOver l := by
  unfold sCharge at h
  split at h
  · cases h; exact ⟨Same.refl _, rfl⟩
  · exact chargeL_same _ h
theorem accrue_over {l d x} (h : sAccrue l d = .ok x) : lOver x = lOver l := by
  unfold sAccrue at h
  split at h
  · cases h; rfl
  split at h
  · cases h
  split at h
  · cases h
  · rename_i l2 hm; cases h
    show lOver l2 = lOver l
    rw [(move_ok hm).2]; rfl
theorem accrue_net {l x} (ho : lOver l = false) (h : sAccrue l 1 = .ok x) :
    (sSpan (N l 1) (Lterms l).2.2.1 (Lcarry l) 1).2.2.1 = true ∧ Lday x = W (Lday l + 1) ∧ Lterms x = Lterms l ∧ Lcarry x = (sSpan (N l 1) (Lterms l).2.2.1 (Lcarry l) 1).2.1 ∧
    N x 1 = N l 1 ∧ N x 2 = N l 2 + (sSpan (N l 1) (Lterms l).2.2.1 (Lcarry l) 1).1 ∧ N x 5 + N x 7 = N l 5 + N l 7 - (sSpan (N l 1) (Lterms l).2.2.1 (Lcarry l) 1).1 := by
  unfold sAccrue at h
  rw [show lOver (setDay l (W (Lday l + 1))) = lOver l from rfl, ho, if_neg (show ¬ (false = true) by simp)] at h
  split at h
  · cases h
  rename_i hs
  split at h
  · cases h
  rename_i l2 hm
  cases h
  have n := move_net hm
  have e := (move_ok hm).2
  have hs' : (sSpan (N l 1) (Lterms l).2.2.1 (Lcarry l) 1).2.2.1 = true := by
    cases q : (sSpan (N l 1) (Lterms l).2.2.1 (Lcarry l) 1).2.2.1
    · exact absurd q hs
    · rfl
  generalize sSpan (N l 1) (Lterms l).2.2.1 (Lcarry l) 1 = S at *
  have n1 := n 1 (by omega); have n2 := n 2 (by omega); have n5 := n 5 (by omega); have n7 := n 7 (by omega)
  refine ⟨hs', by show Lday l2 = _; rw [e]; rfl, by show Lterms l2 = _; rw [e]; rfl, rfl, ?_, ?_, ?_⟩
  · show N l2 1 = N l 1
    rw [n1]
    show N l 1 + _ = _
    cases Ksusp (Lcase l) <;> simp [dS, dE]
  · show N l2 2 = N l 2 + S.1
    rw [n2]
    show N l 2 + _ = _
    cases Ksusp (Lcase l) <;> simp [dS, dE]
  · show N l2 5 + N l2 7 = N l 5 + N l 7 - S.1
    rw [n5, n7]
    show N l 5 + _ + (N l 7 + _) = _
    cases Ksusp (Lcase l) <;> simp [dS, dE] <;> omega
theorem roll_step {p plan l x} (hS : SI l) (h : sRoll p plan l = .ok x) (ho : lOver x.1 = false) :
    lOver l = false ∧ Lday l < 3652059 ∧ Lday x.1 = Lday l + 1 ∧ Lterms x.1 = Lterms l ∧ N x.1 1 = N l 1 ∧
    (sSpan (N l 1) (Lterms l).2.2.1 (Lcarry l) 1).2.2.1 = true ∧ Lcarry x.1 = (sSpan (N l 1) (Lterms l).2.2.1 (Lcarry l) 1).2.1 ∧
    N x.1 2 = N l 2 + (sSpan (N l 1) (Lterms l).2.2.1 (Lcarry l) 1).1 ∧ N x.1 5 + N x.1 7 = N l 5 + N l 7 - (sSpan (N l 1) (Lterms l).2.2.1 (Lcarry l) 1).1 := by
  unfold sRoll at h
  split at h
  · cases h
  rename_i hd
  split at h
  · cases h
  rename_i l1 ha
  have ao := accrue_over ha
  split at h
  · rename_i ho1
    cases h
    rw [ho] at ho1; cases ho1
  rename_i ho1
  have ho1' : lOver l1 = false := by cases q : lOver l1; rfl; exact absurd q ho1
  have hol : lOver l = false := ao.symm.trans ho1'
  have hw : W (Lday l + 1) = Lday l + 1 := by
    have := hS.2.2.2.2.1
    unfold W; exact w64 (by omega) (by omega)
  obtain ⟨a1, a2, a3, a4, a5, a6, a7⟩ := accrue_net hol ha
  split at h
  · cases h
  rename_i y hy
  split at h
  · cases h
  rename_i z hz
  cases h
  obtain ⟨⟨c1, c2, c3, c4, c5, c6⟩, co⟩ := charge_same hz
  have hyo : lOver y.1 = false := co.symm.trans ho
  unfold sPlay at hy
  rw [step1] at hy
  split at hy
  · cases hy
  rename_i w hw2
  have h4 : ¬ (4 : Int) ∈ w.2 := fun q => by
    have k1 := age_4 hw2 q
    have k2 := acts_case _ hy
    unfold lOver at hyo
    rw [k2] at hyo
    have k3 : kOver w.1 = false := hyo
    rw [k1] at k3; cases k3
  obtain ⟨b1, b2, b3, b4, b5, b6⟩ := acts_same _ h4 hy
  have e1 : N (setCase l1 w.1) 1 = N l1 1 := rfl
  have e2 : N (setCase l1 w.1) 2 = N l1 2 := rfl
  have e5 : N (setCase l1 w.1) 5 = N l1 5 := rfl
  have e7 : N (setCase l1 w.1) 7 = N l1 7 := rfl
  rw [e1] at b1; rw [e2] at b2; rw [e5, e7] at b3
  refine ⟨hol, by omega, ?_, ?_, ?_, a1, ?_, ?_, ?_⟩
  · show Lday z.1 = _
    rw [c5, b5]; show Lday l1 = _; rw [a2, hw]
  · show Lterms z.1 = _
    rw [c4, b4]; exact a3
  · show N z.1 1 = _
    rw [c1, b1, a5]
  · show Lcarry z.1 = _
    rw [c6, b6]; exact a4
  · show N z.1 2 = _
    rw [c2, b2, a6]
  · show N z.1 5 + N z.1 7 = _
    rw [c3, b3, a7]
theorem span_eq {pr rate c d : Int} (h : (sSpan pr rate c d).2.2.1 = true) : sSpan pr rate c d = ((pr * (rate * d) + c) / 3650000, (pr * (rate * d) + c) % 3650000, true, ()) := by
  unfold sSpan at h ⊢
  generalize pr * (rate * d) = Q at *
  split at h
  · cases h
  rename_i c1
  rw [if_neg c1]
  split at h
  · cases h
  rename_i c2
  rw [if_neg c2]
  split at h
  · cases h
  rename_i c3
  rw [if_neg c3]
  split at h
  · rename_i c4
    rw [if_pos c4, show (Q + c) / 3650000 = Q / 3650000 by omega, show (Q + c) % 3650000 = Q % 3650000 + c by omega]
  rename_i c4
  rw [if_neg c4]
  split at h
  · cases h
  rename_i c5
  rw [if_neg c5, show (Q + c) / 3650000 = Q / 3650000 + 1 by omega, show (Q + c) % 3650000 = Q % 3650000 + c - 3650000 by omega]
theorem span_may {pr rate c d : Int} (h1 : 0 ≤ pr) (h2 : 0 ≤ rate) (h3 : rate ≤ 100000) (h4 : 0 ≤ c) (h5 : c < 3650000) (h6 : 0 ≤ d) (h7 : d ≤ 3652059) (h8 : (pr * (rate * d) + c) / 3650000 ≤ 9223372036854775807) :
    (sSpan pr rate c d).2.2.1 = true := by
  unfold sSpan
  generalize pr * (rate * d) = Q at *
  rw [if_neg (by omega), if_neg (by omega), if_neg (by omega)]
  split
  · rfl
  rw [if_neg (by omega)]
end
end Go.Proofs.YtlflclfhldghbaaGreatDoor.Fs
end
section
set_option maxRecDepth 100000
namespace Go.Proofs.YtlflclfhldghbaaGreatDoor.Fs
open Go Go.Proofs.YtlflclfhldghbaaGreatDoor.Ls
noncomputable def C_loanPolicies : Cx TT := cxB tbl89 Go.Proofs.Tryz.f6.ntmps [(6, s_loanPolicies_6), (9, s_loanPolicies_9), (10, s_loanPolicies_10)] [] [1000009] [] [6, 9, 10]
noncomputable def k_loanPolicies (a : g_loanPolicies.args.ty) (h : tysO TT g_loanPolicies.hp) : Nat := 10
noncomputable def F_loanPolicies : g_loanPolicies.args.ty → tysO TT g_loanPolicies.hp → Res TT g_loanPolicies := fun a h => bodyG C_loanPolicies g_loanPolicies Go.Proofs.Tryz.f6 [] (k_loanPolicies a h) a h
theorem F_loanPolicies_ok : FOK prog globs 6 g_loanPolicies F_loanPolicies :=
  bodyG_sound (cx := C_loanPolicies) mix (cxB_ok tbl89_ok _ _ _ _ _ _) (f := 6) (fn := Go.Proofs.Tryz.f6) (by kernel_rfl) (by kernel_rfl) (by kernel_rfl) (by kernel_rfl) _
noncomputable def tbl90 : List (Ent TT) := ⟨6, g_loanPolicies, F_loanPolicies⟩ :: tbl89
theorem tbl90_ok : TblOK prog globs tbl90 := tbl_cons (by kernel_rfl) F_loanPolicies_ok tbl89_ok
end Go.Proofs.YtlflclfhldghbaaGreatDoor.Fs
end
section
set_option maxRecDepth 100000
namespace Go.Proofs.YtlflclfhldghbaaGreatDoor.Fs
open Go Go.Proofs.YtlflclfhldghbaaGreatDoor.Ls
noncomputable def C_has : Cx TT := cxB tbl90 Go.Proofs.Tryz.f15.ntmps [(3, s_has_3)] [] [] [] []
noncomputable def k_has (a : g_has.args.ty) (h : tysO TT g_has.hp) : Nat := h.1.length + 2
noncomputable def F_has : g_has.args.ty → tysO TT g_has.hp → Res TT g_has := fun a h => bodyG C_has g_has Go.Proofs.Tryz.f15 [] (k_has a h) a h
theorem F_has_ok : FOK prog globs 15 g_has F_has :=
  bodyG_sound (cx := C_has) mix (cxB_ok tbl90_ok _ _ _ _ _ _) (f := 15) (fn := Go.Proofs.Tryz.f15) (by kernel_rfl) (by kernel_rfl) (by kernel_rfl) (by kernel_rfl) _
noncomputable def tbl91 : List (Ent TT) := ⟨15, g_has, F_has⟩ :: tbl90
theorem tbl91_ok : TblOK prog globs tbl91 := tbl_cons (by kernel_rfl) F_has_ok tbl90_ok
noncomputable def C_loanPaid : Cx TT := cxB tbl91 Go.Proofs.Tryz.f3.ntmps [] [] [1000003] [] []
noncomputable def k_loanPaid (a : g_loanPaid.args.ty) (h : tysO TT g_loanPaid.hp) : Nat := 10
noncomputable def F_loanPaid : g_loanPaid.args.ty → tysO TT g_loanPaid.hp → Res TT g_loanPaid := fun a h => bodyG C_loanPaid g_loanPaid Go.Proofs.Tryz.f3 [] (k_loanPaid a h) a h
theorem F_loanPaid_ok : FOK prog globs 3 g_loanPaid F_loanPaid :=
  bodyG_sound (cx := C_loanPaid) mix (cxB_ok tbl91_ok _ _ _ _ _ _) (f := 3) (fn := Go.Proofs.Tryz.f3) (by kernel_rfl) (by kernel_rfl) (by kernel_rfl) (by kernel_rfl) _
noncomputable def tbl92 : List (Ent TT) := ⟨3, g_loanPaid, F_loanPaid⟩ :: tbl91
theorem tbl92_ok : TblOK prog globs tbl92 := tbl_cons (by kernel_rfl) F_loanPaid_ok tbl91_ok
end Go.Proofs.YtlflclfhldghbaaGreatDoor.Fs
end
section
set_option maxRecDepth 100000
namespace Go.Proofs.YtlflclfhldghbaaGreatDoor.Fs
open Go Go.Proofs.YtlflclfhldghbaaGreatDoor.Ls
noncomputable def C_loanTakenBack : Cx TT := cxB tbl92 Go.Proofs.Tryz.f4.ntmps [] [] [] [] []
noncomputable def k_loanTakenBack (a : g_loanTakenBack.args.ty) (h : tysO TT g_loanTakenBack.hp) : Nat := 10
noncomputable def F_loanTakenBack : g_loanTakenBack.args.ty → tysO TT g_loanTakenBack.hp → Res TT g_loanTakenBack := fun a h => bodyG C_loanTakenBack g_loanTakenBack Go.Proofs.Tryz.f4 [] (k_loanTakenBack a h) a h
theorem F_loanTakenBack_ok : FOK prog globs 4 g_loanTakenBack F_loanTakenBack :=
  bodyG_sound (cx := C_loanTakenBack) mix (cxB_ok tbl92_ok _ _ _ _ _ _) (f := 4) (fn := Go.Proofs.Tryz.f4) (by kernel_rfl) (by kernel_rfl) (by kernel_rfl) (by kernel_rfl) _
noncomputable def tbl93 : List (Ent TT) := ⟨4, g_loanTakenBack, F_loanTakenBack⟩ :: tbl92
theorem tbl93_ok : TblOK prog globs tbl93 := tbl_cons (by kernel_rfl) F_loanTakenBack_ok tbl92_ok
end Go.Proofs.YtlflclfhldghbaaGreatDoor.Fs
end
section
set_option maxRecDepth 100000
namespace Go.Proofs.YtlflclfhldghbaaGreatDoor.Fs
open Go Go.Proofs.YtlflclfhldghbaaGreatDoor.Ls P
noncomputable section
def pw : PolT := (738000, 10, 90, 120, 500, 1500, 10000, 20000, 50000, 3, 14, 2, 0, 0, 2, 16, 0, (), ())
def tw : TermsT := (1, 3650000, 1000, 2, 738000, 0, ())
def rw1 : List RowT := [(738031, 30417, 1825000, false, ()), (738062, 15208, 1825000, false, ())]
theorem planW : F_plan ((1, 3650000, 1000, 2, 738000, 0, ()), (), ()) (([] : List Int), ()) = ⟨true, false, ((), true, ()), ((), [((738031 : Int), (30417 : Int), (1825000 : Int), false, ()), ((738062 : Int), (15208 : Int), (1825000 : Int), false, ())], ()), ()⟩ := by kernel_rfl
theorem sPlanW : sPlan tw [] = (true, rw1) := by
  have h := (planS tw []).1
  have h2 : F_plan (tw, (), ()) (([] : List Int), ()) = _ := planW
  rw [h2] at h
  have e1 := congrArg (fun r => r.ret) h
  have e2 := congrArg (fun r => r.out) h
  simp only [Prod.mk.injEq, and_true, true_and] at e1 e2
  have e3 : (sPlan tw []).2 = rw1 := (congrArg (fun z => z.2.1) e2).symm
  exact Prod.ext e1.symm e3
theorem days0 {plan : List RowT} (hp : plan.length ≤ 10000) (pos : PosT) (today : Int) (h : ∀ r ∈ plan, today ≤ r.1) : sDays plan pos today = 0 := by
  unfold sDays
  by_cases c : (sOldest plan pos).2.1 = false
  · rw [if_pos c]
  · rw [if_neg c]
    obtain ⟨l1, l2⟩ := oldest_lt hp pos (by simpa using c)
    rw [if_pos (h _ (getD_mem _ (by omega)))]
theorem daysW (pos : PosT) : sDays rw1 pos 738001 = 0 := by
  refine days0 (by unfold rw1; simp) pos 738001 (fun r hr => ?_)
  unfold rw1 at hr
  simp only [List.mem_cons, List.not_mem_nil, or_false] at hr
  rcases hr with rfl | rfl <;> simp
def lw1 : LoanT := (1, tw, (), ((0, 3650000, 0, 0, 0, 0, -3650000, 0, 0, 0, 0, 0, ()), ()), (1, false, 0, 0, 0, 0, 0, 0, 0, 0, 0, 0, 0, 0, 0, ()), 738000, 0, 0, parts0, false, 0, 0, ())
def lw2 : LoanT := (1, tw, (), ((0, 3650000, 1000, 0, 0, 0, -3650000, -1000, 0, 0, 0, 0, ()), ()), (1, false, 0, 0, 0, 0, 0, 0, 0, 0, 0, 0, 0, 0, 0, ()), 738001, 0, 0, parts0, false, 0, 0, ())
def qw : PartsT := (0, 600, 0, 0, 0, ())
def lw3 : LoanT := (1, tw, (), ((600, 3650000, 400, 0, 0, 0, -3650000, -1000, 0, 0, 0, 0, ()), ()), (1, false, 0, 0, 0, 0, 0, 0, 0, 0, 0, 0, 0, 0, 0, ()), 738001, 0, 0, parts0, false, 0, 0, ())
def lw4 : LoanT := (1, tw, (), ((600, 3650000, 400, 0, 0, 0, -3650000, -1000, 0, 0, 0, 0, ()), ()), (1, false, 0, 0, 0, 0, 0, 0, 0, 0, 0, 0, 0, 0, 0, ()), 738001, 0, 600, qw, true, 0, 0, ())
theorem chkW : (chk pw []).1 = 0 := by kernel_rfl
theorem openW : sOpen [] 1 tw = .ok (lw1, parts0, rw1, []) := by
  have h : sMove (openL 1 tw) [(1, 6, tw.2.1, ())] = .ok lw1 := by kernel_rfl
  have ht : okT tw = true := by kernel_rfl
  unfold sOpen
  rw [if_neg (by omega), if_neg (by rw [ht]; simp), sPlanW, if_neg (by simp), h]
theorem rollW : sRoll pw rw1 lw1 = .ok (lw2, parts0, rw1, []) := by
  have h1 : sAccrue lw1 1 = .ok lw2 := by kernel_rfl
  have h2 : lOver lw2 = false := by kernel_rfl
  have h3 : sPlay pw rw1 lw2 [] (1, Lday lw2, 0, 0, ()) = .ok (lw2, []) := by kernel_rfl
  have h4 : mayFee lw2 = false := by kernel_rfl
  have hd : sDays rw1 (posOf lw2) (Lday lw2) = 0 := daysW _
  unfold sRoll
  have h0 : ¬ (3652059 ≤ Lday lw1) := by show ¬ ((3652059 : Int) ≤ 738000); omega
  rw [if_neg h0, h1]
  simp only [h2]
  rw [if_neg (show ¬ (false = true) by simp), hd, h3]
  simp only []
  unfold sCharge sChargeP
  rw [if_pos h4, if_pos h4]
theorem payW : sPay pw rw1 lw2 600 = .ok (lw4, qw, rw1, []) := by
  have h1 : sTake pw lw2 600 = (qw, 0, ()) := by kernel_rfl
  have h2 : sMove lw2 (sEntries qw) = .ok lw3 := by kernel_rfl
  have h3 : lOver lw3 = false := by kernel_rfl
  have h4 : paidL lw3 qw = lw4 := by kernel_rfl
  have h5 : sPlay pw rw1 lw4 [] (2, 0, 0, 600, ()) = .ok (lw4, []) := by kernel_rfl
  have h6 : ¬ (total lw4 = 0) := by
    have : total lw4 = 3650400 := by kernel_rfl
    rw [this]; omega
  have hd : sDays rw1 (posOf lw4) (Lday lw4) = 0 := daysW _
  unfold sPay
  rw [if_neg (by omega), h1]
  simp only []
  rw [if_neg (by simp), h2]
  simp only [h3, h4]
  rw [if_neg (show ¬ (false = true) by simp), hd, h5]
  simp only []
  unfold sSettle
  rw [if_neg h6]
theorem openLI : LI lw1 rw1 := open_LI _ openW
theorem rollLI : LI lw2 rw1 := roll_LI openLI _ rollW
theorem works : F_works () () = ⟨true, false, true, (), ()⟩ := by
  have ho := open_ pw [] 1 tw
  have hr := roll pw [] lw1 rw1 openLI
  have hp := pay pw [] lw2 rw1 600 rollLI (by omega)
  unfold wk at ho hr hp
  rw [if_pos chkW] at ho hr hp
  rw [openW] at ho
  rw [rollW] at hr
  rw [payW] at hp
  have hk : k_works () () = 10 := rfl
  rw [F_works_eq, hk, L_works_2_eq 9]
  have h3 := L_works_3_eq 8 pw tw []
  refine Eq.trans h3 ?_
  rw [ho]
  refine rstep rfl ?_
  have h4 := L_works_4_eq 7 pw (cret loan0 (.ok (lw1, parts0, rw1, []))) [] rw1 []
  refine Eq.trans h4 ?_
  have hr' : F_roll (pw, (cret loan0 (.ok (lw1, parts0, rw1, []))).1, ()) (([] : List Int), rw1, ()) = _ := hr
  rw [hr']
  refine rstep rfl ?_
  have h5 := L_works_5_eq 6 pw (cret loan0 (.ok (lw1, parts0, rw1, []))) (cret lw1 (.ok (lw2, parts0, rw1, []))) [] rw1 [] rw1 []
  refine Eq.trans h5 ?_
  have hp' : F_pay (pw, (cret lw1 (.ok (lw2, parts0, rw1, []))).1, (600 : Int), ()) (([] : List Int), rw1, ()) = _ := hp
  rw [hp']
  rfl
end
end Go.Proofs.YtlflclfhldghbaaGreatDoor.Fs
end
section
set_option maxRecDepth 20000
namespace Go.Proofs.YtlflclfhldghbaaGreatDoor.Fs
open Go Go.Proofs.YtlflclfhldghbaaGreatDoor.Ls P
noncomputable section
theorem wk_ok {p p0 r x} (h : wk p p0 r = .ok x) : r = .ok x ∧ (chk p p0).1 = 0 := by
  unfold wk at h
  split at h
  · exact ⟨h, by assumption⟩
  · cases h
theorem wk_of {p p0 r} (h : (chk p p0).1 = 0) : wk p p0 r = r := by unfold wk; rw [if_pos h]
theorem act_err {plan l nn a e} (h : sAct plan l nn a = .error e) : e ≠ 0 := by
  unfold sAct at h
  split at h
  · cases h
  split at h
  · cases h
  split at h
  · cases h
  split at h
  · split at h
    · rename_i hm; cases h; exact sMove_err hm
    · cases h
  split at h
  · cases h
  split at h
  · unfold sChargeOff at h
    split at h
    · rename_i hm; cases h; exact sMove_err hm
    · cases h
  · cases h
theorem acts_err {plan} : ∀ (al : List Int) {l nn e}, sActs plan l nn al = .error e → e ≠ 0
  | [], l, nn, e, h => by cases h
  | a :: r, l, nn, e, h => by
    unfold sActs at h
    split at h
    · rename_i hm; cases h; exact act_err hm
    · exact acts_err r h
theorem step_err {p c e x} (h : sStep p c e = .error x) : x ≠ 0 := by
  have : nz (sStep p c e) := by
    unfold sStep
    split
    · exact nz_err (by omega)
    split
    · exact nz_age _ _ _ _ _
    split
    · exact nz_paid _ _ _ _
    split
    · exact nz_returned _ _ _
    split
    · exact nz_promise _ _ _ _ _ _
    split
    · exact nz_restr _ _ _
    split
    · exact nz_fee _ _ _ _
    · exact nz_close _ _
  exact this x h
theorem play_err {p plan l nn ev e} (h : sPlay p plan l nn ev = .error e) : e ≠ 0 := by
  unfold sPlay at h
  split at h
  · rename_i hm; cases h; exact step_err hm
  · exact acts_err _ h
end
end Go.Proofs.YtlflclfhldghbaaGreatDoor.Fs
end
section
set_option maxRecDepth 100000
namespace Go.Proofs.YtlflclfhldghbaaGreatDoor.Fs
open Go Go.Proofs.YtlflclfhldghbaaGreatDoor.Ls
noncomputable def C_loanInterest : Cx TT := cxB tbl93 Go.Proofs.Tryz.f5.ntmps [(7, s_loanInterest_7), (7, s_loanInterest_7_1)] [] [] [] []
noncomputable def k_loanInterest (a : g_loanInterest.args.ty) (h : tysO TT g_loanInterest.hp) : Nat := 1000
noncomputable def F_loanInterest : g_loanInterest.args.ty → tysO TT g_loanInterest.hp → Res TT g_loanInterest := fun a h => bodyG C_loanInterest g_loanInterest Go.Proofs.Tryz.f5 [] (k_loanInterest a h) a h
theorem F_loanInterest_ok : FOK prog globs 5 g_loanInterest F_loanInterest :=
  bodyG_sound (cx := C_loanInterest) mix (cxB_ok tbl93_ok _ _ _ _ _ _) (f := 5) (fn := Go.Proofs.Tryz.f5) (by kernel_rfl) (by kernel_rfl) (by kernel_rfl) (by kernel_rfl) _
noncomputable def L_loanInterest_7 (k : Nat) (v : s_loanInterest_7.ty TT) : Res TT g_loanInterest := loopG C_loanInterest g_loanInterest Go.Proofs.Tryz.f5 [] k (todoF Go.Proofs.Tryz.f5 7) (SS.st s_loanInterest_7 0 v)
noncomputable def L_loanInterest_7_1 (k : Nat) (v : s_loanInterest_7_1.ty TT) : Res TT g_loanInterest := loopG C_loanInterest g_loanInterest Go.Proofs.Tryz.f5 [] k (todoF Go.Proofs.Tryz.f5 7) (SS.st s_loanInterest_7_1 0 v)
theorem F_loanInterest_eq (p : T23) (id : Int) (t : T25) (days : Int) (p_0 : List Int) (script : List T58) : F_loanInterest (p, id, t, (), days, ()) (p_0, script, ()) =
  let x0 := (F_lived (p, id, t, (), ()) (p_0, script, ()))
  let x1 := (x0.ret : (Int × (Int × Int × Int × Int × Int × Int × Unit) × Unit × ((Int × Int × Int × Int × Int × Int × Int × Int × Int × Int × Int × Int × Unit) × Unit) × (Int × Bool × Int × Int × Int × Int × Int × Int × Int × Int × Int × Int × Int × Int × Int × Unit) × Int × Int × Int × (Int × Int × Int × Int × Int × Unit) × Bool × Int × Int × Unit) × Bool × Unit)
  let x2 := (!x1.2.1)
  let x3 := x1.1
  let x4 := x3.2.2.2.2.1.1
  let x5 := (x4 == 8)
  let x6 := x0.ok
  let x7 := (bif x2 then x6 else (bif decide (days < 0) then x6 else (bif decide (days > 400) then x6 else (x6 && (bif x5 then true else true)))))
  let x8 := (L_loanInterest_7 (k_loanInterest (p, id, t, (), days, ()) (p_0, script, ())) ((days, (), (), (), (0 : Int), ()), p_0, script, p, x3, x3, ((x0.out : Unit × Unit × (List (Int × Int × Int × Bool × Unit)) × Unit).2).2))
  (bif (bif x2 then true else (bif decide (days < 0) then true else (bif decide (days > 400) then true else (bif x5 then true else (x4 == 9))))) then ⟨(x7 && (F_works () ()).ok), false, ((F_works () ()).ret : Bool), ((), (), ()), ()⟩ else ⟨(x7 && x8.ok), x8.pan, x8.ret, x8.out, x8.pv⟩) := by kernel_rfl
theorem L_loanInterest_7_eq (k : Nat) (days : Int) (i : Int) (p_0 : List Int) (script : List T58) (p : T23) (l : T36) (m : T36) (l_r : List T123) : L_loanInterest_7 (k + 1) ((days, (), (), (), i, ()), (p_0, script, p, l, m, l_r, ())) =
  let x0 := ((F_roll (p, m, ()) (p_0, l_r, ())).ret : (Int × (Int × Int × Int × Int × Int × Int × Unit) × Unit × ((Int × Int × Int × Int × Int × Int × Int × Int × Int × Int × Int × Int × Unit) × Unit) × (Int × Bool × Int × Int × Int × Int × Int × Int × Int × Int × Int × Int × Int × Int × Int × Unit) × Int × Int × Int × (Int × Int × Int × Int × Int × Unit) × Bool × Int × Int × Unit) × (Int × Int × Int × Int × Int × Unit) × Unit × Int × Unit)
  let x1 := (F_roll (p, m, ()) (p_0, l_r, ())).ok
  let x2 := (L_loanInterest_7_1 k ((days, (), (), (), (IntKind.i64.wrap (i + 1)), ()), p_0, script, p, l, x0.1, l_r, ((((F_roll (p, m, ()) (p_0, l_r, ())).out : Unit × Unit × (List (Int × Int × Int × Bool × Unit)) × (List (Int × Int × Int × Int × Int × Bool × Unit)) × Unit).2).2).1, ()))
  let x3 := (bif (m.2.2.2.2.1.1 == 8) then true else true)
  let x4 := (F_span (l.2.2.2.1.1.2.1, l.2.1.2.2.1, l.2.2.2.2.2.2.1, days, ()) ())
  let x5 := (x4.ret : Int × Int × Bool × Unit)
  let x6 := x5.2
  let x7 := x6.2.1
  let x8 := (m.2.2.2.2.2.2.1 == x6.1)
  let x9 := m.2.2.2.1.1.2.2.2.2.2.2
  let x10 := x9.2
  let x11 := x10.2
  let x12 := x11.2
  let x13 := x12.2
  let x14 := [m.2.2.2.1.1.1, m.2.2.2.1.1.2.1, m.2.2.2.1.1.2.2.1, m.2.2.2.1.1.2.2.2.1, m.2.2.2.1.1.2.2.2.2.1, m.2.2.2.1.1.2.2.2.2.2.1, x9.1, x10.1, x11.1, x12.1, x13.1, x13.2.1]
  let x15 := l.2.2.2.1.1.2.2.2.2.2.2
  let x16 := x15.2
  let x17 := x16.2
  let x18 := x17.2
  let x19 := x18.2
  let x20 := [l.2.2.2.1.1.1, l.2.2.2.1.1.2.1, l.2.2.2.1.1.2.2.1, l.2.2.2.1.1.2.2.2.1, l.2.2.2.1.1.2.2.2.2.1, l.2.2.2.1.1.2.2.2.2.2.1, x15.1, x16.1, x17.1, x18.1, x19.1, x19.2.1]
  let x21 := x5.1
  let x22 := ((IntKind.i64.wrap ((x14.getD ((2 : Int).toNat) (0 : Int)) - (x20.getD ((2 : Int).toNat) (0 : Int)))) == x21)
  let x23 := ((IntKind.i64.wrap ((IntKind.i64.wrap (0 - (IntKind.i64.wrap ((x14.getD ((5 : Int).toNat) (0 : Int)) - (x20.getD ((5 : Int).toNat) (0 : Int)))))) - (IntKind.i64.wrap ((x14.getD ((7 : Int).toNat) (0 : Int)) - (x20.getD ((7 : Int).toNat) (0 : Int)))))) == x21)
  let x24 := x14.length
  let x25 := x20.length
  let x26 := (((x3 && x4.ok) && ((((decide ((0 : Int) ≤ (5 : Int)) && decide (5 < ((12 : Nat) : Int))) && (Nat.blt ((5 : Int).toNat) x24)) && (decide ((0 : Int) ≤ (5 : Int)) && decide (5 < ((12 : Nat) : Int)))) && (Nat.blt ((5 : Int).toNat) x25))) && ((((decide ((0 : Int) ≤ (7 : Int)) && decide (7 < ((12 : Nat) : Int))) && (Nat.blt ((7 : Int).toNat) x24)) && (decide ((0 : Int) ≤ (7 : Int)) && decide (7 < ((12 : Nat) : Int)))) && (Nat.blt ((7 : Int).toNat) x25)))
  let x27 := (x26 && ((((decide ((0 : Int) ≤ (2 : Int)) && decide (2 < ((12 : Nat) : Int))) && (Nat.blt ((2 : Int).toNat) x24)) && (decide ((0 : Int) ≤ (2 : Int)) && decide (2 < ((12 : Nat) : Int)))) && (Nat.blt ((2 : Int).toNat) x25)))
  (bif decide (i < days) then (bif (x0.2.2.2.1 != 0) then ⟨(x1 && (F_works () ()).ok), false, ((F_works () ()).ret : Bool), ((), (), ()), ()⟩ else ⟨(x1 && x2.ok), x2.pan, x2.ret, x2.out, x2.pv⟩) else (bif (bif (m.2.2.2.2.1.1 == 8) then true else (m.2.2.2.2.1.1 == 9)) then ⟨(x3 && (F_works () ()).ok), false, ((F_works () ()).ret : Bool), ((), (), ()), ()⟩ else ⟨(bif x7 then (bif x8 then (bif x22 then (bif x23 then x27 else x27) else x27) else x26) else x26), false, (bif x7 then (bif x8 then (bif x22 then (bif x23 then (m.2.2.2.2.2.1 == (IntKind.i64.wrap (l.2.2.2.2.2.1 + days))) else false) else false) else false) else false), ((), (), ()), ()⟩)) := by kernel_rfl
theorem L_loanInterest_7_1_eq (k : Nat) (days : Int) (i : Int) (p_0 : List Int) (script : List T58) (p : T23) (l : T36) (m : T36) (l_r : List T123) (m_r : List T123) : L_loanInterest_7_1 (k + 1) ((days, (), (), (), i, ()), (p_0, script, p, l, m, l_r, m_r, ())) =
  let x0 := ((F_roll (p, m, ()) (p_0, m_r, ())).ret : (Int × (Int × Int × Int × Int × Int × Int × Unit) × Unit × ((Int × Int × Int × Int × Int × Int × Int × Int × Int × Int × Int × Int × Unit) × Unit) × (Int × Bool × Int × Int × Int × Int × Int × Int × Int × Int × Int × Int × Int × Int × Int × Unit) × Int × Int × Int × (Int × Int × Int × Int × Int × Unit) × Bool × Int × Int × Unit) × (Int × Int × Int × Int × Int × Unit) × Unit × Int × Unit)
  let x1 := (F_roll (p, m, ()) (p_0, m_r, ())).ok
  let x2 := (L_loanInterest_7_1 k ((days, (), (), (), (IntKind.i64.wrap (i + 1)), ()), p_0, script, p, l, x0.1, l_r, ((((F_roll (p, m, ()) (p_0, m_r, ())).out : Unit × Unit × (List (Int × Int × Int × Bool × Unit)) × (List (Int × Int × Int × Int × Int × Bool × Unit)) × Unit).2).2).1, ()))
  let x3 := (bif (m.2.2.2.2.1.1 == 8) then true else true)
  let x4 := (F_span (l.2.2.2.1.1.2.1, l.2.1.2.2.1, l.2.2.2.2.2.2.1, days, ()) ())
  let x5 := (x4.ret : Int × Int × Bool × Unit)
  let x6 := x5.2
  let x7 := x6.2.1
  let x8 := (m.2.2.2.2.2.2.1 == x6.1)
  let x9 := m.2.2.2.1.1.2.2.2.2.2.2
  let x10 := x9.2
  let x11 := x10.2
  let x12 := x11.2
  let x13 := x12.2
  let x14 := [m.2.2.2.1.1.1, m.2.2.2.1.1.2.1, m.2.2.2.1.1.2.2.1, m.2.2.2.1.1.2.2.2.1, m.2.2.2.1.1.2.2.2.2.1, m.2.2.2.1.1.2.2.2.2.2.1, x9.1, x10.1, x11.1, x12.1, x13.1, x13.2.1]
  let x15 := l.2.2.2.1.1.2.2.2.2.2.2
  let x16 := x15.2
  let x17 := x16.2
  let x18 := x17.2
  let x19 := x18.2
  let x20 := [l.2.2.2.1.1.1, l.2.2.2.1.1.2.1, l.2.2.2.1.1.2.2.1, l.2.2.2.1.1.2.2.2.1, l.2.2.2.1.1.2.2.2.2.1, l.2.2.2.1.1.2.2.2.2.2.1, x15.1, x16.1, x17.1, x18.1, x19.1, x19.2.1]
  let x21 := x5.1
  let x22 := ((IntKind.i64.wrap ((x14.getD ((2 : Int).toNat) (0 : Int)) - (x20.getD ((2 : Int).toNat) (0 : Int)))) == x21)
  let x23 := ((IntKind.i64.wrap ((IntKind.i64.wrap (0 - (IntKind.i64.wrap ((x14.getD ((5 : Int).toNat) (0 : Int)) - (x20.getD ((5 : Int).toNat) (0 : Int)))))) - (IntKind.i64.wrap ((x14.getD ((7 : Int).toNat) (0 : Int)) - (x20.getD ((7 : Int).toNat) (0 : Int)))))) == x21)
  let x24 := x14.length
  let x25 := x20.length
  let x26 := (((x3 && x4.ok) && ((((decide ((0 : Int) ≤ (5 : Int)) && decide (5 < ((12 : Nat) : Int))) && (Nat.blt ((5 : Int).toNat) x24)) && (decide ((0 : Int) ≤ (5 : Int)) && decide (5 < ((12 : Nat) : Int)))) && (Nat.blt ((5 : Int).toNat) x25))) && ((((decide ((0 : Int) ≤ (7 : Int)) && decide (7 < ((12 : Nat) : Int))) && (Nat.blt ((7 : Int).toNat) x24)) && (decide ((0 : Int) ≤ (7 : Int)) && decide (7 < ((12 : Nat) : Int)))) && (Nat.blt ((7 : Int).toNat) x25)))
  let x27 := (x26 && ((((decide ((0 : Int) ≤ (2 : Int)) && decide (2 < ((12 : Nat) : Int))) && (Nat.blt ((2 : Int).toNat) x24)) && (decide ((0 : Int) ≤ (2 : Int)) && decide (2 < ((12 : Nat) : Int)))) && (Nat.blt ((2 : Int).toNat) x25)))
  (bif decide (i < days) then (bif (x0.2.2.2.1 != 0) then ⟨(x1 && (F_works () ()).ok), false, ((F_works () ()).ret : Bool), ((), (), ()), ()⟩ else ⟨(x1 && x2.ok), x2.pan, x2.ret, x2.out, x2.pv⟩) else (bif (bif (m.2.2.2.2.1.1 == 8) then true else (m.2.2.2.2.1.1 == 9)) then ⟨(x3 && (F_works () ()).ok), false, ((F_works () ()).ret : Bool), ((), (), ()), ()⟩ else ⟨(bif x7 then (bif x8 then (bif x22 then (bif x23 then x27 else x27) else x27) else x26) else x26), false, (bif x7 then (bif x8 then (bif x22 then (bif x23 then (m.2.2.2.2.2.1 == (IntKind.i64.wrap (l.2.2.2.2.2.1 + days))) else false) else false) else false) else false), ((), (), ()), ()⟩)) := by kernel_rfl
end Go.Proofs.YtlflclfhldghbaaGreatDoor.Fs
end
section
set_option maxRecDepth 20000
namespace Go.Proofs.YtlflclfhldghbaaGreatDoor.Fs
open Go Go.Proofs.YtlflclfhldghbaaGreatDoor.Ls P
noncomputable section
def Rolled (l m : LoanT) (i : Int) : Prop :=
  Lday m = Lday l + i ∧ Lterms m = Lterms l ∧ N m 1 = N l 1 ∧ Lcarry m = (N l 1 * (Lterms l).2.2.1 * i + Lcarry l) % 3650000 ∧
  N m 2 = N l 2 + (N l 1 * (Lterms l).2.2.1 * i + Lcarry l) / 3650000 ∧ N m 5 + N m 7 = N l 5 + N l 7 - (N l 1 * (Lterms l).2.2.1 * i + Lcarry l) / 3650000
theorem rolled0 {l : LoanT} (hS : SI l) : Rolled l l 0 := by
  obtain ⟨a, b, c, d, e, e2⟩ := hS
  unfold Rolled
  rw [Int.mul_zero, Int.zero_add]
  refine ⟨by omega, rfl, rfl, by omega, by omega, by omega⟩
theorem rolled1 {p plan l m x} {i : Int} (hS : SI m) (hR : lOver m = true ∨ (Rolled l m i ∧ Lday l + i ≤ 9223372036854775807)) (h : sRoll p plan m = .ok x) : lOver x.1 = true ∨ (Rolled l x.1 (i + 1) ∧ Lday l + (i + 1) ≤ 9223372036854775807) := by
  cases ho : lOver x.1
  · right
    obtain ⟨r1, r2, r3, r4, r5, r6, r7, r8, r9⟩ := roll_step hS h ho
    rcases hR with hR | hR
    · rw [r1] at hR; cases hR
    obtain ⟨⟨q1, q2, q3, q4, q5, q6⟩, q7⟩ := hR
    refine ⟨?_, by omega⟩
    rw [span_eq r6] at r7 r8 r9
    rw [q2, q3, Int.mul_one] at r7 r8 r9
    simp only [] at r7 r8 r9
    unfold Rolled
    rw [Int.mul_add, Int.mul_one]
    generalize N l 1 * (Lterms l).2.2.1 * i = T at *
    generalize N l 1 * (Lterms l).2.2.1 = Pp at *
    rw [q4] at r7 r8 r9
    refine ⟨by omega, r4.trans q2, r5.trans q3, ?_, ?_, ?_⟩
    · rw [r7]; omega
    · rw [r8, q5]; omega
    · rw [r9, q6]; omega
  · exact .inl rfl
theorem bself (x : Int) : (x == x) = true := by simp
theorem earn {a b c d e : Int} (h : a + b = c + d - e) (h1 : 0 ≤ e) (h2 : e ≤ 9223372036854775807) : W (W (0 - W (a - c)) - W (b - d)) = e := by
  unfold W
  rw [iw, iw, iw, iw]
  omega
theorem nets {b : BookT} (h : bookOk b) : 0 ≤ net b 1 ∧ 0 ≤ net b 2 ∧ net b 2 ≤ 9223372036854775807 ∧ net b 1 ≤ 9223372036854775807 := by
  have := bR h; omega
set_option maxHeartbeats 1000000 in
theorem fin_ok {l m : LoanT} {d : Nat} (hd : d ≤ 400) (hS : SI l) (hb : bookOk (Lbook l)) (hbm : bookOk (Lbook m)) (hR : Rolled l m (d : Int)) (hday : Lday l + d ≤ 9223372036854775807) :
    sSpan (N l 1) (Lterms l).2.2.1 (Lcarry l) (d : Int) = (W (N m 2 - N l 2), Lcarry m, true, ()) ∧
    W (W (0 - W (N m 5 - N l 5)) - W (N m 7 - N l 7)) = W (N m 2 - N l 2) ∧ Lday m = W (Lday l + d) := by
  obtain ⟨q1, q2, q3, q4, q5, q6⟩ := hR
  obtain ⟨a, b, c, e, f, f2⟩ := hS
  obtain ⟨b1, b2, b3, b4⟩ := nets hb
  obtain ⟨m1, m2, m3, m4⟩ := nets hbm
  change 0 ≤ N l 1 at b1; change 0 ≤ N l 2 at b2; change N m 2 ≤ _ at m3
  have hQ : N l 1 * ((Lterms l).2.2.1 * (d : Int)) = N l 1 * (Lterms l).2.2.1 * (d : Int) := (Int.mul_assoc _ _ _).symm
  have hT0 : 0 ≤ N l 1 * (Lterms l).2.2.1 * (d : Int) := Int.mul_nonneg (Int.mul_nonneg b1 a) (by omega)
  have hc : (N l 1 * (Lterms l).2.2.1 * (d : Int) + Lcarry l) / 3650000 = N m 2 - N l 2 := by omega
  have hc0 : 0 ≤ N m 2 - N l 2 := by
    rw [← hc]; exact Int.ediv_nonneg (by omega) (by omega)
  have hW : W (N m 2 - N l 2) = N m 2 - N l 2 := by unfold W; exact w64 (by omega) (by omega)
  have may := span_may (pr := N l 1) (rate := (Lterms l).2.2.1) (c := Lcarry l) (d := (d : Int)) b1 a b c e (by omega) (by omega) (by rw [hQ, hc]; omega)
  refine ⟨?_, ?_, ?_⟩
  · rw [span_eq may, hQ, hW, hc, q4]
  · rw [hW]
    rw [hc] at q6
    exact earn q6 hc0 (by omega)
  · rw [q1]
    have hx : W (Lday l + (d : Int)) = Lday l + (d : Int) := by unfold W; exact w64 (by omega) (by omega)
    exact hx.symm
theorem chargeL_err {p plan} : ∀ (rows : List Int) {l nn e}, sChargeL p plan l nn rows = .error e → e ≠ 0
  | [], l, nn, e, h => by cases h
  | i :: r, l, nn, e, h => by
    unfold sChargeL at h
    split at h
    · exact chargeL_err r h
    · split at h
      · rename_i hm; cases h; exact play_err hm
      · split at h
        · rename_i hm; cases h; exact sMove_err hm
        · exact chargeL_err r h
theorem charge_err {p plan l nn e} (h : sCharge p plan l nn = .error e) : e ≠ 0 := by
  unfold sCharge at h
  split at h
  · cases h
  · exact chargeL_err _ h
theorem accrue_err {l d e} (h : sAccrue l d = .error e) : e ≠ 0 := by
  unfold sAccrue at h
  split at h
  · cases h
  split at h
  · cases h; omega
  split at h
  · rename_i hm; cases h; exact sMove_err hm
  · cases h
theorem roll_err {p plan l e} (h : sRoll p plan l = .error e) : e ≠ 0 := by
  unfold sRoll at h
  split at h
  · cases h; omega
  split at h
  · rename_i hm; cases h; exact accrue_err hm
  split at h
  · cases h
  split at h
  · rename_i hm; cases h; exact play_err hm
  split at h
  · rename_i hm; cases h; exact charge_err hm
  · cases h
set_option maxHeartbeats 1000000 in
theorem L71 (p : PolT) (p0 : List Int) (script : List OpT) (l : LoanT) (l_r : List RowT) (d : Nat) (hd : d ≤ 400) (hc : (chk p p0).1 = 0) (hS : SI l) (hb : bookOk (Lbook l)) : ∀ (n k i : Nat) (m : LoanT) (m_r : List RowT), n < k → i + n = d → LI m m_r → SI m → (lOver m = true ∨ (Rolled l m (i : Int) ∧ Lday l + i ≤ 9223372036854775807)) →
    L_loanInterest_7_1 k (((d : Int), (), (), (), (i : Int), ()), (p0, script, p, l, m, l_r, m_r, ())) = ⟨true, false, true, ((), (), ()), ()⟩
  | n, 0, i, m, m_r, hk, hn, hI, hSm, hR => by omega
  | 0, k + 1, i, m, m_r, hk, hn, hI, hSm, hR => by
    obtain rfl : i = d := by omega
    rw [L_loanInterest_7_1_eq, works]
    have hlt : decide ((i : Int) < (i : Int)) = false := decide_eq_false (by omega)
    have hsp := span (pr := N l 1) (rate := (Lterms l).2.2.1) (carry := Lcarry l) (days := (i : Int)) (nets hb).2.2.2
    cases ho : lOver m with
    | true =>
      have ho' : (bif m.2.2.2.2.1.1 == 8 then true else m.2.2.2.2.1.1 == 9) = true := by rw [cor]; exact ho
      simp only [hlt, cff, ctt, ho', csame, tand]
    | false =>
      have ho' : (bif m.2.2.2.2.1.1 == 8 then true else m.2.2.2.2.1.1 == 9) = false := by rw [cor]; exact ho
      obtain ⟨hR1, hR2⟩ := hR.resolve_left (by rw [ho]; simp)
      obtain ⟨f1, f2, f3⟩ := fin_ok hd hS hb hI.1 hR1 hR2
      rw [f1] at hsp
      have h1 : F_span (l.2.2.2.1.1.2.1, l.2.1.2.2.1, l.2.2.2.2.2.2.1, (i : Int), ()) () = ⟨true, false, (IntKind.i64.wrap (m.2.2.2.1.1.2.2.1 - l.2.2.2.1.1.2.2.1), m.2.2.2.2.2.2.1, true, ()), (), ()⟩ := hsp
      have h2 : IntKind.i64.wrap (IntKind.i64.wrap (0 - IntKind.i64.wrap (m.2.2.2.1.1.2.2.2.2.2.1 - l.2.2.2.1.1.2.2.2.2.2.1)) - IntKind.i64.wrap (m.2.2.2.1.1.2.2.2.2.2.2.2.1 - l.2.2.2.1.1.2.2.2.2.2.2.2.1)) = IntKind.i64.wrap (m.2.2.2.1.1.2.2.1 - l.2.2.2.1.1.2.2.1) := f2
      have h3 : m.2.2.2.2.2.1 = IntKind.i64.wrap (l.2.2.2.2.2.1 + (i : Int)) := f3
      simp only [hlt, cff, ctt, ho', csame, tand, h1, tn2, tn5, tn7, gd2, gd5, gd7, ln12, dz2, dz5, dz7, nb2, nb5, nb7, andt, Bool.and_self, beq_self_eq_true, h2]
      rw [h3, bself]
  | n + 1, k + 1, i, m, m_r, hk, hn, hI, hSm, hR => by
    rw [L_loanInterest_7_1_eq, works]
    have hro := roll p p0 m m_r hI
    rw [wk_of hc] at hro
    have hlt : decide ((i : Int) < (d : Int)) = true := decide_eq_true (by omega)
    cases hr : sRoll p m_r m with
    | error e =>
      have he := roll_err hr
      rw [hr] at hro
      simp only [cret, cplan, cnote] at hro
      simp only [hro, hlt, ctt, show (e != 0) = true from by simpa using he, tand]
    | ok x =>
      have hI2 := roll_LI hI x hr
      have hS2 := roll_S hSm x hr
      have hR2 := rolled1 (l := l) (i := (i : Int)) hSm hR hr
      rw [hr] at hro
      obtain ⟨m', q, plan', nn⟩ := x
      simp only [cret, cplan, cnote] at hro
      simp only [] at hI2 hS2 hR2
      simp only [hro, hlt, ctt, cff, show ((0 : Int) != 0) = false from rfl, tand, wN (show i ≤ 10000000 by omega)]
      refine (reta _).trans ?_
      refine L71 p p0 script l l_r d hd hc hS hb n k (i + 1) m' plan' (by omega) (by omega) hI2 hS2 ?_
      rw [Int.natCast_add]
      exact hR2
end
end Go.Proofs.YtlflclfhldghbaaGreatDoor.Fs
end
section
set_option maxRecDepth 20000
namespace Go.Proofs.YtlflclfhldghbaaGreatDoor.Fs
open Go Go.Proofs.YtlflclfhldghbaaGreatDoor.Ls P
noncomputable section
theorem L7i (k : Nat) (days i : Int) (p0 : List Int) (script : List OpT) (p : PolT) (l m : LoanT) (l_r : List RowT) :
    L_loanInterest_7 (k + 1) ((days, (), (), (), i, ()), (p0, script, p, l, m, l_r, ())) = L_loanInterest_7_1 (k + 1) ((days, (), (), (), i, ()), (p0, script, p, l, m, l_r, l_r, ())) := by
  rw [L_loanInterest_7_eq, L_loanInterest_7_1_eq]
set_option maxHeartbeats 1000000 in
theorem loanInterest (p : PolT) (p0 : List Int) (id : Int) (t : TermsT) (script : List OpT) (days : Int) (hs : ∀ o ∈ script, opA o) (ha : days ≤ 9223372036854775807) :
    F_loanInterest (p, id, t, (), days, ()) (p0, script, ()) = ⟨true, false, true, ((), (), ()), ()⟩ := by
  obtain ⟨h3, hI⟩ := lived p p0 id t script hs
  rw [F_loanInterest_eq, works]
  have hk : k_loanInterest (p, id, t, (), days, ()) (p0, script, ()) = 999 + 1 := rfl
  rw [hk]
  cases hr : sLived p p0 id t script with
  | none =>
    rw [hr] at h3
    simp only [livedR] at h3
    simp only [h3, Bool.not_false, ctt, tand, csame]
  | some s =>
    have hIl := hI s hr
    rw [hr] at h3
    obtain ⟨l, plan⟩ := s
    simp only [livedR] at h3 hIl
    have hS : SI l ∧ (chk p p0).1 = 0 := by
      unfold sLived at hr
      split at hr
      · cases hr
      · rename_i x hx
        obtain ⟨hop, hc⟩ := wk_ok hx
        injection hr with hr
        have := steps_S (p := p) (p0 := p0) (script.take 300) (x.1, x.2.2.1) (open_S x hop)
        rw [hr] at this
        exact ⟨this, hc⟩
    by_cases c1 : days < 0
    · simp only [h3, Bool.not_true, cff, ctt, decide_eq_true c1, tand, csame]
    by_cases c2 : days > 400
    · simp only [h3, Bool.not_true, cff, ctt, decide_eq_false c1, decide_eq_true c2, tand, csame]
    cases ho : lOver l with
    | true =>
      have ho' : (bif l.2.2.2.2.1.1 == 8 then true else l.2.2.2.2.1.1 == 9) = true := by rw [cor]; exact ho
      simp only [h3, Bool.not_true, cff, ctt, decide_eq_false c1, decide_eq_false c2, ho', tand, csame]
    | false =>
      have ho' : (bif l.2.2.2.2.1.1 == 8 then true else l.2.2.2.2.1.1 == 9) = false := by rw [cor]; exact ho
      obtain ⟨d, rfl⟩ : ∃ d : Nat, days = (d : Int) := ⟨days.toNat, by omega⟩
      have h0 := L71 p p0 script l plan d (by omega) hS.2 hS.1 hIl.1 d 1000 0 l plan (by omega) (by omega) hIl hS.1 (.inr ⟨by simpa using rolled0 hS.1, by have := hS.1.2.2.2.2.2; simpa using this⟩)
      have h1 := (L7i 999 (d : Int) 0 p0 script p l l plan).trans h0
      simp only [h3, Bool.not_true, cff, ctt, decide_eq_false c1, decide_eq_false c2, ho', tand, csame, h1]
end
end Go.Proofs.YtlflclfhldghbaaGreatDoor.Fs
end
section
namespace Go.Proofs.YtlflclfhldghbaaGreatDoor.Fs
open Go Go.Proofs.YtlflclfhldghbaaGreatDoor.Ls P Go.Joins Go.ChangeShapes Go.WideShapes Go.RowKit Go.Deep
theorem cell_block {W : World} {a : Addr} {v : Value} (h : W.cell? a = some v) : a.spot = none ∧ ∃ c t fr, W.heap[a.block]? = some (.cells c t fr) ∧ c[a.off]? = some v := by
  have hsp := World.cell?_spot h
  refine ⟨hsp, ?_⟩
  unfold World.cell? at h
  split at h <;> simp_all
def RowIn (W : World) (A : Option Addr) (c : Nat) (e : TypeId) (xs : List (TT e).ty) : Prop :=
  xs.length ≤ c ∧ (c ≠ 0 → ∃ (b o : Nat) (cs : Array Value) (t : TypeId) (fr : Nat × Nat), A = some ⟨b, o, none⟩ ∧ W.heap[b]? = some (.cells cs t fr) ∧ o + xs.length * (TT e).size ≤ cs.size ∧ ∀ (i : Nat) (v : Value), (encAll (TT e) xs)[i]? = some v → cs[o + i]? = some v)
theorem list_of {α : Type} (P : Nat → α → Prop) (n : Nat) (h : ∀ i, i < n → ∃ x, P i x) : ∃ l : List α, l.length = n ∧ ∀ j p, l[j]? = some p → P j p := by
  induction n with
  | zero => exact ⟨[], rfl, fun j p hp => by simp at hp⟩
  | succ n ih =>
    obtain ⟨l, hl, hp⟩ := ih (fun i hi => h i (by omega))
    obtain ⟨x, hx⟩ := h n (by omega)
    refine ⟨l ++ [x], by simp [hl], fun j p hj => ?_⟩
    by_cases hjn : j < n
    · rw [List.getElem?_append_left (by omega)] at hj; exact hp j p hj
    · have hj' := hj
      have : j < (l ++ [x]).length := (List.getElem?_eq_some_iff.1 hj').1
      have hjn' : j = n := by simp [hl] at this; omega
      subst hjn'
      rw [List.getElem?_append_right (by omega), hl] at hj
      simp at hj
      exact hj ▸ hx
section
variable {H : Type} {enc : TypeId × Value → H} {P : Program} {w : World} {base : Nat} {spare : Nat → Bool} {held : Bool}
theorem open_fields {r : Reach} {b0 : Nat} {t : TypeId} {fs : Array Field} {v : Value} {d : DataW H} {p : List MemPlace} (hs : P.underlying t = some (.struct fs)) (hone : oneCellFields P fs = true) (hC : P.cellsOf t = fs.size)
    (hv : Value.okWide P w r b0 t v) (h : DataW.Trod enc P w base (fun _ => true) held t v d p) :
    ∃ (cs : Array Value) (ys : List (DataW H × List MemPlace)) (n : Nat), v = .agg cs ∧ cs.size = fs.size ∧ d = .agg (ys.map (·.1)) ∧ ys.length = fs.size ∧
      ∀ (j : Nat) (f : Field), fs[j]? = some f → ∃ (c : Value) (y : DataW H × List MemPlace), cs[j]? = some c ∧ ys[j]? = some y ∧ DataW.trod enc P w base (fun _ => true) held n f.type [c] = some y := by
  obtain ⟨cs, rfl, hsz⟩ := okWide_struct hs hv
  obtain ⟨fuel, hf⟩ := h
  obtain ⟨ys, n, _, hx, hlen, hyl, hat⟩ := DataW.trod_struct hs hf
  simp only [Prod.mk.injEq] at hx
  refine ⟨cs, ys, n, rfl, hsz.trans hC, hx.1, hyl, fun j f hj => ?_⟩
  obtain ⟨ho, hk⟩ := hone_of hone j f hj
  have hjl : j < fs.size := (Array.getElem?_eq_some_iff.1 hj).1
  have hjc : j < cs.size := by rw [hsz, hC]; exact hjl
  have h1 := hat j f hj
  rw [ho, hk] at h1
  have hys : ys[j]? = some (ys[j]'(by omega)) := List.getElem?_eq_getElem (by omega)
  refine ⟨cs[j], ys[j]'(by omega), by simp [hjc], hys, ?_⟩
  rw [← hys, ← h1]
  congr 1
  have hl : (Value.agg cs).cells.toList = cs.toList := rfl
  rw [hl, List.drop_eq_getElem_cons (by simpa using hjc)]
  simp
theorem open_slice_fields {t e : TypeId} {fs : Array Field} {fuel : Nat} {cs : List Value} {x : DataW H × List MemPlace} (ht : P.underlying t = some (.slice e)) (he : P.underlying e = some (.struct fs))
    (hone : oneCellFields P fs = true) (hC : P.cellsOf e = fs.size) (h : DataW.trod enc P w base spare held fuel t cs = some x) :
    (cs = [.slice none 0 0]) ∨
    ∃ (a : Addr) (len cap m : Nat), cs = [.slice (some a) len cap] ∧ len ≤ cap ∧ m = (if spare a.block then cap else len) ∧
      ∀ i, i < m → ∃ (ys : List (DataW H × List MemPlace)) (n : Nat), ys.length = fs.size ∧
        ∀ (j : Nat) (f : Field), fs[j]? = some f → ∃ (v : Value) (y : DataW H × List MemPlace), w.cell? (a.add (i * fs.size + j)) = some v ∧ ys[j]? = some y ∧ DataW.trod enc P w base spare held n f.type [v] = some y := by
  rcases open_slice ht h with h0 | ⟨a, len, cap, m, n, D, Pl, hcs, hb, hl, hm, hmm, hx, hi⟩
  · exact .inl h0.1
  · refine .inr ⟨a, len, cap, m, hcs, hl, hmm, fun i him => ?_⟩
    obtain ⟨cs', hc, ht'⟩ := hi i him
    rw [hC] at hc
    obtain ⟨ys, n', hn', hy, hlen, hyl, hf⟩ := DataW.trod_struct he ht'
    obtain ⟨_, hcl, hat⟩ := World.cells?_some hc
    refine ⟨ys, n', hyl, fun j f hj => ?_⟩
    obtain ⟨ho, hk⟩ := hone_of hone j f hj
    have hjl : j < fs.size := (Array.getElem?_eq_some_iff.1 hj).1
    have hcell := hat j hjl
    have hv : cs'[j]? = some (cs'[j]'(by omega)) := List.getElem?_eq_getElem (by omega)
    have h1 := hf j f hj
    rw [ho, hk] at h1
    have hone' : (cs'.drop j).take 1 = [cs'[j]'(by omega)] := by
      rw [List.drop_eq_getElem_cons (by omega)]
      rfl
    rw [hone'] at h1
    have hys : ys[j]? = some (ys[j]'(by omega)) := List.getElem?_eq_getElem (by omega)
    refine ⟨_, _, ?_, hys, h1.trans hys⟩
    rw [← Go.Deep.add_add, hcell, hv]
end
theorem encAll3 : ∀ (s : List Int), encAll (TT 3) s = s.map (Value.int .i64)
  | [] => rfl
  | x :: r => by
    show Value.int .i64 x :: encAll (TT 3) r = _
    rw [encAll3 r]; rfl
theorem row_in {H : Type} {enc : TypeId × Value → H} {W : World} {base fuel : Nat} {held : Bool} {c0 : Value} {y : DataW H × List MemPlace} (h : DataW.trod enc Tryz.prog W base (fun _ => true) held fuel 22 [c0] = some y) :
    ∃ (A : Option Addr) (c : Nat) (s : List Int), c0 = .slice A s.length c ∧ RowIn W A c 3 s := by
  rcases open_ints Tryz.underlying22 Tryz.underlying3 (by kernel_rfl) h with ⟨hcs, _⟩ | ⟨a, len, cap, zs, hcs, _, hl, _, hz, hx, hcell, _⟩
  · simp only [List.cons.injEq, and_true] at hcs
    subst hcs
    exact ⟨none, 0, [], rfl, ⟨Nat.le_refl _, fun h => absurd rfl h⟩⟩
  · simp only [List.cons.injEq, and_true] at hcs
    subst hcs
    simp only [if_true] at hz
    have hln : (zs.take len).length = len := by rw [List.length_take]; omega
    refine ⟨some a, cap, zs.take len, by rw [hln], ⟨by omega, fun hc => ?_⟩⟩
    obtain ⟨b, off, sp⟩ := a
    have hsp : sp = none := by
      have := (cell_block (hcell 0 (by omega))).1
      cases sp with
      | none => rfl
      | some x => cases this
    subst hsp
    have hc0 := hcell 0 (by omega)
    rw [Addr.add_lit] at hc0
    obtain ⟨_, cs, t, fr, hb, _⟩ := cell_block hc0
    have hb : W.heap[b]? = some (.cells cs t fr) := hb
    have hat : ∀ i, i < zs.length → cs[off + i]? = some (.int .i64 (zs.getD i 0)) := by
      intro i hi
      have hci := hcell i hi
      rw [Addr.add_lit] at hci
      obtain ⟨_, cs', t', fr', hb', hc'⟩ := cell_block hci
      have hb2 : W.heap[b]? = some (.cells cs' t' fr') := hb'
      rw [hb] at hb2
      cases hb2
      exact hc'
    refine ⟨b, off, cs, t, fr, rfl, hb, ?_, fun i v hi => ?_⟩
    · show off + (zs.take len).length * 1 ≤ cs.size
      rw [hln]
      have := hat (zs.length - 1) (by omega)
      have := (Array.getElem?_eq_some_iff.1 this).1
      omega
    · rw [encAll3, List.getElem?_map] at hi
      cases hz : (zs.take len)[i]? with
      | none => rw [hz] at hi; cases hi
      | some z =>
        rw [hz] at hi; cases hi
        have hil : i < len := by have := (List.getElem?_eq_some_iff.1 hz).1; omega
        rw [List.getElem?_take_of_lt hil] at hz
        rw [hat i (by omega), List.getD_eq_getElem?_getD, hz]
        rfl
theorem int_in {H : Type} {enc : TypeId × Value → H} {W : World} {base fuel : Nat} {held : Bool} {t : TypeId} {c0 : Value} {y : DataW H × List MemPlace} (ht : Tryz.prog.underlying t = some (.int .i64)) (h : DataW.trod enc Tryz.prog W base (fun _ => true) held fuel t [c0] = some y) : ∃ z, c0 = .int .i64 z ∧ z ≤ 9223372036854775807 := by
  obtain ⟨z, e, _, hw⟩ := DataW.trod_int ht h
  simp only [List.cons.injEq, and_true] at e
  refine ⟨z, e, ?_⟩
  unfold Lit.wf at hw
  simp only [Bool.and_eq_true, decide_eq_true_eq] at hw
  exact hw.2
theorem enc59 (cs : Array Value) : ∀ (xs : List OpT) (o : Nat), (∀ j p, xs[j]? = some p → cs[o + (j * 5 + 0)]? = some (.int .i64 p.1) ∧ cs[o + (j * 5 + 1)]? = some (.int .i64 p.2.1) ∧ cs[o + (j * 5 + 2)]? = some (.int .i64 p.2.2.1) ∧ cs[o + (j * 5 + 3)]? = some (.int .i64 p.2.2.2.1) ∧ cs[o + (j * 5 + 4)]? = some (.int .i64 p.2.2.2.2.1)) →
    ∀ i v, (encAll (TT 59) xs)[i]? = some v → cs[o + i]? = some v
  | [], o, h, i, v, hv => by simp [encAll] at hv
  | x :: r, o, h, i, v, hv => by
    have e : encAll (TT 59) (x :: r) = .int .i64 x.1 :: .int .i64 x.2.1 :: .int .i64 x.2.2.1 :: .int .i64 x.2.2.2.1 :: .int .i64 x.2.2.2.2.1 :: encAll (TT 59) r := rfl
    rw [e] at hv
    obtain ⟨a0, a1, a2, a3, a4⟩ := h 0 x rfl
    match i, hv with
    | 0, hv => cases hv; exact a0
    | 1, hv => cases hv; exact a1
    | 2, hv => cases hv; exact a2
    | 3, hv => cases hv; exact a3
    | 4, hv => cases hv; exact a4
    | i + 5, hv =>
      have := enc59 cs r (o + 5) (fun j p hj => by
        have := h (j + 1) p (by simpa using hj)
        rw [show o + 5 + (j * 5 + 0) = o + ((j + 1) * 5 + 0) by omega, show o + 5 + (j * 5 + 1) = o + ((j + 1) * 5 + 1) by omega, show o + 5 + (j * 5 + 2) = o + ((j + 1) * 5 + 2) by omega, show o + 5 + (j * 5 + 3) = o + ((j + 1) * 5 + 3) by omega, show o + 5 + (j * 5 + 4) = o + ((j + 1) * 5 + 4) by omega]
        exact this) i v hv
      rw [show o + (i + 5) = o + 5 + i by omega]
      exact this
set_option maxRecDepth 100000 in
theorem open_script {H : Type} {enc : TypeId × Value → H} {W : World} {base b0 : Nat} {r : Reach} {v : Value} {d : DataW H} {p : List MemPlace}
    (hv : Value.okWide Tryz.prog W r b0 27 v) (h : DataW.Trod enc Tryz.prog W base (fun _ => true) true 27 v d p) :
    ∃ (A : Option Addr) (c : Nat) (xs : List OpT), v = .slice A xs.length c ∧ RowIn W A c 59 xs ∧ ∀ o ∈ xs, opA o := by
  obtain ⟨a0, len0, cap0, rfl⟩ := okWide_slice Tryz.underlying27 hv
  obtain ⟨fuel, hf⟩ := h
  rcases open_slice_fields Tryz.underlying27 Tryz.underlying59 (by kernel_rfl) (by kernel_rfl) hf with hcs | ⟨a, len, cap, m, hcs, hl, hmm, hi⟩
  · simp [Value.cells] at hcs
    obtain ⟨rfl, rfl, rfl⟩ := hcs
    exact ⟨none, 0, [], rfl, ⟨Nat.le_refl _, fun h => absurd rfl h⟩, fun o ho => by cases ho⟩
  · simp [Value.cells] at hcs
    obtain ⟨rfl, rfl, rfl⟩ := hcs
    simp only [if_true] at hmm
    have hx : ∀ i, i < cap0 → ∃ x : OpT, (W.cell? (a.add (i * 5 + 0)) = some (.int .i64 x.1) ∧ W.cell? (a.add (i * 5 + 1)) = some (.int .i64 x.2.1) ∧ W.cell? (a.add (i * 5 + 2)) = some (.int .i64 x.2.2.1) ∧ W.cell? (a.add (i * 5 + 3)) = some (.int .i64 x.2.2.2.1) ∧ W.cell? (a.add (i * 5 + 4)) = some (.int .i64 x.2.2.2.2.1)) ∧ opA x := by
      intro i hil
      obtain ⟨ys, n', _, hf⟩ := hi i (by omega)
      obtain ⟨u0, w0, c0, _, k0⟩ := hf 0 _ rfl
      obtain ⟨u1, w1, c1, _, k1⟩ := hf 1 _ rfl
      obtain ⟨u2, w2, c2, _, k2⟩ := hf 2 _ rfl
      obtain ⟨u3, w3, c3, _, k3⟩ := hf 3 _ rfl
      obtain ⟨u4, w4, c4, _, k4⟩ := hf 4 _ rfl
      obtain ⟨x0, rfl, _⟩ := int_in (by first | exact Tryz.underlying3 | exact Tryz.underlying2) k0
      obtain ⟨x1, rfl, hx1⟩ := int_in (by first | exact Tryz.underlying3 | exact Tryz.underlying2) k1
      obtain ⟨x2, rfl, _⟩ := int_in (by first | exact Tryz.underlying3 | exact Tryz.underlying2) k2
      obtain ⟨x3, rfl, _⟩ := int_in (by first | exact Tryz.underlying3 | exact Tryz.underlying2) k3
      obtain ⟨x4, rfl, _⟩ := int_in (by first | exact Tryz.underlying3 | exact Tryz.underlying2) k4
      exact ⟨(x0, x1, x2, x3, x4, ()), ⟨c0, c1, c2, c3, c4⟩, hx1⟩
    obtain ⟨l, hll, hp⟩ := list_of (fun i (x : OpT) => (W.cell? (a.add (i * 5 + 0)) = some (.int .i64 x.1) ∧ W.cell? (a.add (i * 5 + 1)) = some (.int .i64 x.2.1) ∧ W.cell? (a.add (i * 5 + 2)) = some (.int .i64 x.2.2.1) ∧ W.cell? (a.add (i * 5 + 3)) = some (.int .i64 x.2.2.2.1) ∧ W.cell? (a.add (i * 5 + 4)) = some (.int .i64 x.2.2.2.2.1)) ∧ opA x) len0 (fun i hi => hx i (by omega))
    subst hll
    refine ⟨some a, cap0, l, rfl, ⟨hl, fun hc => ?_⟩, fun o ho => ?_⟩
    · obtain ⟨y, hy, _⟩ := hx 0 (by omega)
      obtain ⟨b, off, sp⟩ := a
      have hsp : sp = none := by
        have := (cell_block hy.1).1
        cases sp with
        | none => rfl
        | some x => cases this
      subst hsp
      have hc0 := hy.1
      rw [Addr.add_lit] at hc0
      obtain ⟨_, cs, t, fr, hb, _⟩ := cell_block hc0
      have hb : W.heap[b]? = some (.cells cs t fr) := hb
      have at_ : ∀ {k : Nat} {z : Value}, W.cell? (Addr.add ⟨b, off, none⟩ k) = some z → cs[off + k]? = some z := by
        intro k z hk
        rw [Addr.add_lit] at hk
        obtain ⟨_, cs', t', fr', hb', hc'⟩ := cell_block hk
        have hb2 : W.heap[b]? = some (.cells cs' t' fr') := hb'
        rw [hb] at hb2
        cases hb2
        exact hc'
      refine ⟨b, off, cs, t, fr, rfl, hb, ?_, enc59 cs l off (fun j q hj => ?_)⟩
      · show off + l.length * 5 ≤ cs.size
        by_cases hz : l.length = 0
        · have := (Array.getElem?_eq_some_iff.1 (at_ hy.1)).1
          omega
        · obtain ⟨y', hy', _⟩ := hx (l.length - 1) (by omega)
          have := (Array.getElem?_eq_some_iff.1 (at_ hy'.2.2.2.2)).1
          omega
      · obtain ⟨⟨d0, d1, d2, d3, d4⟩, _⟩ := hp j q hj
        exact ⟨at_ d0, at_ d1, at_ d2, at_ d3, at_ d4⟩
    · obtain ⟨j, hj⟩ := List.mem_iff_getElem?.1 ho
      exact (hp j o hj).2
set_option maxRecDepth 100000 in
theorem open_policy {H : Type} {enc : TypeId × Value → H} {W : World} {base b0 : Nat} {r : Reach} {v : Value} {d : DataW H} {p : List MemPlace}
    (hv : Value.okWide Tryz.prog W r b0 24 v) (h : DataW.Trod enc Tryz.prog W base (fun _ => true) true 24 v d p) :
    ∃ (f1 f2 f3 f4 f5 f6 f7 f8 f9 f10 f11 f12 f13 f14 f15 f16 f17 : Int) (A : Option Addr) (c : Nat) (s : List Int), v = .agg #[.int .i64 f1, .int .i64 f2, .int .i64 f3, .int .i64 f4, .int .i64 f5, .int .i64 f6, .int .i64 f7, .int .i64 f8, .int .i64 f9, .int .i64 f10, .int .i64 f11, .int .i64 f12, .int .i64 f13, .int .i64 f14, .int .i64 f15, .int .i64 f16, .int .i64 f17, .slice A s.length c] ∧ RowIn W A c 3 s := by
  obtain ⟨cs, ys, n, rfl, hsz, rfl, hyl, hat⟩ := open_fields Tryz.underlying24 (by kernel_rfl) (by kernel_rfl) hv h
  obtain ⟨c0, _, e0, _, k0⟩ := hat 0 _ rfl
  obtain ⟨z0, rfl, hz0⟩ := int_in (by first | exact Tryz.underlying3 | exact Tryz.underlying2) k0
  obtain ⟨c1, _, e1, _, k1⟩ := hat 1 _ rfl
  obtain ⟨z1, rfl, hz1⟩ := int_in (by first | exact Tryz.underlying3 | exact Tryz.underlying2) k1
  obtain ⟨c2, _, e2, _, k2⟩ := hat 2 _ rfl
  obtain ⟨z2, rfl, hz2⟩ := int_in (by first | exact Tryz.underlying3 | exact Tryz.underlying2) k2
  obtain ⟨c3, _, e3, _, k3⟩ := hat 3 _ rfl
  obtain ⟨z3, rfl, hz3⟩ := int_in (by first | exact Tryz.underlying3 | exact Tryz.underlying2) k3
  obtain ⟨c4, _, e4, _, k4⟩ := hat 4 _ rfl
  obtain ⟨z4, rfl, hz4⟩ := int_in (by first | exact Tryz.underlying3 | exact Tryz.underlying2) k4
  obtain ⟨c5, _, e5, _, k5⟩ := hat 5 _ rfl
  obtain ⟨z5, rfl, hz5⟩ := int_in (by first | exact Tryz.underlying3 | exact Tryz.underlying2) k5
  obtain ⟨c6, _, e6, _, k6⟩ := hat 6 _ rfl
  obtain ⟨z6, rfl, hz6⟩ := int_in (by first | exact Tryz.underlying3 | exact Tryz.underlying2) k6
  obtain ⟨c7, _, e7, _, k7⟩ := hat 7 _ rfl
  obtain ⟨z7, rfl, hz7⟩ := int_in (by first | exact Tryz.underlying3 | exact Tryz.underlying2) k7
  obtain ⟨c8, _, e8, _, k8⟩ := hat 8 _ rfl
  obtain ⟨z8, rfl, hz8⟩ := int_in (by first | exact Tryz.underlying3 | exact Tryz.underlying2) k8
  obtain ⟨c9, _, e9, _, k9⟩ := hat 9 _ rfl
  obtain ⟨z9, rfl, hz9⟩ := int_in (by first | exact Tryz.underlying3 | exact Tryz.underlying2) k9
  obtain ⟨c10, _, e10, _, k10⟩ := hat 10 _ rfl
  obtain ⟨z10, rfl, hz10⟩ := int_in (by first | exact Tryz.underlying3 | exact Tryz.underlying2) k10
  obtain ⟨c11, _, e11, _, k11⟩ := hat 11 _ rfl
  obtain ⟨z11, rfl, hz11⟩ := int_in (by first | exact Tryz.underlying3 | exact Tryz.underlying2) k11
  obtain ⟨c12, _, e12, _, k12⟩ := hat 12 _ rfl
  obtain ⟨z12, rfl, hz12⟩ := int_in (by first | exact Tryz.underlying3 | exact Tryz.underlying2) k12
  obtain ⟨c13, _, e13, _, k13⟩ := hat 13 _ rfl
  obtain ⟨z13, rfl, hz13⟩ := int_in (by first | exact Tryz.underlying3 | exact Tryz.underlying2) k13
  obtain ⟨c14, _, e14, _, k14⟩ := hat 14 _ rfl
  obtain ⟨z14, rfl, hz14⟩ := int_in (by first | exact Tryz.underlying3 | exact Tryz.underlying2) k14
  obtain ⟨c15, _, e15, _, k15⟩ := hat 15 _ rfl
  obtain ⟨z15, rfl, hz15⟩ := int_in (by first | exact Tryz.underlying3 | exact Tryz.underlying2) k15
  obtain ⟨c16, _, e16, _, k16⟩ := hat 16 _ rfl
  obtain ⟨z16, rfl, hz16⟩ := int_in (by first | exact Tryz.underlying3 | exact Tryz.underlying2) k16
  obtain ⟨c17, y17, e17, g17, k17⟩ := hat 17 _ rfl
  obtain ⟨A, c, s, rfl, hr⟩ := row_in k17
  refine ⟨z0, z1, z2, z3, z4, z5, z6, z7, z8, z9, z10, z11, z12, z13, z14, z15, z16, A, c, s, ?_, hr⟩
  congr 1
  refine Array.ext (by rw [hsz]; rfl) (fun i h1 h2 => ?_)
  have h2' : i < 18 := h2
  have key : cs[i]? = (#[.int .i64 z0, .int .i64 z1, .int .i64 z2, .int .i64 z3, .int .i64 z4, .int .i64 z5, .int .i64 z6, .int .i64 z7, .int .i64 z8, .int .i64 z9, .int .i64 z10, .int .i64 z11, .int .i64 z12, .int .i64 z13, .int .i64 z14, .int .i64 z15, .int .i64 z16, .slice A s.length c] : Array Value)[i]? := by
    rcases i with _ | _ | _ | _ | _ | _ | _ | _ | _ | _ | _ | _ | _ | _ | _ | _ | _ | _ | i
    · exact e0
    · exact e1
    · exact e2
    · exact e3
    · exact e4
    · exact e5
    · exact e6
    · exact e7
    · exact e8
    · exact e9
    · exact e10
    · exact e11
    · exact e12
    · exact e13
    · exact e14
    · exact e15
    · exact e16
    · exact e17
    · omega
  rw [Array.getElem?_eq_getElem h1, Array.getElem?_eq_getElem h2] at key
  exact Option.some.inj key
set_option maxRecDepth 100000 in
theorem open_terms {H : Type} {enc : TypeId × Value → H} {W : World} {base b0 : Nat} {r : Reach} {v : Value} {d : DataW H} {p : List MemPlace}
    (hv : Value.okWide Tryz.prog W r b0 26 v) (h : DataW.Trod enc Tryz.prog W base (fun _ => true) true 26 v d p) :
    ∃ t1 t2 t3 t4 t5 t6 : Int, v = .agg #[.int .i64 t1, .int .i64 t2, .int .i64 t3, .int .i64 t4, .int .i64 t5, .int .i64 t6] := by
  obtain ⟨cs, ys, n, rfl, hsz, rfl, hyl, hat⟩ := open_fields Tryz.underlying26 (by kernel_rfl) (by kernel_rfl) hv h
  obtain ⟨c0, _, e0, _, k0⟩ := hat 0 _ rfl
  obtain ⟨z0, rfl, hz0⟩ := int_in (by first | exact Tryz.underlying3 | exact Tryz.underlying2) k0
  obtain ⟨c1, _, e1, _, k1⟩ := hat 1 _ rfl
  obtain ⟨z1, rfl, hz1⟩ := int_in (by first | exact Tryz.underlying3 | exact Tryz.underlying2) k1
  obtain ⟨c2, _, e2, _, k2⟩ := hat 2 _ rfl
  obtain ⟨z2, rfl, hz2⟩ := int_in (by first | exact Tryz.underlying3 | exact Tryz.underlying2) k2
  obtain ⟨c3, _, e3, _, k3⟩ := hat 3 _ rfl
  obtain ⟨z3, rfl, hz3⟩ := int_in (by first | exact Tryz.underlying3 | exact Tryz.underlying2) k3
  obtain ⟨c4, _, e4, _, k4⟩ := hat 4 _ rfl
  obtain ⟨z4, rfl, hz4⟩ := int_in (by first | exact Tryz.underlying3 | exact Tryz.underlying2) k4
  obtain ⟨c5, _, e5, _, k5⟩ := hat 5 _ rfl
  obtain ⟨z5, rfl, hz5⟩ := int_in (by first | exact Tryz.underlying3 | exact Tryz.underlying2) k5
  refine ⟨z0, z1, z2, z3, z4, z5, ?_⟩
  congr 1
  refine Array.ext (by rw [hsz]; rfl) (fun i h1 h2 => ?_)
  have h2' : i < 6 := h2
  have key : cs[i]? = (#[.int .i64 z0, .int .i64 z1, .int .i64 z2, .int .i64 z3, .int .i64 z4, .int .i64 z5] : Array Value)[i]? := by
    rcases i with _ | _ | _ | _ | _ | _ | i
    · exact e0
    · exact e1
    · exact e2
    · exact e3
    · exact e4
    · exact e5
    · omega
  rw [Array.getElem?_eq_getElem h1, Array.getElem?_eq_getElem h2] at key
  exact Option.some.inj key
def tabLoc (g : Nat) : Ls.Loc := ⟨g, 0, (if g = 0 then 12 else if g = 3 then 6 else 13), (if g = 3 then 3 else 1), (if g = 0 then 12 else if g = 3 then 6 else 13), false⟩
def E0 (ins : Nat → Ls.Loc) : Emb := fun id => if GB ≤ id then tabLoc (id - GB) else ins id
def locOf (A : Option Addr) (c n es : Nat) : Ls.Loc := match A with
  | some a => ⟨a.block, a.off, c, es, n, false⟩
  | none => ⟨0, 0, 0, es, n, false⟩
def sides : List Int := [1, 1, 1, 1, -1, -1, -1, -1, -1, 1, -1, 1]
def ahead : List Int := [0, 31, 59, 90, 120, 151, 181, 212, 243, 273, 304, 334, 365]
def orders : List T188 := [(3, 2, 1, ()), (3, 1, 2, ()), (2, 3, 1, ()), (2, 1, 3, ()), (1, 3, 2, ()), (1, 2, 3, ())]
def ordersI : List Int := [3, 2, 1, 3, 1, 2, 2, 3, 1, 2, 1, 3, 1, 3, 2, 1, 2, 3]
theorem globs_in {g : Nat} {o : Ob TT} (h : globs g = some o) : (g = 0 ∧ o = .row false 3 sides) ∨ (g = 3 ∧ o = .row false 188 orders) ∨ (g = 4 ∧ o = .row false 3 ahead) := by
  unfold globs at h
  split at h
  · rename_i hg
    cases h
    exact .inr (.inr ⟨Nat.eq_of_beq_eq_true hg, rfl⟩)
  · split at h
    · rename_i hg
      cases h
      exact .inl ⟨Nat.eq_of_beq_eq_true hg, rfl⟩
    · split at h
      · rename_i hg
        cases h
        exact .inr (.inl ⟨Nat.eq_of_beq_eq_true hg, rfl⟩)
      · cases h
theorem tab_cells {W : World} {name : String} {zs : List Int} {g : Nat} (h : Lib.TabIs Tryz.prog W name .i64 zs) (hg : Tryz.prog.globalNamed name = some g) (hne : zs ≠ []) :
    ∃ c t fr, W.heap[g]? = some (.cells c t fr) ∧ zs.length ≤ c.size ∧ ∀ (i : Nat) (z : Int), zs[i]? = some z → c[i]? = some (.int .i64 z) := by
  have hpos : 0 < zs.length := List.length_pos_iff.2 hne
  obtain ⟨_, c, t, fr, hb, _⟩ := cell_block (h.cell hg 0 hpos)
  have hat : ∀ i, i < zs.length → c[i]? = some (.int .i64 (zs.getD i 0)) := by
    intro i hi
    obtain ⟨_, c', t', fr', hb', hc'⟩ := cell_block (h.cell hg i hi)
    have hb2 : W.heap[g]? = some (.cells c' t' fr') := hb'
    have hb1 : W.heap[g]? = some (.cells c t fr) := hb
    rw [hb1] at hb2
    cases hb2
    exact hc'
  refine ⟨c, t, fr, hb, ?_, fun i z hi => ?_⟩
  · have := (Array.getElem?_eq_some_iff.1 (hat (zs.length - 1) (by omega))).1
    omega
  · rw [hat i (List.getElem?_eq_some_iff.1 hi).1, List.getD_eq_getElem?_getD, hi]
    rfl
structure Tabs (W : World) : Prop where
  s : Lib.TabIs Tryz.prog W "arrears/ledger.sides" .i64 sides
  a : Lib.TabIs Tryz.prog W "arrears/calendar.ahead" .i64 ahead
  o : ∃ c t fr, W.heap[3]? = some (.cells c t fr) ∧ 18 ≤ c.size ∧ ∀ (i : Nat) (z : Int), ordersI[i]? = some z → c[i]? = some (.int .i64 z)
set_option maxRecDepth 100000 in
theorem simIn {W : World} {ins : Nat → Ls.Loc} {H : List (Ob TT)} (hle : H.length ≤ GB) (hH : ∀ id o, H[id]? = some o → ∃ e xs A c, o = .row false e xs ∧ (TT e).plain = true ∧ RowIn W A c e xs ∧ ins id = locOf A c xs.length (TT e).size) (ht : Tabs W) :
    Sim globs (E0 ins) H W := by
  have hlo : ∀ id o, lookO globs H id = some o → (id < GB ∧ H[id]? = some o) ∨ (id = GB ∧ o = .row false 3 sides) ∨ (id = GB + 3 ∧ o = .row false 188 orders) ∨ (id = GB + 4 ∧ o = .row false 3 ahead) := by
    intro id o h
    by_cases hg : GB ≤ id
    · rw [lookO_ge hg] at h
      rcases globs_in h with ⟨e, rfl⟩ | ⟨e, rfl⟩ | ⟨e, rfl⟩
      · exact .inr (.inl ⟨by omega, rfl⟩)
      · exact .inr (.inr (.inl ⟨by omega, rfl⟩))
      · exact .inr (.inr (.inr ⟨by omega, rfl⟩))
    · rw [lookO_lt (by omega)] at h
      exact .inl ⟨by omega, h⟩
  have e1 : ∀ k, E0 ins (GB + k) = tabLoc k := fun k => by unfold E0; rw [if_pos (Nat.le_add_right _ _), Nat.add_sub_cancel_left]
  have tabOb : ∀ (g : Nat) (zs : List Int) (nm : String), tabLoc g = ⟨g, 0, zs.length, 1, zs.length, false⟩ → zs ≠ [] → Lib.TabIs Tryz.prog W nm .i64 zs → Tryz.prog.globalNamed nm = some g → ObR (T := TT) (E0 ins) H.length (GB + g) W (.row false 3 zs) := by
    intro g zs nm hE hne ht hg
    obtain ⟨cs, t, fr, q1, q2, q3⟩ := tab_cells ht hg hne
    refine ⟨rfl, by rw [e1, hE]; rfl, by rw [e1, hE], by rw [e1, hE]; exact Nat.le_refl _, .inr ⟨cs, t, fr, by rw [e1, hE]; exact q1, (fun h => by cases h), by rw [e1, hE]; show 0 + zs.length * 1 ≤ cs.size; omega, fun i v hv => ?_⟩⟩
    rw [encAll3, List.getElem?_map] at hv
    cases hz : zs[i]? with
    | none => rw [hz] at hv; cases hv
    | some z => rw [hz] at hv; cases hv; rw [e1, hE]; simpa using q3 i z hz
  have hrw : ∀ j oj, lookO globs H j = some oj → (E0 ins j).rw = false := by
    intro j oj hj
    rcases hlo j oj hj with ⟨hlt, hj⟩ | ⟨rfl, _⟩ | ⟨rfl, _⟩ | ⟨rfl, _⟩
    · obtain ⟨e, xs, A, c, _, _, _, hi⟩ := hH j oj hj
      unfold E0
      rw [if_neg (by omega), hi]
      unfold locOf; cases A <;> rfl
    · rw [show GB = GB + 0 from rfl, e1]; rfl
    · rw [e1]; rfl
    · rw [e1]; rfl
  refine ⟨hle, ?_, ?_, ?_, ?_⟩
  · intro id o h
    rcases hlo id o h with ⟨hlt, hj⟩ | ⟨rfl, rfl⟩ | ⟨rfl, rfl⟩ | ⟨rfl, rfl⟩
    · obtain ⟨e, xs, A, c, rfl, hpl, hr, hi⟩ := hH id o hj
      have hE : E0 ins id = locOf A c xs.length (TT e).size := by unfold E0; rw [if_neg (by omega), hi]
      by_cases hc : c = 0
      · have hx : xs.length = 0 := by have := hr.1; omega
        refine ⟨hpl, ?_, ?_, ?_, .inl ?_⟩ <;> rw [hE] <;> unfold locOf <;> cases A <;> simp only [] <;> first | rfl | omega
      · obtain ⟨b, off, cs, t, fr, rfl, q1, q2, q3⟩ := hr.2 hc
        refine ⟨hpl, by rw [hE]; rfl, by rw [hE]; rfl, by rw [hE]; exact hr.1, .inr ⟨cs, t, fr, by rw [hE]; exact q1, (fun h => by cases h), by rw [hE]; exact q2, fun i v hv => by rw [hE]; exact q3 i v hv⟩⟩
    · exact tabOb 0 sides _ rfl (by decide) ht.s (by kernel_rfl)
    · obtain ⟨cs, t, fr, q1, q2, q3⟩ := ht.o
      refine ⟨rfl, by rw [e1]; rfl, by rw [e1]; rfl, by rw [e1]; exact Nat.le_refl _, .inr ⟨cs, t, fr, by rw [e1]; exact q1, (fun h => by cases h), by rw [e1]; show 0 + 6 * 3 ≤ cs.size; omega, fun i v hv => ?_⟩⟩
      rw [e1]
      have he : encAll (TT 188) orders = ordersI.map (Value.int .i64) := rfl
      rw [he, List.getElem?_map] at hv
      cases hz : ordersI[i]? with
      | none => rw [hz] at hv; cases hv
      | some z => rw [hz] at hv; cases hv; show cs[0 + i]? = _; rw [Nat.zero_add]; exact q3 i z hz
    · exact tabOb 4 ahead _ rfl (by decide) ht.a (by kernel_rfl)
  · intro i j oi oj hij hi hj hsi hsj
    have hr := hrw j oj hj
    rcases hlo j oj hj with ⟨_, hj'⟩ | ⟨_, rfl⟩ | ⟨_, rfl⟩ | ⟨_, rfl⟩
    · obtain ⟨e, xs, A, c, rfl, _⟩ := hH j oj hj'
      have := hsj.2; rw [hr] at this; cases this
    all_goals (have := hsj.2; rw [hr] at this; cases this)
  · intro id hid
    unfold E0; rw [if_pos hid]; exact ⟨rfl, rfl⟩
  · intro g cs h
    rcases globs_in h with ⟨_, h⟩ | ⟨_, h⟩ | ⟨_, h⟩ <;> cases h
theorem slIn {W : World} {ins : Nat → Ls.Loc} {M id c : Nat} {A : Option Addr} {e : TypeId} {xs : List (TT e).ty} (hid : id < GB) (hM : id < M) (hr : RowIn W A c e xs) (hi : ins id = locOf A c xs.length (TT e).size) :
    VR (E0 ins) M (.slice (some ⟨id, 0, none⟩) 0 0) (.slice A xs.length c) := by
  have hE : E0 ins id = locOf A c xs.length (TT e).size := by unfold E0; rw [if_neg (by omega), hi]
  by_cases hc : c = 0
  · have hs0 : xs.length = 0 := by have := hr.1; omega
    rw [hs0, hc]
    exact .wsl0 id A (.inl hM) (by rw [hE]; unfold locOf; cases A <;> exact hs0)
  · obtain ⟨b, off, cs, t, fr, rfl, q1, q2, q3⟩ := hr.2 hc
    have h := VR.wsl (E := E0 ins) (N := M) id c (.inl hM) (by rw [hE]; exact hr.1) (by rw [hE]; exact Nat.le_refl _)
    rw [hE] at h
    exact h
theorem orders_in {W : World} (h : laidMet Tryz.prog [("arrears/waterfall.orders", Rows.laid_arrears_waterfall_orders)] W) :
    ∃ c t fr, W.heap[3]? = some (.cells c t fr) ∧ 18 ≤ c.size ∧ ∀ (i : Nat) (z : Int), ordersI[i]? = some z → c[i]? = some (.int .i64 z) := by
  obtain ⟨ps, ⟨g', t', cs, fuel, p, q, hg', ht', hvar, hd, _, _⟩, _⟩ := h
  have hg : Tryz.prog.globalNamed "arrears/waterfall.orders" = some 3 := by kernel_rfl
  obtain rfl := Option.some.inj (hg.symm.trans hg')
  have hty : (Tryz.prog.globals[3]?).map (·.type) = some 223 := by kernel_rfl
  obtain rfl := Option.some.inj (hty.symm.trans ht')
  obtain ⟨xs, m, _, hx, hlen, hxl, hat⟩ := DataW.trod_array Tryz.underlying223 hd
  simp only [Prod.mk.injEq] at hx
  have hxs := hx.1
  unfold Rows.laid_arrears_waterfall_orders at hxs
  simp only [DataW.agg.injEq] at hxs
  have hce : Tryz.prog.cellsOf 188 = 3 := by kernel_rfl
  have row : ∀ (i : Nat) (a b c : Int), i < 6 → (xs.map (·.1))[i]? = some (Lib.tabData .i64 [a, b, c]) → W.cell? ⟨3, i * 3, none⟩ = some (.int .i64 a) ∧ W.cell? ⟨3, i * 3 + 1, none⟩ = some (.int .i64 b) ∧ W.cell? ⟨3, i * 3 + 2, none⟩ = some (.int .i64 c) := by
    intro i a b c hi hxi
    have h1 := hat i hi
    rw [hce] at h1
    rw [List.getElem?_map] at hxi
    cases hy : xs[i]? with
    | none => rw [hy] at hxi; cases hxi
    | some y =>
      rw [hy] at hxi h1
      have hy1 : y = (Lib.tabData .i64 [a, b, c], y.2) := Prod.ext (Option.some.inj hxi) rfl
      rw [hy1] at h1
      have h2 := Lib.cells_of_tab Tryz.underlying188 Tryz.underlying3 (by kernel_rfl) (by kernel_rfl) h1
      have at_ : ∀ k, k < 3 → W.cell? ⟨3, i * 3 + k, none⟩ = ([Value.int .i64 a, .int .i64 b, .int .i64 c] : List Value)[k]? := by
        intro k hk
        have e := World.var?_cell hg hvar (i * 3 + k)
        rw [e]
        have h3 := congrArg (·[k]?) h2
        simp only [List.getElem?_take, List.getElem?_drop, if_pos hk, Array.getElem?_toList] at h3
        exact h3
      exact ⟨at_ 0 (by omega), at_ 1 (by omega), at_ 2 (by omega)⟩
  rw [← hxs] at row
  obtain ⟨a0, a1, a2⟩ := row 0 3 2 1 (by omega) rfl
  obtain ⟨a3, a4, a5⟩ := row 1 3 1 2 (by omega) rfl
  obtain ⟨a6, a7, a8⟩ := row 2 2 3 1 (by omega) rfl
  obtain ⟨a9, a10, a11⟩ := row 3 2 1 3 (by omega) rfl
  obtain ⟨a12, a13, a14⟩ := row 4 1 3 2 (by omega) rfl
  obtain ⟨a15, a16, a17⟩ := row 5 1 2 3 (by omega) rfl
  obtain ⟨_, c, t, fr, hb, hc0⟩ := cell_block a0
  have hb1 : W.heap[3]? = some (.cells c t fr) := hb
  have hat2 : ∀ {i : Nat} {z : Value}, W.cell? ⟨3, i, none⟩ = some z → c[i]? = some z := by
    intro i z hi
    obtain ⟨_, c', t', fr', hb', hc'⟩ := cell_block hi
    have hb2 : W.heap[3]? = some (.cells c' t' fr') := hb'
    rw [hb1] at hb2
    cases hb2
    exact hc'
  refine ⟨c, t, fr, hb1, ?_, fun i z hz => ?_⟩
  · have := (Array.getElem?_eq_some_iff.1 (hat2 a17)).1
    omega
  · match i, hz with
    | 0, hz => cases hz; exact hat2 a0
    | 1, hz => cases hz; exact hat2 a1
    | 2, hz => cases hz; exact hat2 a2
    | 3, hz => cases hz; exact hat2 a3
    | 4, hz => cases hz; exact hat2 a4
    | 5, hz => cases hz; exact hat2 a5
    | 6, hz => cases hz; exact hat2 a6
    | 7, hz => cases hz; exact hat2 a7
    | 8, hz => cases hz; exact hat2 a8
    | 9, hz => cases hz; exact hat2 a9
    | 10, hz => cases hz; exact hat2 a10
    | 11, hz => cases hz; exact hat2 a11
    | 12, hz => cases hz; exact hat2 a12
    | 13, hz => cases hz; exact hat2 a13
    | 14, hz => cases hz; exact hat2 a14
    | 15, hz => cases hz; exact hat2 a15
    | 16, hz => cases hz; exact hat2 a16
    | 17, hz => cases hz; exact hat2 a17
    | i + 18, hz => simp [ordersI] at hz
end Go.Proofs.YtlflclfhldghbaaGreatDoor.Fs
end
section
set_option maxRecDepth 100000
namespace Go.Proofs.YtlflclfhldghbaaGreatDoor.Fs
open Go Go.Proofs.YtlflclfhldghbaaGreatDoor.Ls P Go.Joins Go.ChangeShapes Go.WideShapes Go.RowKit Go.Deep
theorem int_le {a : Int} (h : (Lit.int .i64 a).wf = true) : -9223372036854775808 ≤ a ∧ a ≤ 9223372036854775807 := by
  unfold Lit.wf at h
  simp only [Bool.and_eq_true, decide_eq_true_eq] at h
  exact h
theorem loanInterest_walk {W : World} (f1 f2 f3 f4 f5 f6 f7 f8 f9 f10 f11 f12 f13 f14 f15 f16 f17 : Int) (A : Option Addr) (c : Nat) (s : List Int) (hr : RowIn W A c 3 s) (id : Int) (t1 t2 t3 t4 t5 t6 : Int) (B : Option Addr) (cb : Nat) (xs : List OpT) (hb : RowIn W B cb 59 xs) (hxs : ∀ o ∈ xs, opA o) (am : Int) (ham : (Lit.int .i64 am).wf = true) (_w : World) (hT : Tabs W) :
    Calls Tryz.prog 5 #[.agg #[.int .i64 f1, .int .i64 f2, .int .i64 f3, .int .i64 f4, .int .i64 f5, .int .i64 f6, .int .i64 f7, .int .i64 f8, .int .i64 f9, .int .i64 f10, .int .i64 f11, .int .i64 f12, .int .i64 f13, .int .i64 f14, .int .i64 f15, .int .i64 f16, .int .i64 f17, .slice A s.length c], .int .i64 id, .agg #[.int .i64 t1, .int .i64 t2, .int .i64 t3, .int .i64 t4, .int .i64 t5, .int .i64 t6], .slice B xs.length cb, .int .i64 am] W fun e w1 => e = .returned (.bool true) ∧ Below W.heap.size W w1 := by
  have hF := loanInterest (f1, f2, f3, f4, f5, f6, f7, f8, f9, f10, f11, f12, f13, f14, f15, f16, f17, (), ()) s id (t1, t2, t3, t4, t5, t6, ()) xs am hxs (int_le ham).2
  generalize hins : (fun i => match i with | 0 => locOf A c s.length 1 | _ => locOf B cb xs.length 5 : Nat → Ls.Loc) = ins
  have i0 : ins 0 = locOf A c s.length (TT 3).size := by rw [← hins]; rfl
  have i1 : ins 1 = locOf B cb xs.length (TT 59).size := by rw [← hins]; rfl
  have one : ∀ z : Int, VR (E0 ins) 2 (.int .i64 z) (.int .i64 z) := fun z => .scal _ rfl
  have hs0 : VR (E0 ins) 2 (.slice (some ⟨0, 0, none⟩) 0 0) (.slice A s.length c) := slIn (e := 3) (by decide) (by decide) hr i0
  have hs1 : VR (E0 ins) 2 (.slice (some ⟨1, 0, none⟩) 0 0) (.slice B xs.length cb) := slIn (e := 59) (by decide) (by decide) hb i1
  have hargs : PW (E0 ins) g_loanInterest.hp.length (g_loanInterest.args.enc rid true (((f1, f2, f3, f4, f5, f6, f7, f8, f9, f10, f11, f12, f13, f14, f15, f16, f17, (), ()), id, (t1, t2, t3, t4, t5, t6, ()), (), am, ()) : g_loanInterest.args.ty) []) [.agg #[.int .i64 f1, .int .i64 f2, .int .i64 f3, .int .i64 f4, .int .i64 f5, .int .i64 f6, .int .i64 f7, .int .i64 f8, .int .i64 f9, .int .i64 f10, .int .i64 f11, .int .i64 f12, .int .i64 f13, .int .i64 f14, .int .i64 f15, .int .i64 f16, .int .i64 f17, .slice A s.length c], .int .i64 id, .agg #[.int .i64 t1, .int .i64 t2, .int .i64 t3, .int .i64 t4, .int .i64 t5, .int .i64 t6], .slice B xs.length cb, .int .i64 am] := by
    refine .cons (VR.agg_mk ?_) (.cons (one id) (.cons (VR.agg_mk ?_) (.cons hs1 (.cons (one am) .nil))))
    · exact (.cons (one _) (.cons (one _) (.cons (one _) (.cons (one _) (.cons (one _) (.cons (one _) (.cons (one _) (.cons (one _) (.cons (one _) (.cons (one _) (.cons (one _) (.cons (one _) (.cons (one _) (.cons (one _) (.cons (one _) (.cons (one _) (.cons (one _) (.cons hs0 .nil))))))))))))))))))
    · exact (.cons (one _) (.cons (one _) (.cons (one _) (.cons (one _) (.cons (one _) (.cons (one _) .nil))))))
  have hS : Sim globs (E0 ins) (encO rid g_loanInterest.hp ((s, xs, ()) : tysO TT g_loanInterest.hp)) W := by
    refine simIn (by show 2 ≤ GB; decide) (fun i o hi => ?_) hT
    match i, hi with
    | 0, hi => cases hi; exact ⟨3, s, A, c, rfl, rfl, hr, i0⟩
    | 1, hi => cases hi; exact ⟨59, xs, B, cb, rfl, rfl, hb, i1⟩
    | i + 2, hi => simp [encO] at hi
  have hok : (F_loanInterest ((f1, f2, f3, f4, f5, f6, f7, f8, f9, f10, f11, f12, f13, f14, f15, f16, f17, (), ()), id, (t1, t2, t3, t4, t5, t6, ()), (), am, ()) (s, xs, ())).ok = true := by rw [hF]
  refine (F_loanInterest_ok ((f1, f2, f3, f4, f5, f6, f7, f8, f9, f10, f11, f12, f13, f14, f15, f16, f17, (), ()), id, (t1, t2, t3, t4, t5, t6, ()), (), am, ()) (s, xs, ()) hok _ W _ hargs hS).mono fun e w1 he => ?_
  rw [hF] at he
  cases e with
  | returned v =>
    obtain ⟨_, E, fr, hp⟩ := he
    refine ⟨?_, ?_⟩
    · obtain ⟨u, r, e1, hv, hn⟩ := hp.inv_cons
      cases e1
      rw [hv.scalar_eq rfl]
    · refine ⟨fr.fp.os, fr.fp.tape, fr.fp.out, fr.fp.size, fun b hb => fr.fp.frame b hb (fun p hp hl => ?_)⟩
      obtain ⟨x, hx, hne⟩ := hp
      match p, hx with
      | 0, hx => exact absurd (by simpa using hx.symm) hne
      | 1, hx => exact absurd (by simpa using hx.symm) hne
      | p + 2, hx => simp at hx
  | panicked ch => have := he.1; cases this
  | _ => exact he.elim
theorem loanInterest_tabs {W : World} (h : laidMet Tryz.prog Rows.loanInterestRow.laid W) : Tabs W where
  s := Lib.tabIs_of_head (rest := []) (zs := sides) (g := 0) (by kernel_rfl) (by kernel_rfl) Tryz.underlying199 Tryz.underlying3 (by kernel_rfl) (by kernel_rfl) (h.filter fun x => x.1 == "arrears/ledger.sides")
  a := Lib.tabIs_of_head (rest := []) (zs := ahead) (g := 4) (by kernel_rfl) (by kernel_rfl) Tryz.underlying225 Tryz.underlying3 (by kernel_rfl) (by kernel_rfl) (h.filter fun x => x.1 == "arrears/calendar.ahead")
  o := orders_in (h.filter fun x => x.1 == "arrears/waterfall.orders")
end Go.Proofs.YtlflclfhldghbaaGreatDoor.Fs
end
