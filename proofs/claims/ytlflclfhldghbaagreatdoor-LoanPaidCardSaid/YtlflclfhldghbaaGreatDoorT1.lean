-- Texts of this claim, joined and cut down to what it uses (a program of this session).
import Derived.Below
import Derived.Laws.Cells
import Derived.Laws.CopyRow
import Derived.Orders
import Derived.Laws.Tables
import Derived.Laws.AppendOwn
set_option linter.unusedVariables false
set_option linter.unusedSimpArgs false
set_option linter.unnecessarySimpa false
section
namespace Go.Proofs.YtlflclfhldghbaaGreatDoor.P
open Go
theorem w64 {x : Int} (h1 : -9223372036854775808 ≤ x) (h2 : x ≤ 9223372036854775807) : IntKind.i64.wrap x = x := by
  unfold IntKind.wrap
  have e : (2 : Int) ^ IntKind.bits IntKind.i64 = 18446744073709551616 := by rfl
  have e2 : (2 : Int) ^ (IntKind.bits IntKind.i64 - 1) = 9223372036854775808 := by rfl
  simp only [e, e2, show IntKind.signed IntKind.i64 = true from rfl, Bool.true_and, decide_eq_true_eq]
  split <;> omega
theorem wu64 {x : Int} (h1 : 0 ≤ x) (h2 : x ≤ 18446744073709551615) : IntKind.u64.wrap x = x := by
  unfold IntKind.wrap
  have e : (2 : Int) ^ IntKind.bits IntKind.u64 = 18446744073709551616 := by rfl
  simp only [e, show IntKind.signed IntKind.u64 = false from rfl, Bool.false_and, Bool.false_eq_true, if_false]
  omega
end Go.Proofs.YtlflclfhldghbaaGreatDoor.P
namespace Go.Proofs.YtlflclfhldghbaaGreatDoor.P
open Go
theorem m32 {x : Int} (h1 : 0 ≤ x) (h2 : x ≤ 18446744073709551615) : IntKind.u64.wrap ((((x % (((2 ^ 64) : Nat) : Int)).toNat &&& (4294967295 % (((2 ^ 64) : Nat) : Int)).toNat) : Nat) : Int) = x % 4294967296 := by
  have e0 : (((2 ^ 64) : Nat) : Int) = 18446744073709551616 := by rfl
  have e1 : x % (((2 ^ 64) : Nat) : Int) = x := by rw [e0]; omega
  have e2 : (4294967295 % (((2 ^ 64) : Nat) : Int)).toNat = 2 ^ 32 - 1 := by rfl
  rw [e1, e2, Nat.and_two_pow_sub_one_eq_mod]
  have e3 : ((x.toNat % 2 ^ 32 : Nat) : Int) = x % 4294967296 := by
    have : (2 : Nat) ^ 32 = 4294967296 := by rfl
    rw [this]; omega
  rw [e3]
  exact wu64 (by omega) (by omega)
theorem fd32 (x : Int) : x.fdiv (2 ^ (min ((32 : Int).toNat) 64)) = x / 4294967296 := by
  have : (2 : Int) ^ (min ((32 : Int).toNat) 64) = 4294967296 := by rfl
  rw [this]
  exact Int.fdiv_eq_ediv_of_nonneg x (by omega)
end Go.Proofs.YtlflclfhldghbaaGreatDoor.P
end
section
namespace Go.Proofs.YtlflclfhldghbaaGreatDoor.Ls
open Go
noncomputable section
def rid (i : Nat) : Nat := i
def GB : Nat := 1000000
inductive VS where
  | any | unit | bool | str
  | int (k : IntKind)
  | ptr (id off : Nat) | eptr (id j : Nat) | nilp
  | sl (id : Nat) | gsl (id : Nat)
  | fn (f : FuncId) (s : VS) | fnm (f : FuncId) (s : VS) | nilf
  | iface (t : TypeId) (s : VS) | nili
  | agg (s : VS) | tup (s : VS)
  | pair (a b : VS)
  deriving Inhabited
@[reducible] def VS.ty : VS → Type
  | .int _ => Int
  | .bool => Bool
  | .str => ByteArray
  | .eptr _ _ => Nat
  | .gsl _ => Nat × Nat × Nat
  | .fn _ s => s.ty
  | .fnm _ s => s.ty
  | .iface _ s => s.ty
  | .agg s => s.ty
  | .tup s => s.ty
  | .pair a b => a.ty × b.ty
  | _ => Unit
def VS.dflt : (s : VS) → s.ty
  | .int _ => (0 : Int)
  | .bool => false
  | .str => ByteArray.mk #[]
  | .eptr _ _ => (0 : Nat)
  | .gsl _ => ((0, 0, 0) : Nat × Nat × Nat)
  | .fn _ s => s.dflt
  | .fnm _ s => s.dflt
  | .iface _ s => s.dflt
  | .agg s => s.dflt
  | .tup s => s.dflt
  | .pair a b => (a.dflt, b.dflt)
  | .any => () | .unit => () | .ptr _ _ => () | .nilp => () | .sl _ => () | .nilf => () | .nili => ()
def VS.size : VS → Nat
  | .unit => 0
  | .agg s => s.size
  | .pair a b => a.size + b.size
  | _ => 1
def VS.enc (ρ : Nat → Nat) : (s : VS) → Bool → s.ty → List Value → List Value
  | .any, _, _, l => undef :: l
  | .unit, _, _, l => l
  | .bool, _, b, l => .bool b :: l
  | .str, _, b, l => .string b :: l
  | .int k, _, n, l => .int k n :: l
  | .ptr i o, _, _, l => .pointer (some ⟨ρ i, o, none⟩) :: l
  | .eptr i j, _, n, l => .pointer (some ⟨ρ i, n, some j⟩) :: l
  | .nilp, _, _, l => .pointer none :: l
  | .sl i, _, _, l => .slice (some ⟨ρ i, 0, none⟩) 0 0 :: l
  | .gsl i, _, x, l => .slice (some ⟨ρ i, x.1, some 0⟩) x.2.1 x.2.2 :: l
  | .fn f s, _, x, l => .func (.func f) #[] ⟨VS.enc ρ s true x []⟩ :: l
  | .fnm f s, _, x, l => .func (.func f) ⟨VS.enc ρ s true x []⟩ #[] :: l
  | .nilf, _, _, l => .nilFunc :: l
  | .iface t s, _, x, l => (match VS.enc ρ s true x [] with | [v] => .iface t v | _ => undef) :: l
  | .nili, _, _, l => .nilIface :: l
  | .agg s, m, x, l => match m with | true => .agg ⟨VS.enc ρ s false x []⟩ :: l | false => VS.enc ρ s false x l
  | .tup s, _, x, l => .tuple ⟨VS.enc ρ s true x []⟩ :: l
  | .pair a b, m, x, l => VS.enc ρ a m x.1 (VS.enc ρ b m x.2 l)
def VS.plain : VS → Bool
  | .unit | .bool | .str | .int _ => true
  | .agg s => s.plain
  | .pair a b => a.plain && b.plain
  | _ => false
def VS.plainI : VS → Bool
  | .iface _ s => s.plain
  | s => s.plain
inductive Tgt where
  | nil
  | obj (b : Nat)
  | view (b o n : Nat)
abbrev Asg := List (Nat × Tgt)
def Asg.find : Asg → Nat → Option Tgt
  | [], _ => none
  | (j, t) :: r, i => match Nat.beq j i with | true => some t | false => Asg.find r i
def Asg.bind (A : Asg) (i : Nat) (t : Tgt) : Option Asg :=
  match Nat.ble GB i with
  | true => match t with
    | .obj b => match Nat.beq b i with | true => some A | false => none
    | _ => none
  | false => match A.find i with
    | none => match t with
      | .obj b => match Nat.ble GB b with | true => none | false => some ((i, t) :: A)
      | .view b _ _ => match Nat.ble GB b with | true => none | false => some ((i, t) :: A)
      | .nil => some ((i, t) :: A)
    | some (.obj b') => match t with
      | .obj b => match Nat.beq b b' with | true => some A | false => none
      | _ => none
    | some _ => none
def beqKind : IntKind → IntKind → Bool
  | .i8, .i8 | .i16, .i16 | .i32, .i32 | .i64, .i64 | .u8, .u8 | .u16, .u16 | .u32, .u32 | .u64, .u64 => true
  | _, _ => false
def VS.dec : (s : VS) → Bool → List Value → Asg → Option (s.ty × List Value × Asg)
  | .any, _, l, A => match l with | _ :: r => some ((), r, A) | [] => none
  | .unit, _, l, A => some ((), l, A)
  | .bool, _, l, A => match l with
    | v :: r => match v with | .bool b => some (b, r, A) | _ => none
    | [] => none
  | .str, _, l, A => match l with
    | v :: r => match v with | .string b => some (b, r, A) | _ => none
    | [] => none
  | .int k, _, l, A => match l with
    | v :: r => match v with | .int k' n => (match beqKind k' k with | true => some (n, r, A) | false => none) | _ => none
    | [] => none
  | .ptr i o, _, l, A => match l with
    | v :: r => match v with
      | .pointer (some ⟨b, o', none⟩) => match Nat.beq o' o with
        | true => match A.bind i (.obj b) with | some A => some ((), r, A) | none => none
        | false => none
      | _ => none
    | [] => none
  | .eptr i j, _, l, A => match l with
    | v :: r => match v with
      | .pointer (some ⟨b, n, some j'⟩) => match Nat.beq j' j with
        | true => match A.bind i (.obj b) with | some A => some (n, r, A) | none => none
        | false => none
      | _ => none
    | [] => none
  | .nilp, _, l, A => match l with
    | v :: r => match v with | .pointer none => some ((), r, A) | _ => none
    | [] => none
  | .sl i, _, l, A => match l with
    | v :: r => match v with
      | .slice none _ _ => match A.bind i .nil with | some A => some ((), r, A) | none => none
      | .slice (some ⟨b, o, none⟩) n _ => match Nat.beq o 0 with
        | true => match Nat.beq n 0 with
          | true => match A.bind i (.obj b) with | some A => some ((), r, A) | none => none
          | false => none
        | false => none
      | .slice (some ⟨b, o, some _⟩) n _ => match A.bind i (.view b o n) with | some A => some ((), r, A) | none => none
      | _ => none
    | [] => none
  | .gsl i, _, l, A => match l with
    | v :: r => match v with
      | .slice (some ⟨b, o, some _⟩) n c => match A.bind i (.obj b) with | some A => some ((o, n, c), r, A) | none => none
      | _ => none
    | [] => none
  | .fn f s, _, l, A => match l with
    | v :: r => match v with
      | .func (.func f') first cap => match Nat.beq f' f, first.toList with
        | true, [] => match VS.dec s true cap.toList A with
          | some (x, [], A) => some (x, r, A)
          | _ => none
        | _, _ => none
      | _ => none
    | [] => none
  | .fnm f s, _, l, A => match l with
    | v :: r => match v with
      | .func (.func f') first cap => match Nat.beq f' f, cap.toList with
        | true, [] => match VS.dec s true first.toList A with
          | some (x, [], A) => some (x, r, A)
          | _ => none
        | _, _ => none
      | _ => none
    | [] => none
  | .nilf, _, l, A => match l with
    | v :: r => match v with | .nilFunc => some ((), r, A) | _ => none
    | [] => none
  | .iface t s, _, l, A => match l with
    | v :: r => match v with
      | .iface t' p => match Nat.beq t' t with
        | true => match VS.dec s true [p] A with
          | some (x, [], A) => some (x, r, A)
          | _ => none
        | false => none
      | _ => none
    | [] => none
  | .nili, _, l, A => match l with
    | v :: r => match v with | .nilIface => some ((), r, A) | _ => none
    | [] => none
  | .agg s, m, l, A => match m with
    | false => VS.dec s false l A
    | true => match l with
      | v :: r => match v with
        | .agg cs => match VS.dec s false cs.toList A with
          | some (x, [], A) => some (x, r, A)
          | _ => none
        | _ => none
      | [] => none
  | .tup s, _, l, A => match l with
    | v :: r => match v with
      | .tuple cs => match VS.dec s true cs.toList A with
        | some (x, [], A) => some (x, r, A)
        | _ => none
      | _ => none
    | [] => none
  | .pair a b, m, l, A => match VS.dec a m l A with
    | some (x, l, A) => match VS.dec b m l A with
      | some (y, l, A) => some ((x, y), l, A)
      | none => none
    | none => none
inductive Ob (T : TypeId → VS) where
  | dead
  | flat (cs : List Value)
  | row (w : Bool) (e : TypeId) (xs : List (T e).ty)
inductive OS where
  | dead
  | flat (s : VS)
  | row (w : Bool) (e : TypeId)
  deriving Inhabited
section
variable {T : TypeId → VS}
@[reducible] def OS.ty (T : TypeId → VS) : OS → Type
  | .dead => Unit
  | .flat s => s.ty
  | .row _ e => List (T e).ty
def OS.dflt : (o : OS) → o.ty T
  | .dead => ()
  | .flat s => s.dflt
  | .row _ _ => ([] : List _)
@[reducible] def tysO (T : TypeId → VS) : List OS → Type
  | [] => Unit
  | o :: r => o.ty T × tysO T r
def dfltO : (l : List OS) → tysO T l
  | [] => ()
  | o :: r => (o.dflt, dfltO r)
def OS.enc (ρ : Nat → Nat) : (o : OS) → o.ty T → Ob T
  | .dead, _ => .dead
  | .flat s, x => .flat (s.enc ρ false x [])
  | .row w e, xs => .row w e xs
def encO (ρ : Nat → Nat) : (l : List OS) → tysO T l → List (Ob T)
  | [], _ => []
  | o :: r, x => o.enc ρ x.1 :: encO ρ r x.2
def castRow (e' e : TypeId) (xs : List (T e').ty) : Option (List (T e).ty) :=
  if h : e' = e then some (h ▸ xs) else none
def wOk : Bool → Bool → Bool
  | false, true => false
  | _, _ => true
def lookO (glob : Nat → Option (Ob T)) (H : List (Ob T)) (id : Nat) : Option (Ob T) :=
  match Nat.ble GB id with
  | true => glob (id - GB)
  | false => H[id]?
def OS.dec (glob : Nat → Option (Ob T)) (H : List (Ob T)) (t : Option Tgt) : (o : OS) → Asg → Option (o.ty T × Asg)
  | .dead, A => some ((), A)
  | .flat s, A => match t with
    | some (.obj b) => match lookO glob H b with
      | some (.flat cs) => match s.dec false cs A with
        | some (x, [], A) => some (x, A)
        | _ => none
      | _ => none
    | _ => none
  | .row w e, A => match t with
    | some (.obj b) => match lookO glob H b with
      | some (.row w' e' xs) => match castRow e' e xs, wOk w' w with | some xs, true => some (xs, A) | _, _ => none
      | _ => none
    | some (.view b o n) => match lookO glob H b with
      | some (.row w' e' xs) => match w, castRow e' e xs with | false, some xs => some ((xs.drop o).take n, A) | _, _ => none
      | _ => none
    | some .nil => match (T e).plain with | true => some (([] : List _), A) | false => none
    | none => none
def decO (glob : Nat → Option (Ob T)) (H : List (Ob T)) : (l : List OS) → Nat → Asg → Option (tysO T l × Asg)
  | [], _, A => some ((), A)
  | o :: r, i, A => match o.dec glob H (A.find i) A with
    | some (x, A) => match decO glob H r (i + 1) A with
      | some (y, A) => some ((x, y), A)
      | none => none
    | none => none
inductive Tr (α : Type) where
  | fail
  | leaf (a : α)
  | node (b : Bool) (t e : Tr α)
def Tr.bind {α β : Type} : Tr α → (α → Tr β) → Tr β
  | .fail, _ => .fail
  | .leaf a, f => f a
  | .node b t e, f => .node b (t.bind f) (e.bind f)
def Tr.pick {α : Type} : Tr α → Option α
  | .fail => none
  | .leaf a => some a
  | .node b t e => match b with | true => t.pick | false => e.pick
inductive CallOut (T : TypeId → VS) where
  | ret (v : Value) (H : List (Ob T)) (D : List Nat) (ok : Bool)
  | pan (v : Value) (H : List (Ob T)) (D : List Nat) (ok : Bool)
structure St (T : TypeId → VS) where
  env : List (Nat × Value)
  heap : List (Ob T)
  dirty : List Nat
  known : List Nat
  gen : Nat
  ok : Bool
structure SS where
  temps : List (Nat × VS)
  heap : List OS
  dirty : List Nat
inductive Eff where | keep | upd | kill
  deriving Inhabited
structure Sig where
  args : VS
  hp : List OS
  eff : List Eff
  ret : VS
  news : List OS
  pan : Option VS
  hpo : List OS := []
structure Cx (T : TypeId → VS) where
  P : Program
  glob : Nat → Option (Ob T)
  rep : TypeId → Option TypeId
  call : FuncId → List Value → List (Ob T) → Tr (CallOut T)
  n : Nat
  cuts : List (Nat × SS)
  joins : List (Nat × SS)
  nojoin : List Nat
  quiet : FuncId → Bool
  closed : List Nat
  stops : List Nat := []
def memN : Nat → List Nat → Bool
  | _, [] => false
  | i, j :: r => match Nat.beq j i with | true => true | false => memN i r
def addN (i : Nat) (l : List Nat) : List Nat := match memN i l with | true => l | false => i :: l
def unionN : List Nat → List Nat → List Nat
  | [], m => m
  | i :: r, m => unionN r (addN i m)
def remN : Nat → List Nat → List Nat
  | _, [] => []
  | i, j :: r => match Nat.beq j i with | true => remN i r | false => j :: remN i r
def getE : List (Nat × Value) → Nat → Value
  | [], _ => undef
  | (j, v) :: r, i => match Nat.beq j i with | true => v | false => getE r i
def scalar : Value → Bool
  | .bool _ | .int _ _ | .string _ | .float _ _ | .complex _ _ _ | .nilFunc | .nilIface | .pointer none => true
  | .slice none n c => Nat.beq n 0 && Nat.beq c 0
  | .map none => true
  | _ => false
def scalarL : List Value → Bool
  | [] => true
  | v :: r => match scalar v with | true => scalarL r | false => false
def constOk : Value → Bool
  | .agg cs => scalarL cs.toList
  | v => scalar v
def St.ev (st : St T) : Operand → Value
  | .tmp t => getE st.env t
  | .const v => match constOk v with | true => v | false => undef
  | .global g => .pointer (some ⟨GB + g, 0, none⟩)
  | .func f => .func (.func f) #[] #[]
def St.put (cx : Cx T) (st : St T) (d : Option Tmp) (v : Value) : Option (St T) :=
  match d with
  | none => some st
  | some t => match Nat.blt t cx.n with
    | true => some { st with env := (t, v) :: st.env, known := remN t st.known }
    | false => none
def isUndef : Value → Bool
  | .tuple _ => true
  | .chan _ => true
  | _ => false
def oneCell : Value → Bool
  | .agg _ | .tuple _ | .chan _ => false
  | _ => true
def ground1 : Value → Bool
  | .bool _ | .int _ _ | .string _ | .float _ _ | .complex _ _ _ => true
  | _ => false
def cellsL : Value → List Value
  | .agg cs => cs.toList
  | v => [v]
def sizeL (cx : Cx T) (t : TypeId) : Option Nat := match cx.P.info? t with | some i => some i.size | none => none
def isAggL (cx : Cx T) (t : TypeId) : Option Bool := match cx.P.underlying t with | some (.struct _) => some true | some (.array _ _) => some true | some _ => some false | none => none
def seg (cs : List Value) (off n : Nat) : List Value := (cs.drop off).take n
def splice (cs : List Value) (off : Nat) (vs : List Value) : List Value := cs.take off ++ (vs ++ cs.drop (off + vs.length))
def partL (cx : Cx T) (t : TypeId) (cs : List Value) (off : Nat) : Option Value :=
  match isAggL cx t with
  | some true => match sizeL cx t with
    | some n => match Nat.ble (off + n) cs.length with | true => some (.agg ⟨seg cs off n⟩) | false => none
    | none => none
  | some false => cs[off]?
  | none => none
def decAll (s : VS) : Nat → List Value → Option (List s.ty)
  | _, [] => some []
  | 0, _ :: _ => none
  | n + 1, v :: r => match s.dec false (v :: r) [] with
    | some (x, l, _) => match decAll s n l with | some xs => some (x :: xs) | none => none
    | none => none
def encAll (s : VS) : List s.ty → List Value
  | [] => []
  | x :: r => s.enc rid false x (encAll s r)
def firstN (s : VS) (xs : List s.ty) : Nat → List s.ty
  | 0 => []
  | n + 1 => firstN s xs n ++ [xs.getD n s.dflt]
def allDef : List Value → Bool
  | [] => true
  | v :: r => match oneCell v with | true => allDef r | false => false
def mkOb (cx : Cx T) (t : TypeId) (cs : List Value) : Option (Ob T) :=
  match cx.rep t with
  | some e => match (T e).plain, decAll (T e) cs.length cs with
    | true, some xs => some (.row true e xs)
    | _, _ => none
  | none => some (.flat cs)
def newOb (st : St T) (o : Ob T) : Nat × St T := (st.heap.length, { st with heap := st.heap ++ [o] })
def setO (H : List (Ob T)) (id : Nat) (o : Ob T) : List (Ob T) := H.set id o
def touch (st : St T) (id : Nat) (o : Ob T) : St T :=
  { st with heap := setO st.heap id o, dirty := match memN id st.dirty with | true => st.dirty | false => id :: st.dirty }
def St.need (st : St T) (g : Option Bool) : St T :=
  match g with
  | none => st
  | some g => { st with ok := st.ok && g }
def loadL (cx : Cx T) (H : List (Ob T)) (t : TypeId) (p : Value) : Option (Value × Option Bool) :=
  match p with
  | .pointer (some ⟨id, off, sp⟩) =>
    match lookO cx.glob H id with
    | some (.flat cs) => match sp with
      | none => match partL cx t cs off with | some v => some (v, none) | none => none
      | some _ => none
    | some (.row _ e xs) => match sp with
      | some j => match partL cx t ((T e).enc rid false (xs.getD off (T e).dflt) []) j with
        | some v => some (v, some (Nat.blt off xs.length))
        | none => none
      | none => match Nat.beq off 0, isAggL cx t, sizeL cx t with
        | true, some true, some n => match Nat.beq ((n / (T e).size) * (T e).size) n with
          | true => some (.agg ⟨encAll (T e) (firstN (T e) xs (n / (T e).size))⟩, some (Nat.beq xs.length (n / (T e).size)))
          | false => none
        | _, _, _ => none
    | _ => none
  | _ => none
def storeL (cx : Cx T) (st : St T) (t : TypeId) (p : Value) (v : Value) : Option (St T) :=
  match p with
  | .pointer (some ⟨id, off, sp⟩) =>
    match Nat.ble GB id with
    | true => none
    | false =>
    match sizeL cx t with
    | none => none
    | some n =>
    match Nat.beq (cellsL v).length n, allDef (cellsL v) with
    | true, true => match st.heap[id]? with
      | some (.flat cs) => match sp with
        | none => match Nat.ble (off + n) cs.length with
          | true => some (touch st id (.flat (splice cs off (cellsL v))))
          | false => none
        | some _ => none
      | some (.row true e xs) => match sp with
        | some j => match (T e).plain, Nat.ble (j + n) (T e).size, (T e).dec false (splice ((T e).enc rid false (xs.getD off (T e).dflt) []) j (cellsL v)) [] with
          | true, true, some (x, [], _) => some (touch (st.need (some (Nat.blt off xs.length))) id (.row true e (xs.set off x)))
          | _, _, _ => none
        | none => match Nat.beq off 0, (T e).plain, decAll (T e) n (cellsL v) with
          | true, true, some ys => some (touch (st.need (some (Nat.beq xs.length ys.length))) id (.row true e ys))
          | _, _, _ => none
      | _ => none
    | _, _ => none
  | _ => none
def merge1 (b : Bool) (n : Nat) (x y : Value) : Value :=
  match x, y with
  | .bool p, .bool q => .bool (bif b then p else q)
  | .int k p, .int k' q => match beqKind k k' with | true => .int k (bif b then p else q) | false => undef
  | .string p, .string q => .string (bif b then p else q)
  | .pointer none, .pointer none => .pointer none
  | .pointer (some ⟨id, o, none⟩), .pointer (some ⟨id', o', none⟩) => match Nat.beq id id' && (Nat.beq o o' && (Nat.blt id n || Nat.ble GB id)) with
    | true => .pointer (some ⟨id, o, none⟩)
    | false => undef
  | .slice (some ⟨id, o, none⟩) m c, .slice (some ⟨id', o', none⟩) m' c' => match Nat.beq id id' && (Nat.beq o o' && (Nat.beq m m' && (Nat.beq c c' && (Nat.blt id n || Nat.ble GB id)))) with
    | true => .slice (some ⟨id, o, none⟩) m c
    | false => undef
  | .slice none _ _, .slice none _ _ => .slice none 0 0
  | .nilIface, .nilIface => .nilIface
  | .nilFunc, .nilFunc => .nilFunc
  | _, _ => undef
def mergeL (b : Bool) (n : Nat) : List Value → List Value → Option (List Value)
  | [], [] => some []
  | x :: r, y :: s => match mergeL b n r s with | some l => some (merge1 b n x y :: l) | none => none
  | _, _ => none
def mergeV (b : Bool) (n : Nat) (x y : Value) : Value :=
  match x with
  | .agg cs => match y with
    | .agg cs' => match mergeL b n cs.toList cs'.toList with | some l => .agg ⟨l⟩ | none => undef
    | _ => undef
  | .tuple cs => match y with
    | .tuple cs' => match mergeL b n cs.toList cs'.toList with | some l => .tuple ⟨l⟩ | none => undef
    | _ => undef
  | x => merge1 b n x y
def knows (st : St T) : Operand → Bool
  | .tmp t => memN t st.known
  | .const (.bool _) => true
  | _ => false
def pureRun {α : Type} (P : Program) : Sem α → Option α
  | .pure a => some a
  | .program k => pureRun P (k P)
  | _ => none
def pureV (P : Program) (s : Sem Value) : Option Value :=
  match pureRun P s with
  | some v => match ground1 v with | true => some v | false => none
  | none => none
def eqFields (eqT : TypeId → Value → Value → Option Bool) (cx : Cx T) (xs ys : List Value) : List Field → Option Bool
  | [] => some true
  | f :: r => match decide (f.name = "_") with
    | true => eqFields eqT cx xs ys r
    | false => match partL cx f.type xs f.offset, partL cx f.type ys f.offset with
      | some x, some y => match eqT f.type x y with
        | some b => match r with
          | [] => some b
          | _ => match eqFields eqT cx xs ys r with | some c => some (b && c) | none => none
        | none => none
      | _, _ => none
def eqElems (eqT : Value → Value → Option Bool) (cx : Cx T) (e : TypeId) (n : Nat) (xs ys : List Value) : Nat → Nat → Option Bool
  | 0, _ => some true
  | k + 1, i => match partL cx e xs (i * n), partL cx e ys (i * n) with
    | some x, some y => match eqT x y with
      | some b => match k with
        | 0 => some b
        | _ + 1 => match eqElems eqT cx e n xs ys k (i + 1) with | some c => some (b && c) | none => none
      | none => none
    | _, _ => none
def eqL (cx : Cx T) : Nat → TypeId → Value → Value → Option Bool
  | 0, _, _, _ => none
  | d + 1, t, x, y => match cx.P.underlying t with
    | some .bool => match x, y with | .bool a, .bool b => some (a == b) | _, _ => none
    | some (.int _) => match x, y with | .int k a, .int k' b => (match beqKind k k' with | true => some (a == b) | false => none) | _, _ => none
    | some .string => match x, y with | .string a, .string b => some (a == b) | _, _ => none
    | some (.pointer _) => match x, y with
      | .pointer none, .pointer none => some true
      | .pointer none, .pointer (some _) => some false
      | .pointer (some _), .pointer none => some false
      | _, _ => none
    | some (.interface _) => match x, y with
      | .nilIface, .iface _ _ => some false
      | .iface _ _, .nilIface => some false
      | _, _ => none
    | some (.slice _) => match x, y with
      | .slice none _ _, .slice none _ _ => some true
      | _, _ => none
    | some (.func _ _ _) => match x, y with
      | .nilFunc, .func _ _ _ => some false
      | .func _ _ _, .nilFunc => some false
      | _, _ => none
    | some (.struct fs) => match x, y with
      | .agg xs, .agg ys => (match cx.P.stoodInHeld t with | true => none | false => eqFields (eqL cx d) cx xs.toList ys.toList fs.toList)
      | _, _ => none
    | some (.array n e) => match x, y with
      | .agg xs, .agg ys => (match sizeL cx e with | some k => eqElems (eqL cx d e) cx e k xs.toList ys.toList n 0 | none => none)
      | _, _ => none
    | _ => none
def divOk (const : Bool) (b : Int) : Option (Option Bool) :=
  match const with
  | true => match b == 0 with | true => none | false => some none
  | false => some (some (b != 0))
def eqTop (cx : Cx T) (t : TypeId) (x y : Value) : Option Bool :=
  match x with
  | .int _ _ => none
  | .string _ => none
  | .float _ _ => none
  | .complex _ _ _ => none
  | .agg _ => match cx.P.eqGuardType cx.P.depth t with | true => none | false => eqL cx 12 t x y
  | _ => eqL cx 12 t x y
def binL (cx : Cx T) (op : BinOp) (t : TypeId) (yc : Bool) (x y : Value) : Option (Value × Option Bool) :=
  match op with
  | .quo => match x, y with
    | .int k a, .int k' b => (match beqKind k k', divOk yc b with | true, some g => some (.int k (k.wrap (a.tdiv b)), g) | _, _ => none)
    | _, _ => none
  | .rem => match x, y with
    | .int k a, .int k' b => (match beqKind k k', divOk yc b with | true, some g => some (.int k (a.tmod b), g) | _, _ => none)
    | _, _ => none
  | .shl => match x, y with
    | .int k a, .int _ b => some (.int k (k.wrap (a * 2 ^ (min b.toNat k.bits))), match yc with | true => (match decide (0 ≤ b) with | true => none | false => some false) | false => some (decide (0 ≤ b)))
    | _, _ => none
  | .shr => match x, y with
    | .int k a, .int _ b => some (.int k (a.fdiv (2 ^ (min b.toNat k.bits))), match yc with | true => (match decide (0 ≤ b) with | true => none | false => some false) | false => some (decide (0 ≤ b)))
    | _, _ => none
  | .eql => match x, y with
    | .int k a, .int k' b => (match beqKind k k' with | true => some (.bool (a == b), none) | false => none)
    | .string a, .string b => some (.bool (a.toList == b.toList), none)
    | .nilIface, .nilIface => (match yc, cx.P.underlying t with | true, some (.interface _) => some (.bool true, none) | _, _ => none)
    | _, _ => match eqTop cx t x y with | some b => some (.bool b, none) | none => none
  | .neq => match x, y with
    | .int k a, .int k' b => (match beqKind k k' with | true => some (.bool (a != b), none) | false => none)
    | .string a, .string b => some (.bool (!(a.toList == b.toList)), none)
    | .nilIface, .nilIface => (match yc, cx.P.underlying t with | true, some (.interface _) => some (.bool false, none) | _, _ => none)
    | _, _ => match eqTop cx t x y with | some b => some (.bool (!b), none) | none => none
  | op => match ground1 x, ground1 y, pureV cx.P (binOp op t x y) with
    | true, true, some v => some (v, none)
    | _, _, _ => none
def nilCmp (cx : Cx T) (H : List (Ob T)) (op : BinOp) (t : TypeId) (x y : Value) : Option (Value × Option Bool) :=
  match x with
  | .slice (some ⟨id, 0, none⟩) 0 0 => match y with
    | .slice none 0 0 => match lookO cx.glob H id, cx.P.underlying t with
      | some (.row _ _ xs), some (.slice _) => match op with
        | .eql => some (.bool false, some (Nat.blt 0 xs.length))
        | .neq => some (.bool true, some (Nat.blt 0 xs.length))
        | _ => none
      | _, _ => none
    | _ => none
  | _ => none
def isConstL : Operand → Bool
  | .const _ => true
  | _ => false
def indexL (cx : Cx T) (H : List (Ob T)) (t : TypeId) (x i : Value) : Option (Value × Option Bool) :=
  match i with
  | .int _ i => match cx.P.underlying t with
    | some (.slice e) => match sizeL cx e with
      | none => none
      | some s => match x with
        | .slice (some ⟨id, o, sp⟩) n _ => match lookO cx.glob H id with
          | some (.row _ e' xs) => match Nat.beq s (T e').size with
            | false => none
            | true => match sp with
              | none => match Nat.beq o 0, Nat.beq n 0 with
                | true, true => some (.pointer (some ⟨id, i.toNat, some 0⟩), some (decide (0 ≤ i) && decide (i < (xs.length : Int))))
                | _, _ => none
              | some 0 => some (.pointer (some ⟨id, o + i.toNat, some 0⟩), some (decide (0 ≤ i) && decide (i < (n : Int))))
              | some (_ + 1) => none
          | some (.flat _) => match sp, decide (0 ≤ i) && decide (i < (n : Int)) with
            | none, true => some (.pointer (some ⟨id, o + i.toNat * s, none⟩), none)
            | _, _ => none
          | _ => none
        | _ => none
    | some (.array n e) => match sizeL cx e with
      | none => none
      | some s => match x with
        | .pointer (some ⟨id, o, sp⟩) => match lookO cx.glob H id with
          | some (.row _ e' xs) => match Nat.beq s (T e').size with
            | false => none
            | true => match sp, Nat.beq o 0 with
              | none, true => some (.pointer (some ⟨id, i.toNat, some 0⟩), some (decide (0 ≤ i) && decide (i < (n : Int))))
              | _, _ => none
          | some (.flat _) => match sp, decide (0 ≤ i) && decide (i < (n : Int)) with
            | none, true => some (.pointer (some ⟨id, o + i.toNat * s, none⟩), none)
            | _, _ => none
          | _ => none
        | _ => none
    | _ => none
  | _ => none
def lenL (cx : Cx T) (H : List (Ob T)) (t : TypeId) (x : Value) : Option Int :=
  match cx.P.underlying t with
  | some .string => match x with | .string s => some (s.size : Int) | _ => none
  | some (.array n _) => some (n : Int)
  | some (.slice _) => match x with
    | .slice none n _ => match Nat.beq n 0 with | true => some 0 | false => none
    | .slice (some ⟨id, _, sp⟩) n _ => match sp with
      | some _ => some (n : Int)
      | none => match lookO cx.glob H id with
        | some (.row _ _ xs) => match Nat.beq n 0 with | true => some (xs.length : Int) | false => none
        | some (.flat _) => match Nat.beq n 0 with | true => none | false => some (n : Int)
        | _ => none
    | _ => none
  | _ => none
def elemsL (cx : Cx T) (H : List (Ob T)) (e : TypeId) (x : Value) : Option (List (T e).ty) :=
  match x with
  | .slice none n _ => match Nat.beq n 0 with | true => some [] | false => none
  | .slice (some ⟨id, o, sp⟩) n _ => match lookO cx.glob H id with
    | some (.row _ e' xs) => match castRow e' e xs with
      | some xs => match sp with
        | none => match Nat.beq n 0 with | true => some xs | false => none
        | some _ => some ((xs.drop o).take n)
      | none => none
    | _ => none
  | _ => none
def zeroV (cx : Cx T) (t : TypeId) : Option Value :=
  match cx.P.info? t with
  | some i => match i.zero with
    | some v => match constOk v with | true => some v | false => none
    | none => none
  | none => none
def zeroL (cx : Cx T) (t : TypeId) : Option (List Value) :=
  match cx.P.info? t with
  | some i => match i.zero with
    | some v => match constOk v with | true => some (cellsL v) | false => none
    | none => none
  | none => none
def maxRoom : Nat := 140737488355328
def appendL (cx : Cx T) (st : St T) (t : TypeId) (s x : Value) : Option (Value × St T) :=
  match cx.P.underlying t with
  | some (.slice e) => match cx.P.info? e, (T e).plain, zeroL cx e with
    | some i, true, some z => match Nat.beq i.size (T e).size && Nat.beq z.length (T e).size, Nat.beq i.bytes 0 with
      | true, false => match elemsL cx st.heap e s, elemsL cx st.heap e x with
        | some xs, some ys => match s with
          | .slice none _ _ => some (.slice (some ⟨st.heap.length, 0, none⟩) 0 0, { (st.need (some (Nat.ble ((xs.length + ys.length) * i.bytes) maxRoom))) with heap := st.heap ++ [.row true e (xs ++ ys)] })
          | .slice (some ⟨id, _, none⟩) n _ => match Nat.ble GB id, Nat.beq n 0, st.heap[id]? with
            | false, true, some (.row true _ _) => some (.slice (some ⟨st.heap.length, 0, none⟩) 0 0,
                { (touch (st.need (some (Nat.ble ((xs.length + ys.length) * i.bytes) maxRoom))) id .dead) with heap := (touch st id .dead).heap ++ [.row true e (xs ++ ys)] })
            | _, _, _ => none
          | _ => none
        | _, _ => none
      | _, _ => none
    | _, _, _ => none
  | _ => none
def clearL (cx : Cx T) (st : St T) (t : TypeId) (x : Value) : Option (St T) :=
  match cx.P.underlying t with
  | some (.slice e) => match sizeL cx e, (T e).plain, zeroL cx e with
    | some s, true, some z => match Nat.beq s (T e).size, (T e).dec false z [] with
      | true, some (y, [], _) => match x with
        | .slice (some ⟨id, o, some 0⟩) n _ => match Nat.ble GB id, st.heap[id]? with
          | false, some (.row true e' xs) => match castRow e' e xs with
            | some xs => some (touch st id (.row true e (xs.take o ++ (List.replicate n y ++ xs.drop (o + n)))))
            | none => none
          | _, _ => none
        | _ => none
      | _, _ => none
    | _, _, _ => none
  | _ => none
def boundL (d : Nat) : Option Value → Option Int
  | none => some (d : Int)
  | some (.int _ n) => some n
  | _ => none
def isZero : Value → Bool
  | .int _ n => n == 0
  | _ => false
def isZeroO : Option Value → Bool
  | none => true
  | some v => isZero v
def mxOk : Option Value → Option Value → Bool
  | some _, none => false
  | _, _ => true
def sliceL (cx : Cx T) (st : St T) (t : TypeId) (x : Value) (lo hi mx : Option Value) : Option (Value × St T) :=
  match cx.P.underlying t with
  | some .string => match x, mx with
    | .string s, none => match boundL 0 lo, boundL s.size hi with
      | some l, some h => some (.string (s.extract l.toNat h.toNat), st.need (some (decide (0 ≤ l) && (decide (l ≤ h) && decide (h ≤ (s.size : Int))))))
      | _, _ => none
    | _, _ => none
  | some (.slice e) => match sizeL cx e with
   | none => none
   | some s => match x with
    | .slice none _ _ => match isZeroO lo && (isZeroO hi && isZeroO mx), mxOk mx hi with
      | true, true => some (.slice none 0 0, st)
      | _, _ => none
    | .slice (some ⟨id, o, sp⟩) n c => match lookO cx.glob st.heap id with
      | some (.row _ e' xs) => match Nat.beq s (T e').size with
       | false => none
       | true => match mx with
        | none => match sp with
          | none => match Nat.beq o 0, Nat.beq n 0, boundL 0 lo, boundL xs.length hi with
            | true, true, some l, some h => some (.slice (some ⟨id, l.toNat, some 0⟩) (h.toNat - l.toNat) (xs.length - l.toNat), st.need (some (decide (0 ≤ l) && (decide (l ≤ h) && decide (h ≤ (xs.length : Int))))))
            | _, _, _, _ => none
          | some 0 => match boundL 0 lo, boundL n hi with
            | some l, some h => some (.slice (some ⟨id, o + l.toNat, some 0⟩) (h.toNat - l.toNat) (c - l.toNat), st.need (some (decide (0 ≤ l) && (decide (l ≤ h) && decide (h ≤ (c : Int))))))
            | _, _ => none
          | some (_ + 1) => none
        | some m => match hi with
          | none => none
          | some h => match isZero m && (isZero h && isZeroO lo), (T e').plain with
            | true, true => some (.slice (some ⟨st.heap.length, 0, none⟩) 0 0, { st with heap := st.heap ++ [.row true e' []] })
            | _, _ => none
      | _ => none
    | _ => none
  | _ => none
def fillL (place : Nat → Option (Nat × Nat)) : List Value → List (Nat × Value) → Option (List Value)
  | cs, [] => some cs
  | cs, (i, v) :: r => match place i with
    | none => none
    | some (off, size) => match Nat.beq (cellsL v).length size, Nat.ble (off + size) cs.length, isUndef v with
      | true, true, false => fillL place (splice cs off (cellsL v)) r
      | _, _, _ => none
def placesL (cx : Cx T) : List Field → Option (List (Nat × Nat))
  | [] => some []
  | f :: r => match sizeL cx f.type, placesL cx r with
    | some s, some ps => some ((f.offset, s) :: ps)
    | _, _ => none
def s0 (cx : Cx T) (e : TypeId) : Nat := match sizeL cx e with | some s => s | none => 0
inductive OpOut (T : TypeId → VS) where
  | val (v : Value) (st : St T)
  | pan (v : Value) (st : St T)
def okPair (ok : Bool) (v : Value) : Value := match ok with | true => .tuple #[v, .bool true] | false => v
def OpOut.state : OpOut T → St T
  | .val _ st => st
  | .pan _ st => st
def outV (st : St T) : Option (Value × Option Bool) → Tr (OpOut T)
  | some (v, g) => .leaf (.val v (st.need g))
  | none => .fail
def zeroCellsL (z : List Value) : Nat → List Value
  | 0 => []
  | n + 1 => z ++ zeroCellsL z n
def lowN (m : Nat) : List Nat → List Nat
  | [] => []
  | i :: r => match Nat.blt i m with | true => i :: lowN m r | false => lowN m r
def callL (cx : Cx T) (st : St T) (f : FuncId) (args : List Value) : Tr (OpOut T) :=
  (cx.call f args st.heap).bind fun
    | .ret v H D ok => .leaf (.val v { st with heap := H, dirty := lowN st.heap.length D ++ st.dirty, ok := st.ok && ok })
    | .pan v H D ok => .leaf (.pan v { st with heap := H, dirty := lowN st.heap.length D ++ st.dirty, ok := st.ok && ok })
def fieldsOf (cx : Cx T) (t : TypeId) : Option (List Field) :=
  match cx.P.underlying t with | some (.struct fs) => some fs.toList | _ => none
def evs (st : St T) : List (Nat × Operand) → List (Nat × Value)
  | [] => []
  | (i, x) :: r => (i, st.ev x) :: evs st r
def evl (st : St T) : List Operand → List Value
  | [] => []
  | x :: r => st.ev x :: evl st r
def evo (st : St T) : Option Operand → Option Value
  | some x => some (st.ev x)
  | none => none
def opL (cx : Cx T) (st : St T) (o : Oper) : Tr (OpOut T) :=
  match o.op with
  | .move x => .leaf (.val (st.ev x) st)
  | .assign x => .leaf (.val (st.ev x) st)
  | .pick c a b => match st.ev c with
    | .bool p => match knows st c with
      | true => match p with | true => .leaf (.val (st.ev a) st) | false => .leaf (.val (st.ev b) st)
      | false => .leaf (.val (mergeV p st.heap.length (st.ev a) (st.ev b)) st)
    | _ => .fail
  | .alloc e => match zeroL cx e with
    | some z => match mkOb cx e z with
      | some ob => .leaf (.val (.pointer (some ⟨st.heap.length, 0, none⟩)) { st with heap := st.heap ++ [ob] })
      | none => .fail
    | none => .fail
  | .box e x => match sizeL cx e, isUndef (st.ev x) with
    | some n, false => match Nat.beq (cellsL (st.ev x)).length n with
      | true => match mkOb cx e (cellsL (st.ev x)) with
        | some ob => .leaf (.val (.pointer (some ⟨st.heap.length, 0, none⟩)) { st with heap := st.heap ++ [ob] })
        | none => .fail
      | false => .fail
    | _, _ => .fail
  | .build t parts => match zeroL cx t with
    | some z => match cx.P.underlying t with
      | some (.struct fs) => match placesL cx fs.toList with
        | some ps => match fillL (fun i => ps[i]?) z (evs st parts.toList) with
          | some cs => .leaf (.val (.agg ⟨cs⟩) st)
          | none => .fail
        | none => .fail
      | some (.array _ e) => match sizeL cx e with
        | some s => match fillL (fun i => some (i * s, s)) z (evs st parts.toList) with
          | some cs => .leaf (.val (.agg ⟨cs⟩) st)
          | none => .fail
        | none => .fail
      | _ => .fail
    | none => .fail
  | .buildSlice t len parts => match Nat.beq len 0, parts.toList with
    | true, [] => (match cx.P.underlying t with
      | some (.slice e) => match sizeL cx e, (T e).plain with
        | some _, true => .leaf (.val (.slice (some ⟨st.heap.length, 0, none⟩) 0 0) { st with heap := st.heap ++ [.row true e []] })
        | _, _ => .fail
      | _ => .fail)
    | _, _ => (match cx.P.underlying t with
    | some (.slice e) => match sizeL cx e, zeroL cx e, Nat.beq len 0 || (Nat.beq (len * s0 cx e) 0 || Nat.blt 16777216 (len * s0 cx e)) with
      | some s, some z, false => match Nat.beq z.length s with
       | false => .fail
       | true => match fillL (fun i => some (i * s, s)) (zeroCellsL z len) (evs st parts.toList) with
        | some cs => match (T e).plain with
          | true => match decAll (T e) cs.length cs with
            | some xs => match Nat.beq s (T e).size with
              | true => .leaf (.val (.slice (some ⟨st.heap.length, 0, none⟩) 0 0) { st with heap := st.heap ++ [.row true e xs] })
              | false => .fail
            | none => .fail
          | false => .leaf (.val (.slice (some ⟨st.heap.length, 0, none⟩) len len) { st with heap := st.heap ++ [.flat cs] })
        | none => .fail
      | _, _, _ => .fail
    | _ => .fail)
  | .load t a => outV st (loadL cx st.heap t (st.ev a))
  | .store t a x => match storeL cx st t (st.ev a) (st.ev x) with
    | some st => .leaf (.val undef st)
    | none => .fail
  | .nilCheck x => match st.ev x with
    | .pointer (some a) => .leaf (.val (.pointer (some a)) st)
    | .func (.func f) fs cs => .leaf (.val (.func (.func f) fs cs) st)
    | _ => .fail
  | .binOp op t x y _ => match nilCmp cx st.heap op t (st.ev x) (st.ev y) with
    | some r => outV st (some r)
    | none => outV st (binL cx op t (isConstL y) (st.ev x) (st.ev y))
  | .unOp op _ x => match ground1 (st.ev x), pureV cx.P (Op.unary op (st.ev x)) with
    | true, some v => .leaf (.val v st)
    | _, _ => .fail
  | .convert s d x => match ground1 (st.ev x), pureV cx.P (convert s d (st.ev x)) with
    | true, some v => .leaf (.val v st)
    | _, _ => .fail
  | .makeInterface t x => match cx.P.underlying t with
    | some (.interface _) => .fail
    | some _ => .leaf (.val (.iface t (st.ev x)) st)
    | none => .fail
  | .makeFunc fn first cap => .leaf (.val (.func fn ⟨evl st first.toList⟩ ⟨evl st cap.toList⟩) st)
  | .makeSlice t l c => match cx.P.underlying t with
    | some (.slice e) => match st.ev l, st.ev c, cx.P.info? e, zeroL cx e with
      | .int .i64 l, .int .i64 c, some i, some z => match (T e).plain, Nat.beq i.size (T e).size, Nat.beq i.bytes 0, decAll (T e) z.length z with
        | true, true, false, some [z] =>
          .leaf (.val (.slice (some ⟨st.heap.length, 0, none⟩) 0 0) { (st.need (some (decide (0 ≤ l) && (decide (l ≤ c) && decide (c * i.bytes ≤ maxRoom))))) with heap := st.heap ++ [.row true e (List.replicate l.toNat z)] })
        | _, _, _, _ => .fail
      | _, _, _, _ => .fail
    | _ => .fail
  | .slice t x lo hi mx => match sliceL cx st t (st.ev x) (evo st lo) (evo st hi) (evo st mx) with
    | some (v, st) => .leaf (.val v st)
    | none => .fail
  | .fieldAddr s x f => match fieldsOf cx s with
    | some fs => match fs[f]? with
      | some f => match sizeL cx f.type with
        | some 0 => .fail
        | some (_ + 1) => match st.ev x with
          | .pointer (some ⟨id, off, none⟩) => .leaf (.val (.pointer (some ⟨id, match Nat.beq f.offset 0 with | true => off | false => off + f.offset, none⟩)) st)
          | .pointer (some ⟨id, off, some j⟩) => .leaf (.val (.pointer (some ⟨id, off, some (match Nat.beq f.offset 0 with | true => j | false => j + f.offset)⟩)) st)
          | _ => .fail
        | none => .fail
      | none => .fail
    | none => .fail
  | .field t x f => match fieldsOf cx t with
    | some fs => match fs[f]?, st.ev x with
      | some f, .agg cs => match partL cx f.type cs.toList f.offset with
        | some v => .leaf (.val v st)
        | none => .fail
      | _, _ => .fail
    | none => .fail
  | .indexAddr t x i => outV st (indexL cx st.heap t (st.ev x) (st.ev i))
  | .index t x i => match cx.P.underlying t, st.ev x, st.ev i with
    | some .string, .string s, .int _ i => outV st (some (.int .u8 ((s[i.toNat]!).toNat : Int), some (decide (0 ≤ i) && decide (i < (s.size : Int)))))
    | some (.array n e), .agg cs, .int _ i => match sizeL cx e, decide (0 ≤ i) && decide (i < (n : Int)) with
      | some s, true => match partL cx e cs.toList (i.toNat * s) with
        | some v => .leaf (.val v st)
        | none => .fail
      | _, _ => .fail
    | _, _, _ => .fail
  | .extract x i => match st.ev x with
    | .tuple vs => match vs.toList[i]? with
      | some v => .leaf (.val v st)
      | none => .fail
    | _ => .fail
  | .typeAssert x _ asserted ok => match cx.P.underlying asserted, st.ev x with
    | some (.interface _), _ => .fail
    | some _, .iface t v => match decide (t = asserted) with
      | true => .leaf (.val (okPair ok v) st)
      | false => match ok, zeroV cx asserted with
        | true, some z => .leaf (.val (.tuple #[z, .bool false]) st)
        | _, _ => .fail
    | _, _ => .fail
  | .panic x => match st.ev x with
    | .iface t v => .leaf (.pan (.iface t v) st)
    | _ => .fail
  | .call c => match c.callee with
    | .value f => match st.ev f with
      | .func (.func f) first cap => callL cx st f (first.toList ++ (evl st c.args.toList ++ cap.toList))
      | _ => .fail
    | .builtin .len => match c.argTypes.toList, evl st c.args.toList with
      | [t], [x] => match lenL cx st.heap t x with
        | some n => .leaf (.val (.int .i64 n) st)
        | none => .fail
      | _, _ => .fail
    | .builtin .append => match c.argTypes.toList, evl st c.args.toList with
      | [t, t'], [s, x] => match decide (t = t') with
        | true => match appendL cx st t s x with
          | some (v, st) => .leaf (.val v st)
          | none => .fail
        | false => .fail
      | _, _ => .fail
    | .builtin .clear => match c.argTypes.toList, evl st c.args.toList with
      | [t], [x] => match clearL cx st t x with
        | some st => .leaf (.val (.tuple #[]) st)
        | none => .fail
      | _, _ => .fail
    | .builtin .min => match (evl st c.args.toList).all ground1, pureV cx.P (Builtin.min_ c.argTypes o.type ⟨evl st c.args.toList⟩) with
      | true, some v => .leaf (.val v st)
      | _, _ => .fail
    | .builtin .max => match (evl st c.args.toList).all ground1, pureV cx.P (Builtin.max_ c.argTypes o.type ⟨evl st c.args.toList⟩) with
      | true, some v => .leaf (.val v st)
      | _, _ => .fail
    | _ => .fail
  | _ => .fail
def learn (st : St T) (t : Tmp) (b : Bool) : St T := { st with env := (t, .bool b) :: st.env, known := t :: st.known }
def splitOn (cx : Cx T) (st : St T) (x : Operand) : Tr (Bool × St T) :=
  match st.ev x with
  | .bool b => match x with
    | .tmp t => match memN t st.known || memN t cx.closed with
      | true => match b with | true => .leaf (true, st) | false => .leaf (false, st)
      | false => .node b (.leaf (true, learn st t true)) (.leaf (false, learn st t false))
    | _ => match b with | true => .leaf (true, st) | false => .leaf (false, st)
  | _ => .fail
inductive RgOut (T : TypeId → VS) where
  | done (st : St T)
  | pan (v : Value) (st : St T)
def knowsOp (st : St T) : Op → Bool
  | .move x => knows st x
  | .assign x => knows st x
  | .unOp _ _ x => knows st x
  | .pick c a b => match knows st c, st.ev c with
    | true, .bool p => (match p with | true => knows st a | false => knows st b)
    | _, _ => false
  | _ => false
def note (st : St T) (d : Option Tmp) (k : Bool) : St T :=
  match d, k with
  | some t, true => { st with known := t :: st.known }
  | _, _ => st
def doneOp (cx : Cx T) (o : Oper) (k : Bool) : OpOut T → Tr (RgOut T)
  | .val v st => match Nat.ble st.heap.length GB, st.put cx o.dst v with | true, some st => .leaf (.done (note st o.dst k)) | _, _ => .fail
  | .pan v st => match Nat.ble st.heap.length GB with | true => .leaf (.pan v st) | false => .fail
def skipV : Value := .chan (some 0)
def isSkip : Value → Bool
  | .chan (some n) => Nat.beq n 0
  | _ => false
def oneOp (cx : Cx T) (ops : List Oper) (o : Oper) (st : St T) : Tr (RgOut T) :=
  match o.guard with
  | none => (opL cx st o).bind (doneOp cx o (knowsOp st o.op))
  | some (j, want) => match ops[j]? with
    | none => .fail
    | some g => match g.dst with
      | none => .fail
      | some t => match isSkip (st.ev (.tmp t)) with
       | true => match st.put cx o.dst skipV with | some st => .leaf (.done st) | none => .fail
       | false => (splitOn cx st (.tmp t)).bind fun (b, st) =>
        match b == want with
        | true => (opL cx st o).bind (doneOp cx o (knowsOp st o.op))
        | false => match st.put cx o.dst skipV with | some st => .leaf (.done st) | none => .fail
def opsL (cx : Cx T) (all : List Oper) : List Oper → St T → Tr (RgOut T)
  | [], st => .leaf (.done st)
  | o :: r, st => (oneOp cx all o st).bind fun
    | .done st => opsL cx all r st
    | .pan v st => .leaf (.pan v st)
inductive Kd where | neu | rd | wr | pw
def kindOp (pm : Bool) (quiet : FuncId → Bool) : Op → Kd
  | .move _ | .assign _ | .alloc _ | .box _ _ | .build _ _ | .buildSlice _ _ _ | .nilCheck _ | .binOp _ _ _ _ _ | .unOp _ _ _ | .convert _ _ _
  | .makeInterface _ _ | .makeFunc _ _ _ | .makeSlice _ _ _ | .fieldAddr _ _ _ | .field _ _ _ | .index _ _ _ | .extract _ _ => .neu
  | .load _ _ | .slice _ _ _ _ _ | .indexAddr _ _ _ => .rd
  | .store _ _ _ => match pm with | true => .pw | false => .wr
  | .call c => match c.callee with
    | .value (.func f) => match quiet f with | true => .rd | false => .wr
    | .builtin .len => .rd
    | .builtin .min => .neu
    | .builtin .max => .neu
    | _ => .wr
  | _ => .wr
def kdApart : Kd → Kd → Bool
  | .neu, _ => true
  | _, .neu => true
  | .rd, .rd => true
  | .pw, .rd => true
  | .rd, .pw => true
  | .pw, .wr => true
  | .wr, .pw => true
  | _, _ => false
def ordB (b : Array Nat) (i j : Nat) : Bool := (b.getD i 0).testBit j
def apartAll (pm : Bool) (q : FuncId → Bool) (b : Array Nat) (i : Nat) (o : Oper) : Nat → List Oper → Bool
  | _, [] => true
  | j, p :: r => (ordB b j i || kdApart (kindOp pm q o.op) (kindOp pm q p.op)) && apartAll pm q b i o (j + 1) r
def drawOkFrom (pm : Bool) (q : FuncId → Bool) (b : Array Nat) : Nat → List Oper → Bool
  | _, [] => true
  | i, o :: r => apartAll pm q b i o (i + 1) r && drawOkFrom pm q b (i + 1) r
def guardsOk (b : Array Nat) : Nat → List Oper → Bool
  | _, [] => true
  | i, o :: r => (match o.guard with | none => true | some (j, _) => Nat.blt j i && ordB b i j) && guardsOk b (i + 1) r
def edgesOk : Nat → List Oper → Bool
  | _, [] => true
  | i, o :: r => o.after.toList.all (fun e => !Region.binds .any e || Nat.blt e.on i) && edgesOk (i + 1) r
def opTmps : List Operand → List Nat
  | [] => []
  | .tmp t :: r => t :: opTmps r
  | _ :: r => opTmps r
def guardTmps (all : List Oper) (o : Oper) : List Nat :=
  match o.guard with
  | none => []
  | some (j, _) => match all[j]? with
    | none => []
    | some g => g.dst.toList
def looksL (all : List Oper) (o : Oper) : List Nat := guardTmps all o ++ opTmps o.op.operands.toList
def writersOk (b : Array Nat) (i t : Nat) : Nat → List Oper → Bool
  | _, [] => true
  | d, o :: r => (match o.dst with
    | some u => !Nat.beq u t || (Nat.beq d i || (match Nat.blt d i with | true => ordB b i d | false => ordB b d i))
    | none => true) && writersOk b i t (d + 1) r
def tmpsOk (b : Array Nat) (all : List Oper) : Nat → List Oper → Bool
  | _, [] => true
  | i, o :: r => (o.dst.toList ++ looksL all o).all (fun t => writersOk b i t 0 all) && tmpsOk b all (i + 1) r
def drawOk (pm : Bool) (q : FuncId → Bool) (ops : Array Oper) : Bool :=
  edgesOk 0 ops.toList && (tmpsOk (Region.before ops) ops.toList 0 ops.toList && (guardsOk (Region.before ops) 0 ops.toList && drawOkFrom pm q (Region.before ops) 0 ops.toList))
def maskH (b : Array Nat) (i n0 : Nat) (neu : Bool) : Nat → List Nat → List (Ob T) → List (Ob T)
  | _, _, [] => []
  | k, bs, o :: r => match neu with
    | true => .dead :: maskH b i n0 neu (k + 1) bs r
    | false => match Nat.blt k n0 with
      | true => o :: maskH b i n0 neu (k + 1) bs r
      | false => match bs with
        | j :: bs => (match ordB b i j with | true => o | false => .dead) :: maskH b i n0 neu (k + 1) bs r
        | [] => .dead :: maskH b i n0 neu (k + 1) bs r
def unmask (D : List Nat) : Nat → List (Ob T) → List (Ob T) → List (Ob T)
  | _, [], V => V
  | k, o :: r, v :: V => (match memN k D with | true => v | false => o) :: unmask D (k + 1) r V
  | _, _ :: _, [] => []
def repN (i : Nat) : Nat → List Nat
  | 0 => []
  | n + 1 => i :: repN i n
def isNeu : Kd → Bool
  | .neu => true
  | _ => false
def isPw : Kd → Bool
  | .pw => true
  | _ => false
def allIn (pw : Bool) (P : List Nat) : List Nat → Bool
  | [] => true
  | i :: r => (match pw with | true => memN i P | false => !memN i P) && allIn pw P r
def maskP (pw : Bool) (P : List Nat) : Nat → List (Ob T) → List (Ob T)
  | _, [] => []
  | k, o :: r => (match pw with
    | true => (match memN k P with | true => o | false => .dead)
    | false => (match memN k P with | true => .dead | false => o)) :: maskP pw P (k + 1) r
def mayTouch : Kd → List Nat → Bool
  | .wr, _ => true
  | .pw, _ => true
  | _, [] => true
  | _, _ :: _ => false
def envAt (env : List (Nat × Value)) : List Nat → List (Nat × Value)
  | [] => []
  | t :: r => (t, getE env t) :: envAt env r
def visId (b : Array Nat) (i n0 L : Nat) (bs : List Nat) (id : Nat) : Bool :=
  Nat.blt id n0 || (Nat.ble L id || (match bs[id - n0]? with | some j => ordB b i j | none => false))
def visV (vis : Nat → Bool) : Nat → Value → Bool
  | 0, _ => false
  | k + 1, v => match v with
    | .pointer (some a) => vis a.block
    | .slice (some a) _ _ => vis a.block
    | .func _ fs cs => fs.toList.all (visV vis k) && cs.toList.all (visV vis k)
    | .iface _ v => visV vis k v
    | .agg cs => cs.toList.all (visV vis k)
    | .tuple cs => cs.toList.all (visV vis k)
    | _ => true
def visOb (vis : Nat → Bool) : Ob T → Bool
  | .flat cs => cs.all (visV vis 4)
  | _ => true
def visH (vis : Nat → Bool) (D : List Nat) (L : Nat) : Nat → List (Ob T) → Bool
  | _, [] => true
  | k, o :: r => (match memN k D || Nat.ble L k with | true => visOb vis o | false => true) && visH vis D L (k + 1) r
def visE (vis : Nat → Bool) : Nat → List (Nat × Value) → Bool
  | 0, _ => true
  | _ + 1, [] => true
  | n + 1, p :: r => visV vis 4 p.2 && visE vis n r
def takeE : Nat → List (Nat × Value) → List (Nat × Value)
  | 0, _ => []
  | _ + 1, [] => []
  | n + 1, p :: r => p :: takeE n r
def opsDraw (cx : Cx T) (pm : Bool) (P : List Nat) (all : List Oper) (b : Array Nat) (n0 : Nat) : Nat → List Oper → List Nat → St T → Tr (RgOut T)
  | _, [], _, st => .leaf (.done st)
  | i, o :: r, bs, st => (oneOp cx all o { st with env := envAt st.env (looksL all o), heap := maskP (isPw (kindOp pm cx.quiet o.op)) P 0 (maskH b i n0 (isNeu (kindOp pm cx.quiet o.op)) 0 bs st.heap), dirty := [] }).bind fun
    | .done st' => match ((mayTouch (kindOp pm cx.quiet o.op) st'.dirty && allIn (isPw (kindOp pm cx.quiet o.op)) P st'.dirty) && (Nat.ble st.heap.length st'.heap.length && (Nat.ble st'.heap.length GB && st'.dirty.all (visId b i n0 st.heap.length bs)))) && (visH (visId b i n0 st.heap.length bs) st'.dirty st.heap.length 0 st'.heap && visE (visId b i n0 st.heap.length bs) (st'.env.length - (looksL all o).length) st'.env) with
      | true => opsDraw cx pm P all b n0 (i + 1) r (bs ++ repN i (st'.heap.length - st.heap.length))
          { st' with env := takeE (st'.env.length - (looksL all o).length) st'.env ++ st.env, heap := unmask st'.dirty 0 st.heap st'.heap, dirty := unionN st'.dirty st.dirty }
      | false => .fail
    | .pan _ _ => .fail
def defOf : List Oper → Nat → Option Op
  | [], _ => none
  | o :: r, t => match o.dst with
    | some u => match Nat.beq u t with | true => some o.op | false => defOf r t
    | none => defOf r t
def rootT (all : List Oper) : Nat → Operand → Option Nat
  | 0, _ => none
  | n + 1, x => match x with
    | .tmp t => match defOf all t with
      | none => some t
      | some op => match op with
        | .move x => rootT all n x
        | .nilCheck x => rootT all n x
        | .fieldAddr _ x _ => rootT all n x
        | .indexAddr _ x _ => rootT all n x
        | _ => none
    | _ => none
def rootsP (all : List Oper) (env : List (Nat × Value)) : List Oper → List Nat
  | [] => []
  | o :: r => match o.op with
    | .store _ a _ => match rootT all 8 a with
      | some t => match getE env t with
        | .pointer (some ⟨id, _, _⟩) => addN id (rootsP all env r)
        | _ => rootsP all env r
      | none => rootsP all env r
    | _ => rootsP all env r
def opsDrawB (cx : Cx T) (ops : Array Oper) (st : St T) : Tr (RgOut T) :=
  match drawOk false cx.quiet ops with
  | true => opsDraw cx false [] ops.toList (Region.before ops) st.heap.length 0 ops.toList [] st
  | false => match drawOk true cx.quiet ops with
    | true => opsDraw cx true (rootsP ops.toList st.env ops.toList) ops.toList (Region.before ops) st.heap.length 0 ops.toList [] st
    | false => .fail
def nopOf (o : Oper) : Oper := { o with op := .move (.const (.bool true)), guard := none, dst := none }
def allB (b : Array Nat) (n : Nat) : Nat → Bool
  | 0 => true
  | j + 1 => ordB b n j && allB b n j
def lastL : List Oper → Option (List Oper × Oper)
  | [] => none
  | [o] => some ([], o)
  | x :: y :: r => match lastL (y :: r) with
    | some (l, o) => some (x :: l, o)
    | none => none
def lastP (ops : Array Oper) : Option (List Oper × Oper) :=
  match lastL ops.toList with
  | some (l, o) => match o.op, o.guard with
    | .call c, none => match c.callee with
      | .value (.func _) => match allB (Region.before ⟨l ++ [nopOf o]⟩) l.length l.length with
        | true => some (l, o)
        | false => none
      | _ => none
    | _, _ => none
  | none => none
def opsDrawA (cx : Cx T) (ops : Array Oper) (st : St T) : Tr (RgOut T) :=
  match lastP ops with
  | none => opsDrawB cx ops st
  | some (l, o) => (opsDrawB cx ⟨l ++ [nopOf o]⟩ st).bind fun
    | .done st1 => oneOp cx ops.toList o st1
    | .pan _ _ => .fail
def below1 (n : Nat) : Value → Bool
  | .pointer (some ⟨id, _, _⟩) => Nat.blt id n || Nat.ble GB id
  | .slice (some ⟨id, _, _⟩) _ _ => Nat.blt id n || Nat.ble GB id
  | .func (.func _) first cap => match first.toList, cap.toList with | [], [] => true | _, _ => false
  | .pointer none | .slice none _ _ | .nilFunc | .nilIface | .bool _ | .int _ _ | .string _ => true
  | _ => false
def mergeEnv (b : Bool) (n : Nat) (e1 e2 : List (Nat × Value)) : List Nat → List (Nat × Value)
  | [] => []
  | t :: r => (t, mergeV b n (getE e1 t) (getE e2 t)) :: mergeEnv b n e1 e2 r
def freshKeys : Nat → List (Nat × Value) → List Nat → List Nat
  | 0, _, acc => acc
  | _ + 1, [], acc => acc
  | k + 1, (t, _) :: r, acc => freshKeys k r (addN t acc)
def mergeOb (b : Bool) (n : Nat) (x y : Ob T) : Ob T :=
  match x, y with
  | .flat cs, .flat cs' => match mergeL b n cs cs' with | some l => .flat l | none => .dead
  | .row w e xs, .row w' e' ys => match castRow e' e ys with | some ys => .row (w && w') e (bif b then xs else ys) | none => .dead
  | _, _ => .dead
def mergeHeap (b : Bool) (n : Nat) (D : List Nat) : Nat → List (Ob T) → List (Ob T) → List (Ob T) → List (Ob T)
  | _, [], _, _ => []
  | i, o :: r, h1, h2 => (match memN i D with
      | true => match h1 with
        | x :: _ => (match h2 with | y :: _ => mergeOb b n x y | [] => .dead)
        | [] => .dead
      | false => o) :: mergeHeap b n D (i + 1) r h1.tail h2.tail
def interN : List Nat → List Nat → List Nat
  | [], _ => []
  | i :: r, m => match memN i m with | true => i :: interN r m | false => interN r m
def mergeSt (b : Bool) (st s1 s2 : St T) : St T :=
  let keys := freshKeys (s2.env.length - st.env.length) s2.env (freshKeys (s1.env.length - st.env.length) s1.env [])
  let n := st.heap.length
  let D := unionN s1.dirty s2.dirty
  { env := mergeEnv b n s1.env s2.env keys ++ st.env, heap := mergeHeap b n D 0 st.heap s1.heap s2.heap, dirty := D, known := interN s1.known s2.known, gen := st.gen, ok := bif b then s1.ok else s2.ok }
inductive It where
  | code (c : Code)
  | inBlock (id : Nat)
  | loop (c : Code)
  | inScope
inductive Stop (T : TypeId → VS) where
  | done (st : St T)
  | exit (id : Nat) (st : St T)
  | ret (st : St T)
  | pan (v : Value) (st : St T)
  | cut (todo : List It) (st : St T)
def joinT (st : St T) : Tr (Stop T) → Tr (Stop T)
  | .node b t e => match joinT st t, joinT st e with
    | .leaf (.done s1), .leaf (.done s2) => match Nat.beq s1.gen st.gen && Nat.beq s2.gen st.gen with
      | true => .leaf (.done (mergeSt b st s1 s2))
      | false => .node b (.leaf (.done s1)) (.leaf (.done s2))
    | t, e => .node b t e
  | .leaf s => .leaf s
  | .fail => .fail
def redirty (D : List Nat) (st : St T) : St T := { st with dirty := unionN st.dirty D }
def Stop.redirty (D : List Nat) : Stop T → Stop T
  | .done st => .done (Ls.redirty D st)
  | .exit i st => .exit i (Ls.redirty D st)
  | .ret st => .ret (Ls.redirty D st)
  | .pan v st => .pan v (Ls.redirty D st)
  | .cut l st => .cut l (Ls.redirty D st)
def condTmp : Operand → Option Nat
  | .tmp t => some t
  | _ => none
def findSS : List (Nat × SS) → Nat → Option SS
  | [], _ => none
  | (j, s) :: r, i => match Nat.beq j i with | true => some s | false => findSS r i
@[reducible] def chain : List (Nat × VS) → VS
  | [] => .unit
  | (_, s) :: r => .pair s (chain r)
def envVals (env : List (Nat × Value)) : List (Nat × VS) → List Value
  | [] => []
  | (t, _) :: r => getE env t :: envVals env r
def zipKeys : List (Nat × VS) → List Value → List (Nat × Value)
  | (t, _) :: r, v :: s => (t, v) :: zipKeys r s
  | _, _ => []
@[reducible] def SS.ty (T : TypeId → VS) (s : SS) : Type := (chain s.temps).ty × tysO T s.heap
def asg0 : Nat → List Eff → Asg
  | _, [] => []
  | i, .kill :: r => asg0 (i + 1) r
  | i, _ :: r => (i, .obj i) :: asg0 (i + 1) r
def tgtIds : Asg → List Nat
  | [] => []
  | (_, .obj b) :: r => b :: tgtIds r
  | (_, .view b _ _) :: r => b :: tgtIds r
  | (_, .nil) :: r => tgtIds r
def nodupN : List Nat → Bool
  | [] => true
  | i :: r => match memN i r with | true => false | false => nodupN r
def keysOk (m : Nat) : Asg → Bool
  | [] => true
  | (i, _) :: r => Nat.blt i m && keysOk m r
def subN : List Nat → List Nat → Bool
  | [], _ => true
  | i :: r, l => match memN i l with | true => subN r l | false => false
def belowN (m : Nat) : List Nat → List Nat
  | [] => []
  | i :: r => match Nat.blt i m with | true => i :: belowN m r | false => belowN m r
def SS.dec (glob : Nat → Option (Ob T)) (ef : List Eff) (s : SS) (st : St T) : Option (s.ty T) :=
  match (chain s.temps).dec true (envVals st.env s.temps) (asg0 0 ef) with
  | some (x, [], A) => match decO glob st.heap s.heap 0 A with
    | some (y, A) => match nodupN (tgtIds A) && keysOk s.heap.length A, subN (belowN ef.length st.dirty) s.dirty, Nat.ble s.heap.length GB with
      | true, true, true => some (x, y)
      | _, _, _ => none
    | none => none
  | _ => none
def SS.st (s : SS) (gen : Nat) (v : s.ty T) : St T :=
  { env := zipKeys s.temps ((chain s.temps).enc rid true v.1 []), heap := encO rid s.heap v.2, dirty := s.dirty, known := [], gen := gen, ok := true }
def joinSS (glob : Nat → Option (Ob T)) (ef : List Eff) (s : SS) : Tr (Stop T) → Tr (Stop T)
  | .node b t e => match joinSS glob ef s t, joinSS glob ef s e with
    | .leaf (.done s1), .leaf (.done s2) => match s.dec glob ef s1, s.dec glob ef s2 with
      | some x, some y => .leaf (.done { s.st (s1.gen + s2.gen + 1) (bif b then x else y : s.ty T) with ok := bif b then s1.ok else s2.ok })
      | _, _ => .fail
    | t, e => .node b t e
  | .leaf s => .leaf s
  | .fail => .fail
def joinAt (cx : Cx T) (ef : List Eff) (x : Operand) (st : St T) (t : Tr (Stop T)) : Tr (Stop T) :=
  match condTmp x with
  | none => t
  | some k => match memN k cx.nojoin with
    | true => t
    | false => match findSS cx.joins k with
      | some s => joinSS cx.glob ef s t
      | none => joinT st t
def ofRg : RgOut T → Tr (Stop T)
  | .done st => .leaf (.done st)
  | .pan v st => .leaf (.pan v st)
def joinR (cx : Cx T) (id : Nat) (st : St T) (t : Tr (Stop T)) : Tr (Stop T) :=
  match memN (1000000 + id) cx.nojoin with
  | true => t
  | false => joinT st t
def keyC : Code → Nat
  | .region id _ _ => id + 1
  | .seq a b => match keyC a with | 0 => keyC b | n => n
  | .cond _ a b => match keyC a with | 0 => keyC b | n => n
  | .block _ a => keyC a
  | .loop a => keyC a
  | .scope a => keyC a
  | _ => 0
def stopAt (cx : Cx T) (c : Code) : Bool :=
  match cx.stops with
  | [] => false
  | i :: r => memN (keyC c) (i :: r)
def runC (cx : Cx T) (ef : List Eff) : Code → St T → Tr (Stop T)
  | .skip, st => .leaf (.done st)
  | .region id ops draw, st => (joinR cx id { st with dirty := [] } (match draw with
      | false => (opsL cx ops.toList ops.toList { st with dirty := [] }).bind ofRg
      | true => (opsDrawA cx ops { st with dirty := [] }).bind ofRg)).bind fun s => .leaf (s.redirty st.dirty)
  | .seq a b, st => (runC cx ef a st).bind fun
    | .done st => match stopAt cx b with
      | true => .leaf (.cut [.code b] st)
      | false => runC cx ef b st
    | .cut l st => .leaf (.cut (l ++ [.code b]) st)
    | s => .leaf s
  | .cond x a b, st => joinAt cx ef x { st with dirty := [] }
      ((splitOn cx { st with dirty := [] } x).bind fun p => match p with
        | (true, st) => runC cx ef a st
        | (false, st) => runC cx ef b st)
      |>.bind fun s => .leaf (s.redirty st.dirty)
  | .block id a, st => (runC cx ef a st).bind fun
    | .exit i st => match Nat.beq i id with | true => .leaf (.done st) | false => .leaf (.exit i st)
    | .cut l st => .leaf (.cut (l ++ [.inBlock id]) st)
    | s => .leaf s
  | .loop a, st => .leaf (.cut [.loop a] st)
  | .scope a, st => (runC cx ef a st).bind fun
    | .cut l st => .leaf (.cut (l ++ [.inScope]) st)
    | s => .leaf s
  | .label _, st => .leaf (.done st)
  | .exit id, st => .leaf (.exit id st)
  | .ret, st => .leaf (.ret st)
  | _, _ => .fail
def resume (cx : Cx T) (ef : List Eff) : List It → Stop T → Tr (Stop T)
  | [], s => .leaf s
  | i :: r, s => match s with
    | .done st => match i with
      | .code c => (runC cx ef c st).bind (resume cx ef r)
      | .inBlock _ => resume cx ef r (.done st)
      | .inScope => resume cx ef r (.done st)
      | .loop c => .leaf (.cut (.loop c :: r) st)
    | .exit id st => match i with
      | .inBlock id' => match Nat.beq id id' with
        | true => resume cx ef r (.done st)
        | false => resume cx ef r (.exit id st)
      | _ => resume cx ef r (.exit id st)
    | .cut l st => .leaf (.cut (l ++ i :: r) st)
    | s => .leaf s
def roundL (cx : Cx T) (ef : List Eff) : List It → St T → Tr (Stop T)
  | .loop c :: r, st => (runC cx ef c st).bind (resume cx ef (.loop c :: r))
  | .code c :: r, st => (runC cx ef c st).bind (resume cx ef r)
  | _, _ => .fail
def Sig.m (g : Sig) : Nat := g.hp.length
@[reducible] def outs : List OS → List Eff → List OS
  | [], _ => []
  | o :: r, .upd :: s => o :: outs r s
  | _ :: r, _ :: s => .dead :: outs r s
  | _ :: r, [] => .dead :: outs r []
@[reducible] def overO : List OS → List OS → List OS
  | l, [] => l
  | [], _ => []
  | _ :: r, o :: s => o :: overO r s
@[reducible] def Sig.out (g : Sig) : List OS := outs (overO g.hp g.hpo) g.eff ++ g.news
@[reducible] def Sig.pv (g : Sig) : VS := match g.pan with | some s => s | none => .unit
structure Res (T : TypeId → VS) (g : Sig) where
  ok : Bool
  pan : Bool
  ret : g.ret.ty
  out : tysO T g.out
  pv : g.pv.ty
def Res.bad (g : Sig) : Res T g := ⟨false, false, g.ret.dflt, dfltO g.out, g.pv.dflt⟩
def keptIds : Nat → List Eff → List Nat
  | _, [] => []
  | i, .keep :: r => i :: keptIds (i + 1) r
  | i, _ :: r => keptIds (i + 1) r
def disjN : List Nat → List Nat → Bool
  | [], _ => true
  | i :: r, l => match memN i l with | true => false | false => disjN r l
def resultV (cx : Cx T) (st : St T) : List ResultVar → Option (List Value × St T)
  | [] => some ([], st)
  | .tmp t :: r => match resultV cx st r with | some (l, st') => some (getE st.env t :: l, st') | none => none
  | .cell a t :: r => match loadL cx st.heap t (getE st.env a) with
    | some (v, g) => match resultV cx st r with | some (l, st') => some (v :: l, st'.need g) | none => none
    | none => none
def widen (H : List (Ob T)) (s : VS) (l : List Value) : List Value :=
  match s with
  | .gsl _ => match l with
    | [.slice (some ⟨b, 0, none⟩) 0 0] => match H[b]? with
      | some (.row _ _ xs) => [.slice (some ⟨b, 0, some 0⟩) xs.length xs.length]
      | _ => l
    | _ => l
  | _ => l
def retDec (cx : Cx T) (g : Sig) (fn : Func) (st : St T) : Res T g :=
  match resultV cx st fn.results.toList with
  | some (vs, st) => match g.ret.dec true (widen st.heap g.ret (match vs with | [v] => [v] | vs => [.tuple ⟨vs⟩])) (asg0 0 g.eff) with
    | some (x, [], A) => match decO cx.glob st.heap g.out 0 A with
      | some (y, A) => match nodupN (tgtIds A) && (keysOk g.out.length A && Nat.ble g.out.length GB), disjN (keptIds 0 g.eff) st.dirty with
        | true, true => ⟨st.ok, false, x, y, g.pv.dflt⟩
        | _, _ => .bad g
      | none => .bad g
    | _ => .bad g
  | none => .bad g
def panDec (cx : Cx T) (g : Sig) (v : Value) (st : St T) : Res T g :=
  match g.pan with
  | none => .bad g
  | some _ => match g.pv.dec true [v] [] with
    | some (x, [], _) => match disjN (keptIds 0 g.eff) st.dirty, g.pv.plainI with
      | true, true => ⟨st.ok, true, g.ret.dflt, dfltO g.out, x⟩
      | _, _ => .bad g
    | _ => .bad g
def keyOf : List It → Nat
  | .loop c :: _ => keyC c
  | .code c :: _ => keyC c
  | _ => 0
def finishT (cx : Cx T) (g : Sig) (fn : Func) (K : List It → St T → Res T g) : Tr (Stop T) → Res T g
  | .node b t e => bif b then finishT cx g fn K t else finishT cx g fn K e
  | .leaf s => match s with
    | .ret st => retDec cx g fn st
    | .done st => retDec cx g fn st
    | .pan v st => panDec cx g v st
    | .cut todo st => K todo st
    | .exit _ _ => .bad g
  | .fail => .bad g
def argEnv : Nat → List Value → List (Nat × Value)
  | _, [] => []
  | i, v :: r => (i, v) :: argEnv (i + 1) r
def st0 (g : Sig) (a : g.args.ty) (h : tysO T g.hp) : St T :=
  { env := argEnv 0 (g.args.enc rid true a []), heap := encO rid g.hp h, dirty := [], known := [], gen := 0, ok := true }
def bindIds : List OS → Nat → Asg → List (Ob T) → List Nat × List (Ob T)
  | [], _, _, H => ([], H)
  | o :: r, i, A, H => match A.find i with
    | some (.obj b) => (b :: (bindIds r (i + 1) A H).1, (bindIds r (i + 1) A H).2)
    | some .nil => match o with
      | .row _ e => (H.length :: (bindIds r (i + 1) A (H ++ [.row true e []])).1, (bindIds r (i + 1) A (H ++ [.row true e []])).2)
      | _ => (H.length :: (bindIds r (i + 1) A (H ++ [.dead])).1, (bindIds r (i + 1) A (H ++ [.dead])).2)
    | _ => (H.length :: (bindIds r (i + 1) A (H ++ [.dead])).1, (bindIds r (i + 1) A (H ++ [.dead])).2)
def rho (base m : Nat) (l : List Nat) (i : Nat) : Nat :=
  match Nat.ble GB i with
  | true => i
  | false => match Nat.blt i m with
    | true => l.getD i 0
    | false => base + (i - m)
def applyOut : List Eff → List (Ob T) → List Nat → List (Ob T) → List (Ob T)
  | .upd :: s, o :: os, i :: l, H => applyOut s os l (setO H i o)
  | .keep :: s, _ :: os, _ :: l, H => applyOut s os l H
  | .kill :: s, _ :: os, i :: l, H => applyOut s os l (setO H i .dead)
  | _, _, _, H => H
def touched : List Eff → List Nat → List Nat
  | .keep :: s, _ :: l => touched s l
  | _ :: s, i :: l => i :: touched s l
  | _, _ => []
def killIds : List Eff → List Nat → Nat → List Nat
  | .kill :: s, _ :: l, n => n :: killIds s l (n + 1)
  | _ :: s, i :: l, n => i :: killIds s l n
  | _, _, _ => []
def kills : List Eff → List (Ob T)
  | .kill :: s => .dead :: kills s
  | _ :: s => kills s
  | [] => []
def deaden : List Nat → List (Ob T) → List (Ob T)
  | [], H => H
  | i :: r, H => deaden r (setO H i .dead)
def viewsKept : Nat → List Eff → Asg → Bool
  | _, [], _ => true
  | i, .keep :: r, A => viewsKept (i + 1) r A
  | i, _ :: r, A => match A.find i with
    | some (.view _ _ _) => false
    | _ => viewsKept (i + 1) r A
def headV : List Value → Value
  | v :: _ => v
  | [] => undef
def effOk : List Eff → List OS → Bool
  | [], [] => true
  | .keep :: r, _ :: s => effOk r s
  | _ :: _, .row false _ :: _ => false
  | _ :: r, _ :: s => effOk r s
  | _, _ => false
def wrap (glob : Nat → Option (Ob T)) (g : Sig) (F : g.args.ty → tysO T g.hp → Res T g) (args : List Value) (H : List (Ob T)) : Tr (CallOut T) :=
  match g.args.dec true args [] with
  | some (a, [], A) => match decO glob H g.hp 0 A with
    | some (h, A) => match nodupN (tgtIds A) && keysOk g.hp.length A, viewsKept 0 g.eff A, (effOk g.eff g.hp && Nat.ble g.hp.length GB) with
      | true, true, true =>
        let ids := (bindIds g.hp 0 A H).1
        let H1 := (bindIds g.hp 0 A H).2 ++ kills g.eff
        let ρ := rho H1.length g.m (killIds g.eff ids (bindIds g.hp 0 A H).2.length)
        let os := encO ρ g.out (F a h).out
        let D := touched g.eff ids
        let r : Tr (CallOut T) := .leaf (.ret (headV (g.ret.enc ρ true (F a h).ret [])) (applyOut g.eff os ids H1 ++ os.drop g.m) D (F a h).ok)
        match g.pan with
        | none => r
        | some _ => .node (F a h).pan (.leaf (.pan (headV (g.pv.enc rid true (F a h).pv [])) (deaden D H) D (F a h).ok)) r
      | _, _, _ => .fail
    | none => .fail
  | _ => .fail
end
end
end Go.Proofs.YtlflclfhldghbaaGreatDoor.Ls
end
section
namespace Go.Proofs.YtlflclfhldghbaaGreatDoor.Ls
open Go
structure Loc where
  blk : Nat
  base : Nat
  lim : Nat
  es : Nat
  n : Nat
  rw : Bool
abbrev Emb := Nat → Loc
def locA (E : Emb) (a : Addr) : Addr :=
  match a.spot with
  | none => ⟨(E a.block).blk, (E a.block).base + a.off, none⟩
  | some j => ⟨(E a.block).blk, (E a.block).base + a.off * (E a.block).es + j, none⟩
def okId (N id : Nat) : Prop := id < N ∨ GB ≤ id
theorem okId.mono {N N' id : Nat} (h : okId N id) (hN : N ≤ N') : okId N' id := h.imp (fun h => Nat.lt_of_lt_of_le h hN) (fun h => h)
inductive VR (E : Emb) (N : Nat) : Value → Value → Prop
  | any (v : Value) : VR E N undef v
  | scal (v : Value) (h : scalar v = true) : VR E N v v
  | ptr (a : Addr) (h : okId N a.block) : VR E N (.pointer (some a)) (.pointer (some (locA E a)))
  | wsl (id c : Nat) (h : okId N id) (hc : (E id).n ≤ c) (hl : c ≤ (E id).lim) :
      VR E N (.slice (some ⟨id, 0, none⟩) 0 0) (.slice (some ⟨(E id).blk, (E id).base, none⟩) (E id).n c)
  | wsl0 (id : Nat) (x : Option Addr) (h : okId N id) (hn : (E id).n = 0) : VR E N (.slice (some ⟨id, 0, none⟩) 0 0) (.slice x 0 0)
  | gsl (id o n c c' : Nat) (h : okId N id) (hn : n ≤ c) (hc : c ≤ c') (hN : o + c ≤ (E id).n) (hl : o + c' ≤ (E id).lim) :
      VR E N (.slice (some ⟨id, o, some 0⟩) n c) (.slice (some (locA E ⟨id, o, some 0⟩)) n c')
  | gsl0 (id o : Nat) (x : Option Addr) (h : okId N id) (hN : o ≤ (E id).n) : VR E N (.slice (some ⟨id, o, some 0⟩) 0 0) (.slice x 0 0)
  | fsl (id o n c : Nat) (h : okId N id) (hn : n ≠ 0) (hc : n ≤ c) :
      VR E N (.slice (some ⟨id, o, none⟩) n n) (.slice (some (locA E ⟨id, o, none⟩)) n c)
  | func (fn : Fn) (fs fs' cs cs' : Array Value) (h1 : fs.size = fs'.size) (h2 : ∀ (i : Nat) (v v' : Value), fs[i]? = some v → fs'[i]? = some v' → VR E N v v')
      (h3 : cs.size = cs'.size) (h4 : ∀ (i : Nat) (v v' : Value), cs[i]? = some v → cs'[i]? = some v' → VR E N v v') : VR E N (.func fn fs cs) (.func fn fs' cs')
  | iface (t : TypeId) (v v' : Value) (h : VR E N v v') : VR E N (.iface t v) (.iface t v')
  | agg (cs cs' : Array Value) (h1 : cs.size = cs'.size) (h2 : ∀ (i : Nat) (v v' : Value), cs[i]? = some v → cs'[i]? = some v' → VR E N v v') : VR E N (.agg cs) (.agg cs')
  | tup (cs cs' : Array Value) (h1 : cs.size = cs'.size) (h2 : ∀ (i : Nat) (v v' : Value), cs[i]? = some v → cs'[i]? = some v' → VR E N v v') : VR E N (.tuple cs) (.tuple cs')
  | skip : VR E N (.chan (some 0)) undef
theorem locA_eq {E E' : Emb} {a : Addr} (h : E' a.block = E a.block) : locA E' a = locA E a := by
  unfold locA; rw [h]
theorem VR.mono {E E' : Emb} {N N' : Nat} {v v' : Value} (h : VR E N v v') (hE : ∀ id, okId N id → E' id = E id) (hN : N ≤ N') : VR E' N' v v' := by
  induction h with
  | any v => exact .any v
  | scal v h => exact .scal v h
  | ptr a h =>
    have := VR.ptr (E := E') (N := N') a (h.mono hN)
    rwa [locA_eq (hE _ h)] at this
  | wsl id c h hc hl =>
    have e := hE _ h
    have := VR.wsl (E := E') (N := N') id c (h.mono hN) (by rw [e]; exact hc) (by rw [e]; exact hl)
    rwa [e] at this
  | wsl0 id x h hn => exact .wsl0 id x (h.mono hN) (by rw [hE _ h]; exact hn)
  | gsl id o n c c' h hn hc hN' hl =>
    have e := hE _ h
    have := VR.gsl (E := E') (N := N') id o n c c' (h.mono hN) hn hc (by rw [e]; exact hN') (by rw [e]; exact hl)
    rwa [locA_eq (a := ⟨id, o, some 0⟩) e] at this
  | gsl0 id o x h hN' => exact .gsl0 id o x (h.mono hN) (by rw [hE _ h]; exact hN')
  | fsl id o n c h hn hc =>
    have := VR.fsl (E := E') (N := N') id o n c (h.mono hN) hn hc
    rwa [locA_eq (a := ⟨id, o, none⟩) (hE _ h)] at this
  | func fn fs fs' cs cs' h1 h2 h3 h4 ih2 ih4 => exact .func fn fs fs' cs cs' h1 ih2 h3 ih4
  | iface t v v' h ih => exact .iface t v v' ih
  | agg cs cs' h1 h2 ih => exact .agg cs cs' h1 ih
  | tup cs cs' h1 h2 ih => exact .tup cs cs' h1 ih
  | skip => exact .skip
def PW (E : Emb) (N : Nat) (l l' : List Value) : Prop := l.length = l'.length ∧ ∀ (i : Nat) (v v' : Value), l[i]? = some v → l'[i]? = some v' → VR E N v v'
theorem PW.nil {E : Emb} {N : Nat} : PW E N [] [] := ⟨rfl, fun i v v' h => by simp at h⟩
theorem PW.cons {E : Emb} {N : Nat} {v v' : Value} {l l' : List Value} (h : VR E N v v') (hl : PW E N l l') : PW E N (v :: l) (v' :: l') :=
  ⟨by simp [hl.1], fun i u u' hu hu' => by
    cases i with
    | zero => simp at hu hu'; subst hu; subst hu'; exact h
    | succ i => exact hl.2 i u u' (by simpa using hu) (by simpa using hu')⟩
theorem PW.inv_nil {E : Emb} {N : Nat} {l' : List Value} (h : PW E N [] l') : l' = [] := by
  have := h.1; simp at this; exact List.eq_nil_of_length_eq_zero this.symm
theorem PW.inv_cons {E : Emb} {N : Nat} {v : Value} {l l' : List Value} (h : PW E N (v :: l) l') : ∃ u r, l' = u :: r ∧ VR E N v u ∧ PW E N l r := by
  cases l' with
  | nil => have := h.1; simp at this
  | cons u r => exact ⟨u, r, rfl, h.2 0 v u rfl rfl, by have := h.1; simpa using this, fun i x x' hx hx' => h.2 (i + 1) x x' (by simpa using hx) (by simpa using hx')⟩
theorem PW.append {E : Emb} {N : Nat} {l l' m m' : List Value} (h : PW E N l l') (k : PW E N m m') : PW E N (l ++ m) (l' ++ m') := by
  induction l generalizing l' with
  | nil => rw [h.inv_nil]; exact k
  | cons v r ih => obtain ⟨u, r', rfl, hv, hr⟩ := h.inv_cons; exact .cons hv (ih hr)
theorem PW.mono {E E' : Emb} {N N' : Nat} {l l' : List Value} (h : PW E N l l') (hE : ∀ id, okId N id → E' id = E id) (hN : N ≤ N') : PW E' N' l l' :=
  ⟨h.1, fun i v v' hv hv' => (h.2 i v v' hv hv').mono hE hN⟩
theorem PW.drop {E : Emb} {N : Nat} {l l' : List Value} (h : PW E N l l') (n : Nat) : PW E N (l.drop n) (l'.drop n) :=
  ⟨by simp [h.1], fun i v v' hv hv' => h.2 (n + i) v v' (by simpa using hv) (by simpa using hv')⟩
theorem PW.take {E : Emb} {N : Nat} {l l' : List Value} (h : PW E N l l') (n : Nat) : PW E N (l.take n) (l'.take n) :=
  ⟨by simp [h.1], fun i v v' hv hv' => by
    rw [List.getElem?_take] at hv hv'
    split at hv
    · next hi => rw [if_pos hi] at hv'; exact h.2 i v v' hv hv'
    · cases hv⟩
theorem PW.get {E : Emb} {N : Nat} {l l' : List Value} (h : PW E N l l') {i : Nat} {v : Value} (hv : l[i]? = some v) : ∃ v', l'[i]? = some v' ∧ VR E N v v' := by
  have hi : i < l'.length := by rw [← h.1]; exact (List.getElem?_eq_some_iff.1 hv).1
  exact ⟨l'[i], by simp [hi], h.2 i v _ hv (by simp [hi])⟩
theorem PW.splice {E : Emb} {N : Nat} {l l' m m' : List Value} (h : PW E N l l') (k : PW E N m m') (o : Nat) : PW E N (splice l o m) (splice l' o m') := by
  unfold Ls.splice; rw [← k.1]
  exact (h.take o).append (k.append (h.drop _))
theorem VR.agg_inv {E : Emb} {N : Nat} {cs : Array Value} {v' : Value} (h : VR E N (.agg cs) v') : ∃ cs', v' = .agg cs' ∧ PW E N cs.toList cs'.toList := by
  cases h with
  | scal _ hs => simp [scalar] at hs
  | agg _ cs' h1 h2 => exact ⟨cs', rfl, by simpa using h1, fun i v v' hv hv' => h2 i v v' (by simpa using hv) (by simpa using hv')⟩
theorem VR.agg_mk {E : Emb} {N : Nat} {cs cs' : List Value} (h : PW E N cs cs') : VR E N (.agg ⟨cs⟩) (.agg ⟨cs'⟩) :=
  .agg _ _ (by simpa using h.1) (fun i v v' hv hv' => h.2 i v v' (by simpa using hv) (by simpa using hv'))
theorem VR.tup_mk {E : Emb} {N : Nat} {cs cs' : List Value} (h : PW E N cs cs') : VR E N (.tuple ⟨cs⟩) (.tuple ⟨cs'⟩) :=
  .tup _ _ (by simpa using h.1) (fun i v v' hv hv' => h.2 i v v' (by simpa using hv) (by simpa using hv'))
theorem VR.scalar_eq {E : Emb} {N : Nat} {v v' : Value} (h : VR E N v v') (hs : ground1 v = true) : v' = v := by
  cases h <;> first | rfl | (simp [ground1, undef] at hs)
theorem VR.cells {E : Emb} {N : Nat} {v v' : Value} (h : VR E N v v') (hu : isUndef v = false) : PW E N (cellsL v) v'.cells.toList := by
  have one : ∀ {v v' : Value}, VR E N v v' → (∀ cs, v ≠ .agg cs) → (∀ cs, v' ≠ .agg cs) → PW E N (cellsL v) v'.cells.toList := by
    intro v v' h h1 h2
    have e1 : cellsL v = [v] := by cases v <;> first | rfl | exact absurd rfl (h1 _)
    have e2 : v'.cells.toList = [v'] := by cases v' <;> first | rfl | exact absurd rfl (h2 _)
    rw [e1, e2]; exact .cons h .nil
  cases h with
  | any v => simp [isUndef, undef] at hu
  | scal v hs =>
    refine one (.scal v hs) ?_ ?_ <;> (intro cs e; subst e; simp [scalar] at hs)
  | agg cs cs' h1 h2 => exact ⟨by simpa [cellsL, Value.cells] using h1, fun i v v' hv hv' => h2 i v v' (by simpa [cellsL] using hv) (by simpa [Value.cells] using hv')⟩
  | tup cs cs' h1 h2 => simp [isUndef] at hu
  | skip => simp [isUndef] at hu
  | ptr a h => exact one (.ptr a h) (by simp) (by simp)
  | wsl id c h hc hl => exact one (.wsl id c h hc hl) (by simp) (by simp)
  | wsl0 id x h hn => exact one (.wsl0 id x h hn) (by simp) (by simp)
  | gsl id o n c c' h hn hc hN hl => exact one (.gsl id o n c c' h hn hc hN hl) (by simp) (by simp)
  | gsl0 id o x h hN => exact one (.gsl0 id o x h hN) (by simp) (by simp)
  | fsl id o n c h hn hc => exact one (.fsl id o n c h hn hc) (by simp) (by simp)
  | func fn fs fs' cs cs' h1 h2 h3 h4 => exact one (.func fn fs fs' cs cs' h1 h2 h3 h4) (by simp) (by simp)
  | iface t v v' h => exact one (.iface t v v' h) (by simp) (by simp)
section
variable {T : TypeId → VS}
theorem plain_ground (ρ : Nat → Nat) : ∀ (s : VS), s.plain = true → ∀ (x : s.ty) (l : List Value), (∀ v ∈ l, ground1 v = true) → ∀ v ∈ s.enc ρ false x l, ground1 v = true := by
  intro s
  induction s with
  | unit => intro _ x l hl; simpa [VS.enc] using hl
  | bool => intro _ x l hl v hv; simp [VS.enc] at hv; rcases hv with rfl | hv; rfl; exact hl v hv
  | str => intro _ x l hl v hv; simp [VS.enc] at hv; rcases hv with rfl | hv; rfl; exact hl v hv
  | int k => intro _ x l hl v hv; simp [VS.enc] at hv; rcases hv with rfl | hv; rfl; exact hl v hv
  | agg s ih => intro h x l hl; simp only [VS.enc]; exact ih h x l hl
  | pair a b iha ihb =>
    intro h x l hl
    simp [VS.plain] at h
    simp only [VS.enc]
    exact iha h.1 x.1 _ (ihb h.2 x.2 l hl)
  | _ => intro h; simp [VS.plain] at h
theorem plain_len (ρ : Nat → Nat) : ∀ (s : VS) (x : s.ty) (l : List Value), (s.enc ρ false x l).length = s.size + l.length := by
  intro s
  induction s with
  | unit => intro x l; simp [VS.enc, VS.size]
  | agg s ih => intro x l; simp only [VS.enc, VS.size]; exact ih x l
  | pair a b iha ihb => intro x l; simp only [VS.enc, VS.size]; rw [iha, ihb]; omega
  | _ => intro x l; simp [VS.enc, VS.size]; try omega
theorem encAll_ground (s : VS) (h : s.plain = true) : ∀ (xs : List s.ty), ∀ v ∈ encAll s xs, ground1 v = true
  | [] => by simp [encAll]
  | x :: r => plain_ground id s h x _ (encAll_ground s h r)
theorem encAll_len (s : VS) : ∀ (xs : List s.ty), (encAll s xs).length = xs.length * s.size
  | [] => by simp [encAll]
  | x :: r => by simp only [encAll]; rw [plain_len, encAll_len s r]; simp [Nat.add_mul]; omega
def ObR (E : Emb) (N id : Nat) (w : World) : Ob T → Prop
  | .dead => True
  | .flat cs => ∃ c e, w.heap[(E id).blk]? = some (.cells c e (0, 0)) ∧ (E id).base + cs.length ≤ c.size ∧
      ∀ i v, cs[i]? = some v → ∃ v', c[(E id).base + i]? = some v' ∧ VR E N v v'
  | .row wr e xs => (T e).plain = true ∧ (E id).es = (T e).size ∧ (E id).n = xs.length ∧ (E id).n ≤ (E id).lim ∧
      ((E id).lim = 0 ∨ ∃ c t fr, w.heap[(E id).blk]? = some (.cells c t fr) ∧ (wr = true → fr = (0, 0) ∧ (E id).base + (E id).lim * (E id).es ≤ c.size ∧ (E id).rw = true) ∧
        (E id).base + xs.length * (E id).es ≤ c.size ∧ ∀ i v, (encAll (T e) xs)[i]? = some v → c[(E id).base + i]? = some v)
def solid0 (E : Emb) (id : Nat) : Ob T → Prop
  | .dead => False
  | .flat _ => True
  | .row _ _ _ => (E id).lim ≠ 0
def solid (E : Emb) (id : Nat) : Ob T → Prop
  | .dead => False
  | .flat _ => True
  | .row _ _ _ => (E id).lim ≠ 0 ∧ (E id).rw = true
theorem solid.to0 {E : Emb} {id : Nat} {o : Ob T} (h : solid E id o) : solid0 E id o := by
  cases o with
  | dead => exact h
  | flat cs => trivial
  | row w t xs => exact h.1
structure Sim (glob : Nat → Option (Ob T)) (E : Emb) (H : List (Ob T)) (w : World) : Prop where
  le : H.length ≤ GB
  ob : ∀ id o, lookO glob H id = some o → ObR E H.length id w o
  sep : ∀ i j oi oj, i ≠ j → lookO glob H i = some oi → lookO glob H j = some oj → solid0 E i oi → solid E j oj → (E i).blk ≠ (E j).blk
  glo : ∀ id, GB ≤ id → (E id).blk = id - GB ∧ (E id).base = 0
  gok : ∀ g cs, glob g = some (.flat cs) → ∀ v ∈ cs, scalar v = true
def live (E : Emb) (H : List (Ob T)) (id : Nat) : Prop := ∃ o, H[id]? = some o ∧ solid E id o
def live0 (E : Emb) (H : List (Ob T)) (id : Nat) : Prop := ∃ o, H[id]? = some o ∧ solid0 E id o
theorem live.to0 {E : Emb} {H : List (Ob T)} {id : Nat} (h : live E H id) : live0 E H id := by
  obtain ⟨o, h1, h2⟩ := h; exact ⟨o, h1, h2.to0⟩
theorem solid_eq {E E' : Emb} {id : Nat} {o : Ob T} (e : E' id = E id) (h : solid E' id o) : solid E id o := by
  cases o with
  | dead => exact h
  | flat cs => trivial
  | row w t xs => show (E id).lim ≠ 0 ∧ (E id).rw = true; rw [← e]; exact h
theorem solid0_eq {E E' : Emb} {id : Nat} {o : Ob T} (e : E' id = E id) (h : solid0 E' id o) : solid0 E id o := by
  cases o with
  | dead => exact h
  | flat cs => trivial
  | row w t xs => show (E id).lim ≠ 0; rw [← e]; exact h
structure Stp (glob : Nat → Option (Ob T)) (E : Emb) (st : St T) (w : World) (E' : Emb) (st' : St T) (w' : World) : Prop where
  sim : Sim glob E' st'.heap w'
  len : st.heap.length ≤ st'.heap.length
  agr : ∀ id, okId st.heap.length id → E' id = E id
  os : w'.os = w.os
  tape : w'.tape = w.tape
  out : w'.output = w.output
  size : w.heap.size ≤ w'.heap.size
  frame : ∀ b, b < w.heap.size → (∀ id, id ∈ st'.dirty → id < st.heap.length → live E st.heap id → (E id).blk ≠ b) → w'.heap[b]? = w.heap[b]?
  fresh : ∀ id, st.heap.length ≤ id → id < st'.heap.length → live0 E' st'.heap id → w.heap.size ≤ (E' id).blk ∨ ∃ d, d ∈ st'.dirty ∧ d < st.heap.length ∧ live E st.heap d ∧ (E' id).blk = (E d).blk
  kept : ∀ id, id < st.heap.length → id ∉ st'.dirty → st'.heap[id]? = st.heap[id]?
  mono : ∀ id, id ∈ st.dirty → id ∈ st'.dirty
  gen : st'.gen = st.gen
  dead : ∀ id, id < st.heap.length → (live E' st'.heap id → live E st.heap id) ∧ (live0 E' st'.heap id → live0 E st.heap id)
end
end Go.Proofs.YtlflclfhldghbaaGreatDoor.Ls
end
section
namespace Go.Proofs.YtlflclfhldghbaaGreatDoor.Ls
open Go
section
variable {T : TypeId → VS} {glob : Nat → Option (Ob T)}
theorem ObR.step {E E' : Emb} {N N' id : Nat} {w w' : World} {o : Ob T} (h : ObR E N id w o) (hid : E' id = E id) (hE : ∀ id, okId N id → E' id = E id) (hN : N ≤ N')
    (hb : solid0 E id o → w'.heap[(E id).blk]? = w.heap[(E id).blk]?) : ObR E' N' id w' o := by
  cases o with
  | dead => trivial
  | flat cs =>
    obtain ⟨c, e, hc, hs, hv⟩ := h
    refine ⟨c, e, ?_, ?_, fun i v hi => ?_⟩
    · rw [hid, hb trivial]; exact hc
    · rw [hid]; exact hs
    · rw [hid]; obtain ⟨v', h1, h2⟩ := hv i v hi; exact ⟨v', h1, h2.mono hE hN⟩
  | row wr e xs =>
    obtain ⟨h1, h2, h3, h4, h5⟩ := h
    refine ⟨h1, by rw [hid]; exact h2, by rw [hid]; exact h3, by rw [hid]; exact h4, ?_⟩
    rw [hid]
    by_cases h0 : (E id).lim = 0
    · exact .inl h0
    · refine .inr ?_
      rcases h5 with h5 | h5
      · exact absurd h5 h0
      · rw [hb h0]; exact h5
theorem ObR.lt {E : Emb} {N id : Nat} {w : World} {o : Ob T} (h : ObR E N id w o) (hs : solid0 E id o) : (E id).blk < w.heap.size := by
  cases o with
  | dead => exact hs.elim
  | flat cs =>
    obtain ⟨c, e, hc, _⟩ := h
    exact (Array.getElem?_eq_some_iff.1 hc).1
  | row wr e xs =>
    obtain ⟨_, _, _, _, h5⟩ := h
    rcases h5 with h5 | ⟨c, t, fr, hc, _⟩
    · exact absurd h5 hs
    · exact (Array.getElem?_eq_some_iff.1 hc).1
def updE (E : Emb) (n : Nat) (L : Loc) : Emb := fun id => if id = n then L else E id
theorem updE_self (E : Emb) (n : Nat) (L : Loc) : updE E n L n = L := by simp [updE]
theorem updE_ne (E : Emb) {n id : Nat} (L : Loc) (h : id ≠ n) : updE E n L id = E id := by simp [updE, h]
theorem lookO_lt {H : List (Ob T)} {id : Nat} (h : id < GB) : lookO glob H id = H[id]? := by
  unfold lookO
  have : Nat.ble GB id = false := by
    cases hb : Nat.ble GB id with
    | false => rfl
    | true => have := Nat.le_of_ble_eq_true hb; omega
  rw [this]
theorem lookO_ge {H : List (Ob T)} {id : Nat} (h : GB ≤ id) : lookO glob H id = glob (id - GB) := by
  unfold lookO
  rw [Nat.ble_eq_true_of_le h]
theorem lookO_ok {H : List (Ob T)} {id : Nat} {o : Ob T} (h : lookO glob H id = some o) : okId H.length id := by
  by_cases hg : GB ≤ id
  · exact .inr hg
  · rw [lookO_lt (by omega)] at h
    exact .inl (List.getElem?_eq_some_iff.1 h).1
theorem stp_new {E : Emb} {st : St T} {w w' : World} (h : Sim glob E st.heap w) (hlt : st.heap.length < GB) (ob : Ob T) (L : Loc) (hL : w.heap.size ≤ L.blk)
    (hw : w.heap.size ≤ w'.heap.size) (hh : ∀ b, b < w.heap.size → w'.heap[b]? = w.heap[b]?) (hos : w'.os = w.os) (htape : w'.tape = w.tape) (hout : w'.output = w.output)
    (hob : ObR (updE E st.heap.length L) (st.heap.length + 1) st.heap.length w' ob) :
    Stp glob E st w (updE E st.heap.length L) { st with heap := st.heap ++ [ob] } w' := by
  have hagr : ∀ id, okId st.heap.length id → updE E st.heap.length L id = E id := fun id hid => updE_ne E L (by rcases hid with hid | hid <;> omega)
  have hlook : ∀ id, id ≠ st.heap.length → ∀ o, lookO glob (st.heap ++ [ob]) id = some o → lookO glob st.heap id = some o := by
    intro id hne o ho
    by_cases hg : GB ≤ id
    · rw [lookO_ge hg] at ho ⊢; exact ho
    · rw [lookO_lt (by omega)] at ho ⊢
      rw [List.getElem?_append] at ho
      split at ho
      · exact ho
      · next hl => rw [List.getElem?_eq_none] at ho; cases ho; simp; omega
  have hnew : ∀ o, lookO glob (st.heap ++ [ob]) st.heap.length = some o → o = ob := by
    intro o ho
    rw [lookO_lt (by omega)] at ho
    simp at ho; exact ho.symm
  have hblk : ∀ id o, id ≠ st.heap.length → lookO glob st.heap id = some o → solid0 (updE E st.heap.length L) id o → (updE E st.heap.length L id).blk < w.heap.size := by
    intro id o hne ho hs
    have e := hagr id (lookO_ok ho)
    have hs' : solid0 E id o := solid0_eq e hs
    rw [e]; exact (h.ob id o ho).lt hs'
  refine ⟨⟨by simp; omega, ?_, ?_, ?_, h.gok⟩, by simp, hagr, hos, htape, hout, hw, fun b hb _ => hh b hb, ?_, ?_, fun _ h => h, rfl, ?_⟩
  · intro id o ho
    simp only [List.length_append, List.length_cons, List.length_nil]
    by_cases hne : id = st.heap.length
    · subst hne
      rw [hnew o ho]; exact hob
    · have ho' := hlook id hne o ho
      exact (h.ob id o ho').step (hagr id (lookO_ok ho')) hagr (by omega) (fun hs => hh _ ((h.ob id o ho').lt hs))
  · intro i j oi oj hij hi hj hsi hsj
    by_cases ei : i = st.heap.length
    · have ej : j ≠ st.heap.length := fun e => hij (ei.trans e.symm)
      have hj' := hlook j ej oj hj
      have := hblk j oj ej hj' hsj.to0
      subst ei
      rw [updE_self]; omega
    · have hi' := hlook i ei oi hi
      by_cases ej : j = st.heap.length
      · have := hblk i oi ei hi' hsi
        subst ej
        rw [updE_self]; omega
      · have hj' := hlook j ej oj hj
        have e1 := hagr i (lookO_ok hi')
        have e2 := hagr j (lookO_ok hj')
        rw [e1, e2]
        exact h.sep i j oi oj hij hi' hj' (solid0_eq e1 hsi) (solid_eq e2 hsj)
  · intro id hid
    rw [hagr id (.inr hid)]; exact h.glo id hid
  · intro id h1 h2 _
    simp at h2
    have : id = st.heap.length := by omega
    subst this
    rw [updE_self]; exact .inl hL
  · intro id hid _
    simp [List.getElem?_append, hid]
  · refine fun id hid => ⟨?_, ?_⟩
    · rintro ⟨o, ho, hs⟩
      exact ⟨o, by simpa [List.getElem?_append, hid] using ho, solid_eq (hagr id (.inl hid)) hs⟩
    · rintro ⟨o, ho, hs⟩
      exact ⟨o, by simpa [List.getElem?_append, hid] using ho, solid0_eq (hagr id (.inl hid)) hs⟩
theorem Stp.trans {E E1 E2 : Emb} {st st1 st2 : St T} {w w1 w2 : World} (h : Stp glob E st w E1 st1 w1) (k : Stp glob E1 st1 w1 E2 st2 w2) : Stp glob E st w E2 st2 w2 := by
  refine ⟨k.sim, Nat.le_trans h.len k.len, fun id hid => (k.agr id (hid.mono h.len)).trans (h.agr id hid), k.os.trans h.os, k.tape.trans h.tape, k.out.trans h.out, Nat.le_trans h.size k.size, ?_, ?_, ?_, fun id hid => k.mono id (h.mono id hid), k.gen.trans h.gen, fun id hid => ⟨fun hlv => (h.dead id hid).1 ((k.dead id (Nat.lt_of_lt_of_le hid h.len)).1 hlv), fun hlv => (h.dead id hid).2 ((k.dead id (Nat.lt_of_lt_of_le hid h.len)).2 hlv)⟩⟩
  · intro b hb hD
    rw [k.frame b (Nat.lt_of_lt_of_le hb h.size) ?_, h.frame b hb (fun id hid => hD id (k.mono id hid))]
    intro id hid hlt hlv
    by_cases hl : id < st.heap.length
    · rw [h.agr id (.inl hl)]; exact hD id hid hl ((h.dead id hl).1 hlv)
    · rcases h.fresh id (by omega) hlt hlv.to0 with hf | ⟨d, hd, hdl, hdv, hf⟩
      · omega
      · rw [hf]; exact hD d (k.mono d hd) hdl hdv
  · intro id h1 h2 hlv
    by_cases hl : id < st1.heap.length
    · rw [k.agr id (.inl hl)]
      rcases h.fresh id h1 hl ((k.dead id hl).2 hlv) with hf | ⟨d, hd, hdl, hdv, hf⟩
      · exact .inl hf
      · exact .inr ⟨d, k.mono d hd, hdl, hdv, hf⟩
    · rcases k.fresh id (by omega) h2 hlv with hf | ⟨d, hd, hdl, hdv, hf⟩
      · exact .inl (Nat.le_trans h.size hf)
      · by_cases hdl' : d < st.heap.length
        · rw [hf, h.agr d (.inl hdl')]; exact .inr ⟨d, hd, hdl', (h.dead d hdl').1 hdv, rfl⟩
        · rcases h.fresh d (by omega) hdl hdv.to0 with hg | ⟨d', hd', hdl'', hdv', hg⟩
          · rw [hf]; exact .inl hg
          · rw [hf, hg]; exact .inr ⟨d', k.mono d' hd', hdl'', hdv', rfl⟩
  · intro id hid hD
    rw [k.kept id (Nat.lt_of_lt_of_le hid h.len) hD, h.kept id hid (fun hd => hD (k.mono id hd))]
theorem Stp.refl {E : Emb} {st : St T} {w : World} (h : Sim glob E st.heap w) : Stp glob E st w E st w :=
  ⟨h, Nat.le_refl _, fun _ _ => rfl, rfl, rfl, rfl, Nat.le_refl _, fun _ _ _ => rfl, fun id h1 h2 _ => by omega, fun _ _ _ => rfl, fun _ h => h, rfl, fun _ _ => ⟨fun h => h, fun h => h⟩⟩
theorem Stp.of {E E' : Emb} {st st' s s' : St T} {w w' : World} (h : Stp glob E st w E' st' w') (h1 : s.heap = st.heap) (h2 : s'.heap = st'.heap)
    (h3 : ∀ id, id ∈ st'.dirty → id ∈ s'.dirty) (h4 : ∀ id, id ∈ s.dirty → id ∈ s'.dirty) (h5 : s'.gen = s.gen) : Stp glob E s w E' s' w' := by
  refine ⟨by rw [h2]; exact h.sim, by rw [h1, h2]; exact h.len, by rw [h1]; exact h.agr, h.os, h.tape, h.out, h.size, ?_, ?_, ?_, h4, h5, by rw [h1, h2]; exact h.dead⟩
  · intro b hb hD; exact h.frame b hb (fun id hid hlt hlv => hD id (h3 id hid) (by rw [h1]; exact hlt) (by rw [h1]; exact hlv))
  · intro id i1 i2 i3
    rw [h1] at i1; rw [h2] at i2 i3
    rcases h.fresh id i1 i2 i3 with hf | ⟨d, hd, hdl, hdv, hf⟩
    · exact .inl hf
    · exact .inr ⟨d, h3 d hd, by rw [h1]; exact hdl, by rw [h1]; exact hdv, hf⟩
  · intro id hid hD
    rw [h1, h2]; exact h.kept id (by rw [← h1]; exact hid) (fun hd => hD (h3 id hd))
theorem memN_iff {i : Nat} : ∀ {l : List Nat}, memN i l = true ↔ i ∈ l
  | [] => by simp [memN]
  | j :: r => by
    unfold memN
    cases h : Nat.beq j i with
    | true => have := Nat.eq_of_beq_eq_true h; simp [this]
    | false => have := Nat.ne_of_beq_eq_false h; simp only; rw [memN_iff]; simp; intro e; exact absurd e.symm this
theorem memN_false {i : Nat} {l : List Nat} (h : memN i l = false) : i ∉ l := fun hm => by rw [memN_iff.2 hm] at h; cases h
theorem touch_mem (st : St T) (id : Nat) (o : Ob T) : id ∈ (touch st id o).dirty := by
  unfold touch; simp only
  split
  · next h => exact memN_iff.1 h
  · simp
theorem touch_mono (st : St T) (id : Nat) (o : Ob T) : ∀ j, j ∈ st.dirty → j ∈ (touch st id o).dirty := by
  intro j hj; unfold touch; simp only
  split
  · exact hj
  · simp [hj]
theorem stp_touch {E : Emb} {st : St T} {w w' : World} (h : Sim glob E st.heap w) (id : Nat) (hid : id < st.heap.length) (ob ob' : Ob T) (hold : st.heap[id]? = some ob) (hsol : (solid E id ob' → solid E id ob) ∧ (solid0 E id ob' → solid0 E id ob))
    (hw : w'.heap.size = w.heap.size) (hh : ∀ b, b ≠ (E id).blk → w'.heap[b]? = w.heap[b]?) (hh0 : ¬ solid E id ob → w' = w) (hos : w'.os = w.os) (htape : w'.tape = w.tape) (hout : w'.output = w.output)
    (hob : ObR E st.heap.length id w' ob') : Stp glob E st w E (touch st id ob') w' := by
  have hGB : id < GB := Nat.lt_of_lt_of_le hid h.le
  have hlen : (touch st id ob').heap.length = st.heap.length := by simp [touch, setO]
  have hlook : ∀ j, j ≠ id → lookO glob (touch st id ob').heap j = lookO glob st.heap j := by
    intro j hj
    by_cases hg : GB ≤ j
    · rw [lookO_ge hg, lookO_ge hg]
    · rw [lookO_lt (by omega), lookO_lt (by omega)]
      simp only [touch, setO]; rw [List.getElem?_set_ne (Ne.symm hj)]
  have hself : lookO glob (touch st id ob').heap id = some ob' := by
    rw [lookO_lt hGB]; simp [touch, setO, hid]
  have hold' : lookO glob st.heap id = some ob := by rw [lookO_lt hGB]; exact hold
  refine ⟨⟨by rw [hlen]; exact h.le, ?_, ?_, h.glo, h.gok⟩, by omega, fun _ _ => rfl, hos, htape, hout, by omega, ?_, ?_, ?_, touch_mono st id ob', rfl, ?_⟩
  · intro j o ho
    rw [hlen]
    by_cases e : j = id
    · subst e; rw [hself] at ho; cases ho; exact hob
    · rw [hlook j e] at ho
      refine (h.ob j o ho).step rfl (fun _ _ => rfl) (Nat.le_refl _) (fun hs => ?_)
      by_cases hso : solid E id ob
      · exact hh _ (h.sep j id o ob e ho hold' hs hso)
      · rw [hh0 hso]
  · intro i j oi oj hij hi hj hsi hsj
    have back : ∀ k ok, lookO glob (touch st id ob').heap k = some ok → ∃ ok', lookO glob st.heap k = some ok' ∧ (solid E k ok → solid E k ok') ∧ (solid0 E k ok → solid0 E k ok') := by
      intro k ok hk
      by_cases e : k = id
      · subst e; rw [hself] at hk; cases hk; exact ⟨ob, hold', hsol⟩
      · rw [hlook k e] at hk; exact ⟨ok, hk, fun h => h, fun h => h⟩
    obtain ⟨oi', hi', _, hsi'⟩ := back i oi hi
    obtain ⟨oj', hj', hsj', _⟩ := back j oj hj
    have hsi' := hsi' hsi
    have hsj' := hsj' hsj
    exact h.sep i j oi' oj' hij hi' hj' hsi' hsj'
  · intro b hb hD
    by_cases hso : solid E id ob
    · exact hh b (fun e => hD id (touch_mem st id ob') hid ⟨ob, hold, hso⟩ e.symm)
    · rw [hh0 hso]
  · intro j h1 h2 _; rw [hlen] at h2; omega
  · intro j hj hD
    have : j ≠ id := fun e => hD (e ▸ touch_mem st id ob')
    simp only [touch, setO]; rw [List.getElem?_set_ne (Ne.symm this)]
  · have key : ∀ j, j < st.heap.length → ∀ o, (touch st id ob').heap[j]? = some o → ∃ o', st.heap[j]? = some o' ∧ (solid E j o → solid E j o') ∧ (solid0 E j o → solid0 E j o') := by
      intro j hj o ho
      by_cases e : j = id
      · subst e
        simp [touch, setO, hid] at ho
        subst ho
        exact ⟨ob, hold, hsol⟩
      · simp only [touch, setO] at ho
        rw [List.getElem?_set_ne (Ne.symm e)] at ho
        exact ⟨o, ho, fun h => h, fun h => h⟩
    refine fun j hj => ⟨?_, ?_⟩
    · rintro ⟨o, ho, hs⟩
      obtain ⟨o', h1, h2, h3⟩ := key j hj o ho
      exact ⟨o', h1, h2 hs⟩
    · rintro ⟨o, ho, hs⟩
      obtain ⟨o', h1, h2, h3⟩ := key j hj o ho
      exact ⟨o', h1, h3 hs⟩
end
end Go.Proofs.YtlflclfhldghbaaGreatDoor.Ls
end
section
namespace Go.Proofs.YtlflclfhldghbaaGreatDoor.Ls
open Go
theorem getE_cons (t i : Nat) (v : Value) (r : List (Nat × Value)) : getE ((t, v) :: r) i = if t = i then v else getE r i := by
  simp only [getE]
  cases h : Nat.beq t i with
  | true => rw [if_pos (Nat.eq_of_beq_eq_true h)]
  | false => rw [if_neg (Nat.ne_of_beq_eq_false h)]
theorem beqKind_eq {k k' : IntKind} (h : beqKind k k' = true) : k = k' := by
  cases k <;> cases k' <;> first | rfl | (simp [beqKind] at h)
theorem dec_plain (ρ : Nat → Nat) : ∀ (s : VS), s.plain = true → ∀ (l : List Value) (A : Asg) (x : s.ty) (r : List Value) (A' : Asg), s.dec false l A = some (x, r, A') → l = s.enc ρ false x r := by
  intro s
  induction s with
  | unit => intro _ l A x r A' h; simp [VS.dec] at h; simp [VS.enc, h.1]
  | bool =>
    intro _ l A x r A' h
    cases l with
    | nil => simp [VS.dec] at h
    | cons v l => cases v <;> simp [VS.dec] at h; obtain ⟨rfl, rfl, _⟩ := h; rfl
  | str =>
    intro _ l A x r A' h
    cases l with
    | nil => simp [VS.dec] at h
    | cons v l => cases v <;> simp [VS.dec] at h; obtain ⟨rfl, rfl, _⟩ := h; rfl
  | int k =>
    intro _ l A x r A' h
    cases l with
    | nil => simp [VS.dec] at h
    | cons v l =>
      cases v <;> simp [VS.dec] at h
      rename_i k' n
      cases hk : beqKind k' k with
      | false => simp [hk] at h
      | true => simp [hk] at h; obtain ⟨rfl, rfl, _⟩ := h; have := beqKind_eq hk; subst this; rfl
  | agg s ih => intro hp l A x r A' h; simp only [VS.dec] at h; simp only [VS.enc]; exact ih hp l A x r A' h
  | pair a b iha ihb =>
    intro hp l A x r A' h
    simp [VS.plain] at hp
    simp only [VS.dec] at h
    split at h
    · rename_i y l1 A1 h1
      split at h
      · rename_i z l2 A2 h2
        simp at h; obtain ⟨rfl, rfl, rfl⟩ := h
        simp only [VS.enc]
        rw [← ihb hp.2 _ _ _ _ _ h2, ← iha hp.1 _ _ _ _ _ h1]
      · cases h
    · cases h
  | _ => intro hp; simp [VS.plain] at hp
theorem decAll_plain (s : VS) (hp : s.plain = true) : ∀ (n : Nat) (l : List Value) (xs : List s.ty), decAll s n l = some xs → encAll s xs = l
  | n, [], xs, h => by cases n <;> simp [decAll] at h <;> subst h <;> rfl
  | 0, v :: r, xs, h => by simp [decAll] at h
  | n + 1, v :: r, xs, h => by
    simp only [decAll] at h
    split at h
    · rename_i x l A h1
      split at h
      · rename_i ys h2
        simp at h; subst h
        have := decAll_plain s hp n l ys h2
        simp only [encAll]
        rw [this, ← dec_plain rid s hp _ _ _ _ _ h1]
      · cases h
    · cases h
theorem ground_of_enc {ρ : Nat → Nat} {s : VS} (hp : s.plain = true) (x : s.ty) : ∀ v ∈ s.enc ρ false x [], ground1 v = true :=
  plain_ground ρ s hp x [] (by simp)
theorem PW.ground_eq {E : Emb} {N : Nat} : ∀ {l l' : List Value}, PW E N l l' → (∀ v ∈ l, ground1 v = true) → l' = l
  | [], l', h, _ => h.inv_nil
  | v :: l, l', h, hg => by
    obtain ⟨u, r, rfl, hv, hr⟩ := h.inv_cons
    rw [hv.scalar_eq (hg v (by simp)), PW.ground_eq hr (fun x hx => hg x (by simp [hx]))]
theorem scalar_of_ground {v : Value} (h : ground1 v = true) : scalar v = true := by cases v <;> simp [ground1] at h <;> rfl
theorem scalarL_all : ∀ {l : List Value}, scalarL l = true → ∀ v ∈ l, scalar v = true
  | [], _ => by simp
  | v :: r, h => by
    unfold scalarL at h
    cases hv : scalar v with
    | true => simp [hv] at h; intro x hx; simp at hx; rcases hx with rfl | hx; exact hv; exact scalarL_all h x hx
    | false => simp [hv] at h
theorem PW.refl_scalar {E : Emb} {N : Nat} {l : List Value} (hg : ∀ v ∈ l, scalar v = true) : PW E N l l :=
  ⟨rfl, fun i v v' h h' => by rw [h] at h'; cases h'; exact .scal v (hg v (List.mem_of_getElem? h))⟩
theorem const_rel {E : Emb} {N : Nat} {v : Value} (h : constOk v = true) : VR E N v v := by
  cases v with
  | agg cs => exact VR.agg_mk (cs := cs.toList) (cs' := cs.toList) (PW.refl_scalar (scalarL_all (by simpa [constOk] using h)))
  | _ => exact .scal _ (by simpa [constOk] using h)
theorem const_cells {E : Emb} {N : Nat} {v : Value} (h : constOk v = true) : PW E N (cellsL v) v.cells.toList := by
  refine (const_rel h).cells ?_
  cases v <;> first | rfl | (simp [constOk, scalar] at h)
section
variable {T : TypeId → VS} {cx : Cx T} {E : Emb} {st : St T} {a : Act} {w : World}
def EnvR (E : Emb) (N : Nat) (env : List (Nat × Value)) (a : Act) : Prop := ∀ t, VR E N (getE env t) (a.tmps.getD t undef)
theorem EnvR.mono {E' : Emb} {N N' : Nat} {env : List (Nat × Value)} (h : EnvR E N env a) (hE : ∀ id, okId N id → E' id = E id) (hN : N ≤ N') : EnvR E' N' env a :=
  fun t => (h t).mono hE hN
theorem ev_rel (hS : Sim cx.glob E st.heap w) (hV : EnvR E st.heap.length st.env a) (x : Operand) : VR E st.heap.length (st.ev x) (a.eval x) := by
  cases x with
  | tmp t => exact hV t
  | const v =>
    simp only [St.ev, Act.eval]
    split
    · next h => exact const_rel h
    · exact .any v
  | global g =>
    have h := hS.glo (GB + g) (by omega)
    have := VR.ptr (E := E) (N := st.heap.length) ⟨GB + g, 0, none⟩ (.inr (by simp))
    simp only [locA, h.1, h.2] at this
    simpa [St.ev, Act.eval] using this
  | func f => exact .func _ _ _ _ _ rfl (fun i v v' h => by simp at h) rfl (fun i v v' h => by simp at h)
theorem sizeL_eq {t : TypeId} {n : Nat} (h : sizeL cx t = some n) : ∃ i, cx.P.info? t = some i ∧ i.size = n := by
  unfold sizeL at h
  cases hi : cx.P.info? t with
  | none => simp [hi] at h
  | some i => simp [hi] at h; exact ⟨i, rfl, h⟩
theorem run_sizeOf {t : TypeId} {n : Nat} (h : sizeL cx t = some n) (w : World) : (sizeOf t).run cx.P w = .ok n w := by
  obtain ⟨i, hi, rfl⟩ := sizeL_eq h
  simp [sizeOf, typeInfo, hi]
theorem run_isAgg {t : TypeId} {b : Bool} (h : isAggL cx t = some b) (w : World) : (isAgg t).run cx.P w = .ok b w := by
  unfold isAggL at h
  unfold isAgg
  cases hu : cx.P.underlying t with
  | none => simp [hu] at h
  | some d => cases d <;> simp [hu] at h <;> subst h <;> simp [run_underlying hu]
theorem run_loadVar {t : TypeId} {cs : List Value} {off : Nat} {v : Value} {b base : Nat} {c : Array Value} {e : TypeId} {fr : Nat × Nat} {N : Nat} (h : partL cx t cs off = some v)
    (hb : w.heap[b]? = some (.cells c e fr)) (hc : ∀ i u, cs[i]? = some u → ∃ u', c[base + i]? = some u' ∧ VR E N u u') :
    ∃ v', (loadVar t ⟨b, base + off, none⟩).run cx.P w = .ok v' w ∧ VR E N v v' := by
  have cell : ∀ j u, c[j]? = some u → w.cell? ⟨b, j, none⟩ = some u := by
    intro j u hj; simp [World.cell?, hb, hj]
  unfold partL at h
  cases hg : isAggL cx t with
  | none => simp [hg] at h
  | some g =>
    cases g with
    | true =>
      simp only [hg] at h
      cases hs : sizeL cx t with
      | none => simp [hs] at h
      | some n =>
        simp only [hs] at h
        split at h
        · next hle =>
          have hle := Nat.le_of_ble_eq_true hle
          simp at h; subst h
          have hex : ∀ j, j < n → ∃ u', c[base + (off + j)]? = some u' ∧ VR E N (cs.getD (off + j) undef) u' := by
            intro j hj
            have hlt : off + j < cs.length := by omega
            exact hc (off + j) _ (by simp [hlt])
          have hrun := run_loadCells (P := cx.P) w ⟨b, base + off, none⟩ n (fun j => c.getD (base + (off + j)) undef) (by
            intro j hj
            obtain ⟨u', hu', _⟩ := hex j hj
            rw [Addr.add_lit, show base + off + j = base + (off + j) by omega, cell _ _ hu']
            simp [Array.getD_eq_getD_getElem?, hu'])
          refine ⟨.agg ((List.range n).map fun j => c.getD (base + (off + j)) undef).toArray, by simp [loadVar, run_isAgg hg, run_sizeOf hs, hrun], VR.agg_mk ⟨by simp [seg]; omega, fun i u u' hu hu' => ?_⟩⟩
          simp [seg, List.getElem?_take] at hu
          have hi := hu.1
          simp [hi] at hu'
          obtain ⟨u2, h2, h3⟩ := hex i hi
          have : cs.getD (off + i) undef = u := by rw [List.getD_eq_getElem?_getD, hu.2]; rfl
          rw [this] at h3
          simp [h2] at hu'; subst hu'; exact h3
        · cases h
    | false =>
      simp only [hg] at h
      obtain ⟨u', h1, h2⟩ := hc off v h
      exact ⟨u', by simp [loadVar, run_isAgg hg, cell _ _ h1], h2⟩
theorem allDef_all : ∀ {l : List Value}, allDef l = true → ∀ v ∈ l, oneCell v = true
  | [], _ => by simp
  | v :: r, h => by
    unfold allDef at h
    cases hv : oneCell v with
    | true => simp [hv] at h; intro x hx; simp at hx; rcases hx with rfl | hx; exact hv; exact allDef_all h x hx
    | false => simp [hv] at h
theorem VR.oneCell {N : Nat} {v v' : Value} (h : VR E N v v') (ho : oneCell v = true) : v'.oneCell' = true := by
  cases h <;> first | rfl | (simp [Ls.oneCell, undef] at ho)
  rename_i hs
  cases v <;> simp [scalar] at hs <;> rfl
theorem run_storeVar {t : TypeId} {n : Nat} {v v' : Value} {b o : Nat} {c : Array Value} {e : TypeId} {N : Nat} (hs : sizeL cx t = some n) (hn : (cellsL v).length = n) (hd : allDef (cellsL v) = true)
    (hv : VR E N v v') (hu : isUndef v = false) (hb : w.heap[b]? = some (.cells c e (0, 0))) (hle : o + n ≤ c.size) :
    (storeVar t ⟨b, o, none⟩ v').run cx.P w = .ok () (w.setRow b (splice c.toList o v'.cells.toList).toArray) := by
  have hp := hv.cells hu
  have hsz : v'.cells.size = n := by have := hp.1; simpa [hn] using this.symm
  have h1 : ∀ u ∈ v'.cells.toList, u.oneCell' = true := by
    intro u hu'
    obtain ⟨i, hi⟩ := List.mem_iff_getElem?.1 hu'
    have hlt : i < (cellsL v).length := by rw [hp.1]; exact (List.getElem?_eq_some_iff.1 hi).1
    have := hp.2 i _ u (List.getElem?_eq_getElem hlt) hi
    exact this.oneCell (allDef_all hd _ (List.getElem_mem hlt))
  have hrun := run_storeCells_at (P := cx.P) b o e v'.cells.toList 0 c w hb (by simp; omega) h1
  simp only [Nat.add_zero] at hrun
  simp [storeVar, run_sizeOf hs, hsz, hrun, splice, List.append_assoc]
end
end Go.Proofs.YtlflclfhldghbaaGreatDoor.Ls
end
section
namespace Go.Proofs.YtlflclfhldghbaaGreatDoor.Ls
open Go
section
variable {T : TypeId → VS} {cx : Cx T} {E : Emb} {st : St T} {a : Act} {w : World} {o : Oper}
def OpOK (cx : Cx T) (E : Emb) (st : St T) (a : Act) (w : World) (o : Oper) : OpOut T → Prop
  | .val v st' => ∀ (next : Act → World → Prop) (Q : Exit → Act → World → Prop),
      (∀ v' w' E', VR E' st'.heap.length v v' → Stp cx.glob E st w E' st' w' → next (a.put o.dst v') w') → o.wp cx.P a w next Q
  | .pan v st' => ∀ (next : Act → World → Prop) (Q : Exit → Act → World → Prop),
      (∀ v' w' E', VR E' st'.heap.length v v' → Stp cx.glob E st w E' st' w' → Q (.panic [{ v := v', recovered := false }]) a w') → o.wp cx.P a w next Q
theorem ok_value {s : Sem Value} {v v' : Value} {st' : St T} {w' : World} {E' : Emb} (he : execOp a.eval o = (do pure (.value (← s)))) (hr : s.run cx.P w = .ok v' w')
    (hv : VR E' st'.heap.length v v') (hs : Stp cx.glob E st w E' st' w') : OpOK cx E st a w o (.val v st') := by
  intro next Q h
  unfold Oper.wp
  rw [he]
  simp only [Sem.run_bind, hr, Result.andThen_ok, Sem.run_pure, Oper.upon]
  exact h v' w' E' hv hs
theorem ok_pure {v v' : Value} {st' : St T} {E' : Emb} (he : execOp a.eval o = pure (.value v'))
    (hv : VR E' st'.heap.length v v') (hs : Stp cx.glob E st w E' st' w) : OpOK cx E st a w o (.val v st') := by
  intro next Q h
  unfold Oper.wp
  rw [he]
  simp only [Sem.run_pure, Oper.upon]
  exact h v' w E' hv hs
theorem ok_unit {s : Sem Unit} {st' : St T} {w' : World} {E' : Emb} (he : execOp a.eval o = (do s; pure .skip)) (hr : s.run cx.P w = .ok () w')
    (hs : Stp cx.glob E st w E' st' w') : OpOK cx E st a w o (.val undef st') := by
  intro next Q h
  unfold Oper.wp
  rw [he]
  simp only [Sem.run_bind, hr, Result.andThen_ok, Sem.run_pure, Oper.upon]
  exact h undef w' E' (.any _) hs
theorem need_heap (st : St T) (g : Option Bool) : (st.need g).heap = st.heap := by cases g <;> rfl
theorem need_env (st : St T) (g : Option Bool) : (st.need g).env = st.env := by cases g <;> rfl
theorem need_dirty (st : St T) (g : Option Bool) : (st.need g).dirty = st.dirty := by cases g <;> rfl
theorem need_gen (st : St T) (g : Option Bool) : (st.need g).gen = st.gen := by cases g <;> rfl
theorem need_ok {st : St T} {g : Option Bool} (h : (st.need g).ok = true) : st.ok = true ∧ g ≠ some false := by
  cases g with
  | none => exact ⟨h, by simp⟩
  | some g =>
    simp [St.need] at h
    exact ⟨h.1, by simp [h.2]⟩
theorem need_okb {st : St T} {g : Bool} (h : (st.need (some g)).ok = true) : st.ok = true ∧ g = true := by
  simp [St.need] at h; exact h
theorem stp_need (hS : Sim cx.glob E st.heap w) (g : Option Bool) : Stp cx.glob E st w E (st.need g) w :=
  (Stp.refl hS).of rfl (need_heap st g) (fun id h => by rw [need_dirty]; exact h) (fun id h => by rw [need_dirty]; exact h) (need_gen st g)
theorem pureRun_run {α : Type} {P : Program} : ∀ (s : Sem α) (x : α), pureRun P s = some x → ∀ w, s.run P w = .ok x w := by
  intro s
  induction s with
  | pure y => intro x h w; simp [pureRun] at h; subst h; rfl
  | program k ih => intro x h w; simp only [pureRun] at h; simp only [Sem.run]; exact ih P x h w
  | _ => intro x h; simp [pureRun] at h
theorem divOk_ne {c : Bool} {b : Int} {g : Option Bool} (h : divOk c b = some g) (hg : g ≠ some false) : b ≠ 0 := by
  intro e
  subst e
  cases c <;> simp [divOk] at h
  exact hg h.symm
theorem pl_mapM : ∀ (fs : List Field) (ps : List (Nat × Nat)), placesL cx fs = some ps → fs.mapM (fun f => (cx.P.info? f.type).map fun i => (f.offset, i.size)) = some ps
  | [], ps, h => by simp [placesL] at h; subst h; rfl
  | f :: r, ps, h => by
    simp only [placesL] at h
    split at h
    · rename_i s qs h1 h2
      simp at h; subst h
      obtain ⟨i, hi, rfl⟩ := sizeL_eq h1
      simp [List.mapM_cons, hi, pl_mapM r qs h2]
    · cases h
theorem fold_splice : ∀ (vs : List Value) (cs : List Value) (off k : Nat), off + k + vs.length ≤ cs.length →
    ((vs.zipIdx k).foldl (fun (cs : Array Value) (c : Value × Nat) => cs.setIfInBounds (off + c.2) c.1) cs.toArray).toList = splice cs (off + k) vs
  | [], cs, off, k, _ => by simp [splice]
  | v :: r, cs, off, k, h => by
    simp only [List.zipIdx_cons, List.foldl_cons, List.length_cons] at h ⊢
    have hs : cs.toArray.setIfInBounds (off + k) v = (cs.set (off + k) v).toArray := by simp
    rw [hs, fold_splice r (cs.set (off + k) v) off (k + 1) (by simp; omega)]
    unfold splice
    have hlt : off + k < cs.length := by omega
    rw [show off + (k + 1) = off + k + 1 by omega, List.take_set, List.drop_set_of_lt (by omega)]
    have ht : (cs.take (off + k + 1)).set (off + k) v = cs.take (off + k) ++ [v] := by
      rw [List.take_succ_eq_append_getElem hlt, List.set_append]
      simp [show min (off + k) cs.length = off + k by omega]
    rw [ht]
    simp [List.length_cons, show off + k + 1 + r.length = off + k + (r.length + 1) by omega]
theorem fill_sound {place : Nat → Option (Nat × Nat)} {N : Nat} : ∀ (ps : List (Nat × Value)) (cs cs' : List Value) (c : Array Value) (qs : List (Nat × Value)), fillL place cs ps = some cs' → PW E N cs c.toList →
    ps.map (·.1) = qs.map (·.1) → PW E N (ps.map (·.2)) (qs.map (·.2)) → ∃ c', Instr.fill place c qs = some c' ∧ PW E N cs' c'.toList
  | [], cs, cs', c, qs, h, hc, hk, hv => by
    simp at hk; subst hk
    simp [fillL] at h; subst h
    exact ⟨c, rfl, hc⟩
  | (i, v) :: r, cs, cs', c, qs, h, hc, hk, hv => by
    cases qs with
    | nil => simp at hk
    | cons q qs =>
      obtain ⟨j, u⟩ := q
      simp at hk; obtain ⟨rfl, hk⟩ := hk
      obtain ⟨u', r', hr, hu, hrest⟩ := PW.inv_cons (by simpa using hv : PW E N (v :: r.map (·.2)) (u :: qs.map (·.2)))
      simp at hr; obtain ⟨rfl, rfl⟩ := hr
      simp only [fillL] at h
      cases hp : place i with
      | none => simp [hp] at h
      | some p =>
        obtain ⟨off, size⟩ := p
        simp only [hp] at h
        split at h
        · rename_i h1 h2 h3
          have h1 := Nat.eq_of_beq_eq_true h1
          have h2 := Nat.le_of_ble_eq_true h2
          have hcell := hu.cells h3
          have hsz : u.cells.size = size := by have := hcell.1; simp at this; omega
          have hlen : cs.length = c.size := by simpa using hc.1
          obtain ⟨c', hc', hp'⟩ := fill_sound r _ cs' (splice c.toList off u.cells.toList).toArray qs h (by simpa using hc.splice hcell off) hk hrest
          refine ⟨c', ?_, hp'⟩
          simp only [Instr.fill, hp]
          have hcond : (decide (u.cells.size ≠ size) || decide (off + u.cells.size > c.size)) = false := by simp; omega
          rw [if_neg (by simp; omega)]
          rw [← hc']
          congr 1
          apply Array.ext'
          have := fold_splice u.cells.toList c.toList off 0 (by simp; omega)
          simp only [Nat.add_zero, Array.toArray_toList] at this
          rw [← this]
          have e : u.cells.toList.zipIdx = u.cells.zipIdx.toList := by simp
          rw [e, Array.foldl_toList]
        · cases h
end
end Go.Proofs.YtlflclfhldghbaaGreatDoor.Ls
end
section
namespace Go.Proofs.YtlflclfhldghbaaGreatDoor.Ls
open Go
section
variable {T : TypeId → VS} {cx : Cx T} {E : Emb} {st : St T} {a : Act} {w : World} {o : Oper}
theorem op_move (hS : Sim cx.glob E st.heap w) (hV : EnvR E st.heap.length st.env a) (x : Operand) (ho : o.op = .move x) : OpOK cx E st a w o (.val (st.ev x) st) :=
  ok_pure (v' := a.eval x) (by simp [execOp, ho]) (ev_rel hS hV x) (Stp.refl hS)
theorem op_assign (hS : Sim cx.glob E st.heap w) (hV : EnvR E st.heap.length st.env a) (x : Operand) (ho : o.op = .assign x) : OpOK cx E st a w o (.val (st.ev x) st) :=
  ok_pure (v' := a.eval x) (by simp [execOp, ho]) (ev_rel hS hV x) (Stp.refl hS)
theorem bltOr {id n : Nat} (h : (Nat.blt id n || Nat.ble GB id) = true) : okId n id := by
  simp at h
  rcases h with h | h
  · left; simpa [Nat.blt] using h
  · exact .inr h
theorem VR.bound {N n : Nat} {v c : Value} (h : VR E N v c) (hb : below1 n v = true) : VR E n v c := by
  cases h with
  | any => exact .any _
  | scal _ h => exact .scal _ h
  | ptr a h => exact .ptr a (bltOr (by simpa [below1] using hb))
  | wsl id c h hc hl => exact .wsl id c (bltOr (by simpa [below1] using hb)) hc hl
  | wsl0 id x h hn => exact .wsl0 id x (bltOr (by simpa [below1] using hb)) hn
  | gsl id o n c c' h hn hc hN hl => exact .gsl id o n c c' (bltOr (by simpa [below1] using hb)) hn hc hN hl
  | gsl0 id o x h hN => exact .gsl0 id o x (bltOr (by simpa [below1] using hb)) hN
  | fsl id o n c h hn hc => exact .fsl id o n c (bltOr (by simpa [below1] using hb)) hn hc
  | func fn fs fs' cs cs' h1 h2 h3 h4 =>
    cases fn <;> simp [below1] at hb
    split at hb
    · rename_i e1 e2
      refine .func _ _ _ _ _ h1 (fun i v v' hv => ?_) h3 (fun i v v' hv => ?_)
      · have : fs[i]? = none := by rw [← Array.getElem?_toList, e1]; rfl
        rw [this] at hv; cases hv
      · have : cs[i]? = none := by rw [← Array.getElem?_toList, e2]; rfl
        rw [this] at hv; cases hv
    · cases hb
  | iface t v v' h => simp [below1] at hb
  | agg cs cs' h1 h2 => simp [below1] at hb
  | tup cs cs' h1 h2 => simp [below1] at hb
  | skip => simp [below1] at hb
theorem merge1_true {N n : Nat} {x y c : Value} (h : VR E N x c) : VR E n (merge1 true n x y) c := by
  unfold merge1
  split
  · cases h; exact .scal _ rfl
  · split
    · cases h; exact .scal _ rfl
    · exact .any c
  · cases h; exact .scal _ rfl
  · cases h; exact .scal _ rfl
  · split
    · next hb => simp at hb; exact h.bound (by simp [below1]; exact hb.2.2)
    · exact .any c
  · split
    · next hb => simp at hb; exact h.bound (by simp [below1]; exact hb.2.2.2.2)
    · exact .any c
  · cases h with
    | scal _ hs => simp [scalar] at hs; rw [hs.1, hs.2]; exact .scal _ rfl
  · cases h; exact .scal _ rfl
  · cases h; exact .scal _ rfl
  · exact .any c
theorem merge1_false {N n : Nat} {x y c : Value} (h : VR E N y c) : VR E n (merge1 false n x y) c := by
  unfold merge1
  split
  · cases h; exact .scal _ rfl
  · split
    · next hk => have := beqKind_eq hk; subst this; cases h; exact .scal _ rfl
    · exact .any c
  · cases h; exact .scal _ rfl
  · cases h; exact .scal _ rfl
  · split
    · next hb =>
      simp at hb
      have e1 := hb.1; have e2 := hb.2.1; subst e1; subst e2
      exact h.bound (by simp [below1]; exact hb.2.2)
    · exact .any c
  · split
    · next hb =>
      simp at hb
      obtain ⟨rfl, rfl, rfl, rfl, h5⟩ := hb
      exact h.bound (by simp [below1]; exact h5)
    · exact .any c
  · cases h with
    | scal _ hs => simp [scalar] at hs; rw [hs.1, hs.2]; exact .scal _ rfl
  · cases h; exact .scal _ rfl
  · cases h; exact .scal _ rfl
  · exact .any c
theorem mergeL_true {N n : Nat} : ∀ {xs ys l cs : List Value}, mergeL true n xs ys = some l → PW E N xs cs → PW E n l cs
  | [], [], l, cs, h, hp => by simp [mergeL] at h; subst h; rw [hp.inv_nil]; exact .nil
  | x :: xs, y :: ys, l, cs, h, hp => by
    obtain ⟨u, r, rfl, hu, hr⟩ := hp.inv_cons
    simp only [mergeL] at h
    split at h
    · rename_i m hm
      simp at h; subst h
      exact .cons (merge1_true hu) (mergeL_true hm hr)
    · cases h
  | [], _ :: _, _, _, h, _ => by simp [mergeL] at h
  | _ :: _, [], _, _, h, _ => by simp [mergeL] at h
theorem mergeL_false {N n : Nat} : ∀ {xs ys l cs : List Value}, mergeL false n xs ys = some l → PW E N ys cs → PW E n l cs
  | [], [], l, cs, h, hp => by simp [mergeL] at h; subst h; rw [hp.inv_nil]; exact .nil
  | x :: xs, y :: ys, l, cs, h, hp => by
    obtain ⟨u, r, rfl, hu, hr⟩ := hp.inv_cons
    simp only [mergeL] at h
    split at h
    · rename_i m hm
      simp at h; subst h
      exact .cons (merge1_false hu) (mergeL_false hm hr)
    · cases h
  | [], _ :: _, _, _, h, _ => by simp [mergeL] at h
  | _ :: _, [], _, _, h, _ => by simp [mergeL] at h
theorem VR.tup_inv {N : Nat} {cs : Array Value} {v' : Value} (h : VR E N (.tuple cs) v') : cs = #[] ∨ ∃ cs', v' = .tuple cs' ∧ PW E N cs.toList cs'.toList := by
  cases h with
  | any v => exact .inl rfl
  | scal _ hs => simp [scalar] at hs
  | tup _ cs' h1 h2 => exact .inr ⟨cs', rfl, by simpa using h1, fun i v v' hv hv' => h2 i v v' (by simpa using hv) (by simpa using hv')⟩
theorem mergeL_nil {b : Bool} {n : Nat} {xs ys : List Value} (h : xs = [] ∨ ys = []) {l : List Value} (hm : mergeL b n xs ys = some l) : l = [] := by
  rcases h with h | h <;> subst h
  · cases ys <;> simp [mergeL] at hm; exact hm
  · cases xs <;> simp [mergeL] at hm; exact hm
theorem mergeV_true {N n : Nat} {x y c : Value} (h : VR E N x c) : VR E n (mergeV true n x y) c := by
  unfold mergeV
  split
  · rename_i cs
    split
    · split
      · rename_i l hl
        obtain ⟨cs', rfl, hp⟩ := h.agg_inv
        exact VR.agg_mk (cs' := cs'.toList) (mergeL_true hl hp)
      · exact .any c
    · exact .any c
  · rename_i cs
    split
    · rename_i cs2
      split
      · rename_i l hl
        rcases h.tup_inv with rfl | ⟨cs', rfl, hp⟩
        · have := mergeL_nil (.inl rfl) hl; subst this; exact .any c
        · exact VR.tup_mk (cs' := cs'.toList) (mergeL_true hl hp)
      · exact .any c
    · exact .any c
  · exact merge1_true h
theorem mergeV_false {N n : Nat} {x y c : Value} (h : VR E N y c) : VR E n (mergeV false n x y) c := by
  unfold mergeV
  split
  · rename_i cs
    split
    · split
      · rename_i l hl
        obtain ⟨cs', rfl, hp⟩ := h.agg_inv
        exact VR.agg_mk (cs' := cs'.toList) (mergeL_false hl hp)
      · exact .any c
    · exact .any c
  · rename_i cs
    split
    · rename_i cs2
      split
      · rename_i l hl
        rcases h.tup_inv with rfl | ⟨cs', rfl, hp⟩
        · have := mergeL_nil (.inr rfl) hl; subst this; exact .any c
        · exact VR.tup_mk (cs' := cs'.toList) (mergeL_false hl hp)
      · exact .any c
    · exact .any c
  · exact merge1_false h
theorem bool_of (hS : Sim cx.glob E st.heap w) (hV : EnvR E st.heap.length st.env a) {x : Operand} {p : Bool} (h : st.ev x = .bool p) : a.eval x = .bool p := by
  have := ev_rel hS hV x
  rw [h] at this
  exact this.scalar_eq rfl
theorem op_pick (hS : Sim cx.glob E st.heap w) (hV : EnvR E st.heap.length st.env a) (c x y : Operand) (p : Bool) (hc : st.ev c = .bool p) (ho : o.op = .pick c x y) :
    OpOK cx E st a w o (.val (if p then st.ev x else st.ev y) st) ∧ OpOK cx E st a w o (.val (mergeV p st.heap.length (st.ev x) (st.ev y)) st) := by
  have he : execOp a.eval o = pure (.value (if p then a.eval x else a.eval y)) := by simp [execOp, ho, bool_of hS hV hc, asBool]
  constructor
  · refine ok_pure he ?_ (Stp.refl hS)
    cases p
    · exact ev_rel hS hV y
    · exact ev_rel hS hV x
  · refine ok_pure he ?_ (Stp.refl hS)
    cases p
    · exact mergeV_false (ev_rel hS hV y)
    · exact mergeV_true (ev_rel hS hV x)
theorem zeroL_eq {t : TypeId} {z : List Value} (h : zeroL cx t = some z) : ∃ i v, cx.P.info? t = some i ∧ i.zero = some v ∧ constOk v = true ∧ z = cellsL v := by
  unfold zeroL at h
  split at h
  · rename_i i hi
    split at h
    · rename_i v hv
      split at h
      · next hc => simp at h; exact ⟨i, v, hi, hv, hc, h.symm⟩
      · cases h
    · cases h
  · cases h
theorem run_zeroValue {t : TypeId} {i : TypeInfo} {v : Value} (hi : cx.P.info? t = some i) (hz : i.zero = some v) (w : World) : (zeroValue t).run cx.P w = .ok v w := by
  simp [zeroValue, typeInfo, hi, hz]
theorem heap_alloc_new (w : World) (x : Obj) : (w.alloc x).heap[w.heap.size]? = some x := by show (w.heap.push x)[w.heap.size]? = _; simp
theorem size_alloc (w : World) (x : Obj) : (w.alloc x).heap.size = w.heap.size + 1 := by show (w.heap.push x).size = _; simp
theorem heap_alloc_old (w : World) (x : Obj) {b : Nat} (h : b < w.heap.size) : (w.alloc x).heap[b]? = w.heap[b]? := RowKit.Below.heap_alloc w x b h
theorem new_row (hS : Sim cx.glob E st.heap w) (hlt : st.heap.length < GB) {e : TypeId} (xs : List (T e).ty) (hp : (T e).plain = true) {c : Array Value} (lim : Nat) (t : TypeId)
    (hc : ∀ (i : Nat) (v : Value), (encAll (T e) xs)[i]? = some v → c[i]? = some v) (hl : xs.length ≤ lim) (hsz : lim * (T e).size ≤ c.size) {w0 : World} (h0 : w0.heap = w.heap) (h1 : w0.os = w.os) (h2 : w0.tape = w.tape) (h3 : w0.output = w.output) :
    Stp cx.glob E st w (updE E st.heap.length ⟨w.heap.size, 0, lim, (T e).size, xs.length, true⟩) { st with heap := st.heap ++ [.row true e xs] } (w0.alloc (.cells c t)) := by
  refine stp_new hS hlt _ _ (Nat.le_refl _) (by rw [size_alloc, h0]; omega) (fun b hb => ?_) h1 h2 h3 ?_
  · rw [heap_alloc_old _ _ (by rw [h0]; exact hb), h0]
  · refine ⟨hp, by rw [updE_self], by rw [updE_self], by rw [updE_self]; exact hl, ?_⟩
    rw [updE_self]
    refine .inr ⟨c, t, (0, 0), ?_, fun _ => ⟨rfl, by simpa using hsz, rfl⟩, ?_, fun i v hv => by simpa using hc i v hv⟩
    · have := heap_alloc_new w0 (.cells c t)
      rw [h0] at this; exact this
    · simp only [Nat.zero_add]
      exact Nat.le_trans (Nat.mul_le_mul_right _ hl) hsz
theorem new_flat (hS : Sim cx.glob E st.heap w) (hlt : st.heap.length < GB) {cs : List Value} {c : Array Value} (hp : PW E st.heap.length cs c.toList) (e : TypeId) :
    Stp cx.glob E st w (updE E st.heap.length ⟨w.heap.size, 0, 0, 0, 0, true⟩) { st with heap := st.heap ++ [.flat cs] } (w.alloc (.cells c e)) := by
  refine stp_new hS hlt _ _ (Nat.le_refl _) (by rw [size_alloc]; omega) (fun b hb => heap_alloc_old _ _ hb) rfl rfl rfl ?_
  have hlen : cs.length = c.size := by simpa using hp.1
  refine ⟨c, e, by rw [updE_self]; exact heap_alloc_new w _, by rw [updE_self]; simp; omega, fun i v hv => ?_⟩
  obtain ⟨v', h1, h2⟩ := hp.get hv
  refine ⟨v', by rw [updE_self]; simpa using h1, h2.mono (fun id hid => updE_ne E _ (by rcases hid with h | h <;> omega)) (by omega)⟩
theorem mk_sound (hS : Sim cx.glob E st.heap w) (hlt : st.heap.length < GB) {t : TypeId} {cs : List Value} {c : Array Value} {ob : Ob T} (h : mkOb cx t cs = some ob) (hp : PW E st.heap.length cs c.toList) (e : TypeId) :
    ∃ L : Loc, L.blk = w.heap.size ∧ L.base = 0 ∧ Stp cx.glob E st w (updE E st.heap.length L) { st with heap := st.heap ++ [ob] } (w.alloc (.cells c e)) := by
  unfold mkOb at h
  split at h
  · rename_i e' he
    split at h
    · rename_i xs hpl hd
      simp at h; subst h
      have henc := decAll_plain _ hpl _ _ _ hd
      have hg := encAll_ground _ hpl xs
      rw [henc] at hg
      have hc := hp.ground_eq hg
      have hlen := encAll_len (T e') xs
      rw [henc] at hlen
      refine ⟨⟨w.heap.size, 0, xs.length, (T e').size, xs.length, true⟩, rfl, rfl, new_row hS hlt xs hpl xs.length e (fun i v hv => ?_) (Nat.le_refl _) ?_ rfl rfl rfl rfl⟩
      · rw [henc, ← hc] at hv; simpa using hv
      · have := hp.1; simp at this; omega
    · cases h
  · simp at h; subst h
    exact ⟨_, rfl, rfl, new_flat hS hlt hp e⟩
theorem ptr_new {L : Loc} {b N : Nat} (h1 : L.blk = b) (h2 : L.base = 0) : VR (updE E N L) (N + 1) (.pointer (some ⟨N, 0, none⟩)) (.pointer (some ⟨b, 0, none⟩)) := by
  have := VR.ptr (E := updE E N L) (N := N + 1) ⟨N, 0, none⟩ (.inl (by simp))
  simpa [locA, updE_self, h1, h2] using this
theorem op_alloc (hS : Sim cx.glob E st.heap w) (hlt : st.heap.length < GB) {e : TypeId} {z : List Value} {ob : Ob T} (hz : zeroL cx e = some z) (hm : mkOb cx e z = some ob) (ho : o.op = .alloc e) :
    OpOK cx E st a w o (.val (.pointer (some ⟨st.heap.length, 0, none⟩)) { st with heap := st.heap ++ [ob] }) := by
  obtain ⟨i, v, hi, hv, hc, rfl⟩ := zeroL_eq hz
  obtain ⟨L, h1, h2, hs⟩ := mk_sound hS hlt hm (const_cells hc) e
  refine ok_value (s := Instr.alloc e true (.tuple #[])) (v' := .pointer (some ⟨w.heap.size, 0, none⟩)) (by simp [execOp, ho]) ?_ (by simpa using ptr_new h1 h2) hs
  simp [Instr.alloc, run_zeroValue hi hv, newVar, newRow]
theorem op_box (hS : Sim cx.glob E st.heap w) (hV : EnvR E st.heap.length st.env a) (hlt : st.heap.length < GB) {e : TypeId} {x : Operand} {ob : Ob T} (hu : isUndef (st.ev x) = false) (hm : mkOb cx e (cellsL (st.ev x)) = some ob) (ho : o.op = .box e x) :
    OpOK cx E st a w o (.val (.pointer (some ⟨st.heap.length, 0, none⟩)) { st with heap := st.heap ++ [ob] }) := by
  obtain ⟨L, h1, h2, hs⟩ := mk_sound hS hlt hm ((ev_rel hS hV x).cells hu) e
  refine ok_value (s := Instr.box e (a.eval x)) (v' := .pointer (some ⟨w.heap.size, 0, none⟩)) (by simp [execOp, ho]) ?_ (by simpa using ptr_new h1 h2) hs
  simp [Instr.box, newVar, newRow]
theorem evs_rel (hS : Sim cx.glob E st.heap w) (hV : EnvR E st.heap.length st.env a) : ∀ (l : List (Nat × Operand)),
    (evs st l).map (·.1) = (l.map fun (i, x) => (i, a.eval x)).map (·.1) ∧ PW E st.heap.length ((evs st l).map (·.2)) ((l.map fun (i, x) => (i, a.eval x)).map (·.2))
  | [] => ⟨rfl, .nil⟩
  | (i, x) :: r => by
    have ih := evs_rel hS hV r
    exact ⟨by simp only [evs, List.map_cons]; rw [ih.1], by simp only [evs, List.map_cons]; exact .cons (ev_rel hS hV x) ih.2⟩
theorem evl_rel (hS : Sim cx.glob E st.heap w) (hV : EnvR E st.heap.length st.env a) : ∀ (l : List Operand), PW E st.heap.length (evl st l) (l.map a.eval)
  | [] => .nil
  | x :: r => by simp only [evl, List.map_cons]; exact .cons (ev_rel hS hV x) (evl_rel hS hV r)
theorem op_build (hS : Sim cx.glob E st.heap w) (hV : EnvR E st.heap.length st.env a) {t : TypeId} {parts : Array (Nat × Operand)} {z cs : List Value} (hz : zeroL cx t = some z) (place : Nat → Option (Nat × Nat))
    (hf : fillL place z (evs st parts.toList) = some cs)
    (hb : ∀ (zz : Value) (it : TypeInfo) (ps : List (Nat × Value)) , cx.P.info? t = some it → it.zero = some zz → cx.P.built t ps = Instr.fill place zz.cells ps)
    (ho : o.op = .build t parts) : OpOK cx E st a w o (.val (.agg ⟨cs⟩) st) := by
  obtain ⟨i, v, hi, hv, hc, rfl⟩ := zeroL_eq hz
  have hr := evs_rel hS hV parts.toList
  obtain ⟨c', h1, h2⟩ := fill_sound (E := E) (N := st.heap.length) _ _ _ v.cells (parts.toList.map fun (i, x) => (i, a.eval x)) hf (const_cells hc) hr.1 hr.2
  refine ok_value (s := Instr.build t (parts.map fun (i, x) => (i, a.eval x))) (v' := .agg c') (by simp [execOp, ho]) ?_ (VR.agg_mk (cs' := c'.toList) h2) (Stp.refl hS)
  refine run_build w t _ c' ?_
  rw [hb v i _ hi hv]
  simpa using h1
theorem op_build_struct (hS : Sim cx.glob E st.heap w) (hV : EnvR E st.heap.length st.env a) {t : TypeId} {parts : Array (Nat × Operand)} {z cs : List Value} (hz : zeroL cx t = some z) {fs : Array Field} (hu : cx.P.underlying t = some (.struct fs))
    {ps : List (Nat × Nat)} (hp : placesL cx fs.toList = some ps) (hf : fillL (fun i => ps[i]?) z (evs st parts.toList) = some cs) (ho : o.op = .build t parts) : OpOK cx E st a w o (.val (.agg ⟨cs⟩) st) := by
  refine op_build hS hV hz _ hf (fun zz it qs h1 h2 => ?_) ho
  simp only [Program.built, h1, hu, h2, pl_mapM _ _ hp]
  congr 1
  funext i; simp
theorem op_build_array (hS : Sim cx.glob E st.heap w) (hV : EnvR E st.heap.length st.env a) {t : TypeId} {parts : Array (Nat × Operand)} {z cs : List Value} (hz : zeroL cx t = some z) {n : Nat} {e : TypeId} (hu : cx.P.underlying t = some (.array n e))
    {s : Nat} (hs : sizeL cx e = some s) (hf : fillL (fun i => some (i * s, s)) z (evs st parts.toList) = some cs) (ho : o.op = .build t parts) : OpOK cx E st a w o (.val (.agg ⟨cs⟩) st) := by
  obtain ⟨i, hi, rfl⟩ := sizeL_eq hs
  refine op_build hS hV hz _ hf (fun zz it qs h1 h2 => ?_) ho
  simp only [Program.built, h1, hu, h2, hi]
theorem ptr_inv {N : Nat} {ad : Addr} {v' : Value} (h : VR E N (.pointer (some ad)) v') : v' = .pointer (some (locA E ad)) := by
  cases h with
  | scal _ hs => simp [scalar] at hs
  | ptr => rfl
end
end Go.Proofs.YtlflclfhldghbaaGreatDoor.Ls
end
section
namespace Go.Proofs.YtlflclfhldghbaaGreatDoor.Ls
open Go
section
variable {T : TypeId → VS} {cx : Cx T} {E : Emb} {st : St T} {a : Act} {w : World} {o : Oper}
theorem encAll_append (s : VS) : ∀ (xs ys : List s.ty), encAll s (xs ++ ys) = encAll s xs ++ encAll s ys := by
  have enc_app : ∀ (ρ : Nat → Nat) (s : VS) (x : s.ty) (l m : List Value), s.enc ρ false x (l ++ m) = s.enc ρ false x l ++ m := by
    intro ρ s
    induction s with
    | agg s ih => intro x l m; simp only [VS.enc]; exact ih x l m
    | pair a b iha ihb => intro x l m; simp only [VS.enc]; rw [ihb, iha]
    | _ => intro x l m; simp [VS.enc]
  intro xs
  induction xs with
  | nil => intro ys; simp [encAll]
  | cons x r ih => intro ys; simp only [List.cons_append, encAll]; rw [ih, enc_app]
theorem enc_tail (ρ : Nat → Nat) (s : VS) (x : s.ty) (l : List Value) : s.enc ρ false x l = s.enc ρ false x [] ++ l := by
  induction s generalizing l with
  | agg s ih => simp only [VS.enc]; exact ih x l
  | pair a b iha ihb => simp only [VS.enc]; rw [ihb x.2 l, iha x.1, iha x.1 (b.enc ρ false x.2 [])]; simp
  | _ => simp [VS.enc]
theorem encAll_at (s : VS) : ∀ (xs : List s.ty) (i : Nat) (x : s.ty), xs[i]? = some x → ((encAll s xs).drop (i * s.size)).take s.size = s.enc rid false x []
  | [], i, x, h => by simp at h
  | y :: r, 0, x, h => by
    simp at h; subst h
    simp only [encAll, Nat.zero_mul, List.drop_zero]
    rw [enc_tail, List.take_append_of_le_length (by rw [plain_len]; simp), List.take_of_length_le (by rw [plain_len]; simp)]
  | y :: r, i + 1, x, h => by
    simp only [encAll]
    rw [enc_tail]
    have hl : (s.enc rid false y []).length = s.size := by rw [plain_len]; simp
    rw [List.drop_append_of_le_length_add' s hl i]
    exact encAll_at s r i x (by simpa using h)
where
  List.drop_append_of_le_length_add' {β : List Value} {m : List Value} (s : VS) (hl : m.length = s.size) (i : Nat) : (m ++ β).drop ((i + 1) * s.size) = β.drop (i * s.size) := by
    have e : (i + 1) * s.size = m.length + i * s.size := by rw [Nat.add_mul, hl]; omega
    rw [e, List.drop_append, List.drop_eq_nil_of_le (by omega)]
    simp
theorem encAll_get (s : VS) (xs : List s.ty) (i : Nat) (x : s.ty) (h : xs[i]? = some x) (j : Nat) (hj : j < s.size) : (encAll s xs)[i * s.size + j]? = (s.enc rid false x [])[j]? := by
  rw [← encAll_at s xs i x h]
  simp [List.getElem?_take, hj]
theorem encAll_set (s : VS) : ∀ (xs : List s.ty) (i : Nat) (x : s.ty), i < xs.length → encAll s (xs.set i x) = (encAll s xs).take (i * s.size) ++ (s.enc rid false x [] ++ (encAll s xs).drop (i * s.size + s.size))
  | [], i, x, h => by simp at h
  | y :: r, 0, x, h => by
    have hl : (s.enc rid false y []).length = s.size := by rw [plain_len]; simp
    simp only [List.set_cons_zero, encAll, Nat.zero_mul, List.take_zero, List.nil_append, Nat.zero_add]
    rw [enc_tail rid s x, enc_tail rid s y, ← hl, List.drop_left]
  | y :: r, i + 1, x, h => by
    have hl : (s.enc rid false y []).length = s.size := by rw [plain_len]; simp
    simp only [List.set_cons_succ, encAll]
    rw [encAll_set s r i x (by simpa using h), enc_tail rid s y, enc_tail rid s y (encAll s r)]
    have e1 : (i + 1) * s.size = s.size + i * s.size := by rw [Nat.add_mul]; omega
    rw [e1]
    have h1 : (s.enc rid false y [] ++ encAll s r).take (s.size + i * s.size) = s.enc rid false y [] ++ (encAll s r).take (i * s.size) := by
      rw [List.take_append, hl]; simp [List.take_of_length_le (show (s.enc rid false y []).length ≤ s.size + i * s.size by omega)]
    have h2 : (s.enc rid false y [] ++ encAll s r).drop (s.size + i * s.size + s.size) = (encAll s r).drop (i * s.size + s.size) := by
      rw [List.drop_append, hl]
      rw [List.drop_eq_nil_of_le (by omega)]
      simp [show s.size + i * s.size + s.size - s.size = i * s.size + s.size by omega]
    rw [h1, h2]
    simp
theorem blt_lt {a b : Nat} (h : Nat.blt a b = true) : a < b := by
  simp [Nat.blt] at h; omega
theorem row_cells (hS : Sim cx.glob E st.heap w) {id : Nat} {wr : Bool} {e : TypeId} {xs : List (T e).ty} (h : lookO cx.glob st.heap id = some (.row wr e xs)) (hne : xs ≠ []) :
    (T e).plain = true ∧ (E id).es = (T e).size ∧ (E id).n = xs.length ∧ ∃ c t fr, w.heap[(E id).blk]? = some (.cells c t fr) ∧ (wr = true → fr = (0, 0) ∧ (E id).base + (E id).lim * (E id).es ≤ c.size ∧ (E id).rw = true) ∧
      (E id).base + xs.length * (E id).es ≤ c.size ∧ ∀ (i : Nat) (v : Value), (encAll (T e) xs)[i]? = some v → c[(E id).base + i]? = some v := by
  obtain ⟨h1, h2, h3, h4, h5⟩ := hS.ob id _ h
  refine ⟨h1, h2, h3, ?_⟩
  rcases h5 with h5 | h5
  · have : xs.length ≠ 0 := fun e => hne (List.eq_nil_of_length_eq_zero e)
    omega
  · exact h5
theorem getD_some {α : Type} {xs : List α} {i : Nat} (h : i < xs.length) (d : α) : xs[i]? = some (xs.getD i d) := by
  simp [h, List.getD]
theorem loadL_sound (hS : Sim cx.glob E st.heap w) {t : TypeId} {p p' v : Value} {g : Option Bool} (h : loadL cx st.heap t p = some (v, g)) (hg : g ≠ some false) (hp : VR E st.heap.length p p') :
    ∃ v', (Instr.loadAt t p').run cx.P w = .ok v' w ∧ VR E st.heap.length v v' := by
  unfold loadL at h
  split at h
  · rename_i id off sp
    have := ptr_inv hp; subst this
    split at h
    · rename_i cs hlo
      obtain ⟨c, e, hb, hsz, hcs⟩ := hS.ob id _ hlo
      split at h
      · split at h
        · rename_i v0 hv0
          simp at h; obtain ⟨rfl, rfl⟩ := h
          obtain ⟨v', h1, h2⟩ := run_loadVar (E := E) (N := st.heap.length) (base := (E id).base) hv0 hb hcs
          exact ⟨v', by simpa [Instr.loadAt, Instr.sureAddr, locA] using h1, h2⟩
        · cases h
      · cases h
    · rename_i wr e xs hlo
      split at h
      · rename_i j
        split at h
        · rename_i v0 hv0
          simp at h; obtain ⟨rfl, rfl⟩ := h
          have hlt : off < xs.length := by
            cases hb : Nat.blt off xs.length with
            | true => exact blt_lt hb
            | false => simp [hb] at hg
          obtain ⟨h1, h2, h3, c, t', fr, hb, _, hsz, hcs⟩ := row_cells hS hlo (by intro e; subst e; simp at hlt)
          have hx := getD_some hlt (T e).dflt
          obtain ⟨v', r1, r2⟩ := run_loadVar (E := E) (N := st.heap.length) (base := (E id).base + off * (E id).es) (off := j) hv0 hb (fun i u hu => by
            have hi : i < (T e).size := by
              have := (List.getElem?_eq_some_iff.1 hu).1
              rw [plain_len] at this; simpa using this
            have he := encAll_get (T e) xs off _ hx i hi
            rw [hu] at he
            have := hcs _ _ he
            refine ⟨u, by rw [h2, Nat.add_assoc]; exact this, .scal u (scalar_of_ground (ground_of_enc h1 _ u (List.mem_of_getElem? hu)))⟩)
          exact ⟨v', by simpa [Instr.loadAt, Instr.sureAddr, locA] using r1, r2⟩
        · cases h
      · split at h
        · rename_i n ho hagg hn
          split at h
          · rename_i hdiv
            simp at h; obtain ⟨rfl, rfl⟩ := h
            have hlen : xs.length = n / (T e).size := by
              cases hb : Nat.beq xs.length (n / (T e).size) with
              | true => exact Nat.eq_of_beq_eq_true hb
              | false => simp [hb] at hg
            have ho := Nat.eq_of_beq_eq_true ho
            have hdiv := Nat.eq_of_beq_eq_true hdiv
            subst ho
            have hall : ∀ k, k ≤ xs.length → firstN (T e) xs k = xs.take k := by
              intro k
              induction k with
              | zero => intro _; rfl
              | succ k ih =>
                intro hk
                rw [firstN, ih (by omega), List.take_succ_eq_append_getElem (by omega)]
                simp [List.getD, show k < xs.length by omega]
            have hfull : firstN (T e) xs (n / (T e).size) = xs := by rw [← hlen, hall _ (Nat.le_refl _), List.take_length]
            rw [hfull]
            by_cases hne : xs = []
            · subst hne
              simp at hlen
              have hn0 : n = 0 := by rw [← hdiv, ← hlen]; simp
              subst hn0
              refine ⟨.agg #[], ?_, VR.agg_mk (cs' := []) (by simp [encAll]; exact .nil)⟩
              simp [Instr.loadAt, Instr.sureAddr, locA, loadVar, run_isAgg hagg, run_sizeOf hn, loadCells, loadCellsFrom]
            · obtain ⟨h1, h2, h3, c, t', fr, hb, _, hsz, hcs⟩ := row_cells hS hlo hne
              have hl := encAll_len (T e) xs
              obtain ⟨v', r1, r2⟩ := run_loadVar (cx := cx) (E := E) (N := st.heap.length) (t := t) (cs := encAll (T e) xs) (base := (E id).base) (off := 0) (v := .agg ⟨encAll (T e) xs⟩)
                (by
                  have hll : (encAll (T e) xs).length = n := by rw [hl, hlen, hdiv]
                  have hbl : Nat.ble (0 + n) (encAll (T e) xs).length = true := Nat.ble_eq_true_of_le (by omega)
                  simp only [partL, hagg, hn, hbl]
                  simp [seg, List.take_of_length_le (show (encAll (T e) xs).length ≤ n by omega)]) hb (fun i u hu => ⟨u, hcs i u hu, .scal u (scalar_of_ground (encAll_ground _ h1 xs u (List.mem_of_getElem? hu)))⟩)
              exact ⟨v', by simpa [Instr.loadAt, Instr.sureAddr, locA] using r1, r2⟩
          · cases h
        · cases h
    · cases h
  · cases h
theorem op_load (hS : Sim cx.glob E st.heap w) (hV : EnvR E st.heap.length st.env a) {t : TypeId} {x : Operand} {v : Value} {g : Option Bool} (h : loadL cx st.heap t (st.ev x) = some (v, g)) (hg : g ≠ some false) (ho : o.op = .load t x) :
    OpOK cx E st a w o (.val v (st.need g)) := by
  obtain ⟨v', h1, h2⟩ := loadL_sound hS h hg (ev_rel hS hV x)
  exact ok_value (s := Instr.loadAt t (a.eval x)) (by simp [execOp, ho]) h1 (by rw [need_heap]; exact h2) (stp_need hS g)
theorem splice_len {cs vs : List Value} {off : Nat} (h : off + vs.length ≤ cs.length) : (splice cs off vs).length = cs.length := by
  simp [splice]; omega
theorem splice_get {cs vs : List Value} {off i : Nat} (h : off + vs.length ≤ cs.length) : (splice cs off vs)[i]? = if off ≤ i ∧ i < off + vs.length then vs[i - off]? else cs[i]? := by
  unfold splice
  rw [List.getElem?_append]
  simp only [List.length_take, show min off cs.length = off by omega]
  by_cases h1 : i < off
  · rw [if_pos h1, if_neg (by omega), List.getElem?_take, if_pos h1]
  · rw [if_neg h1, List.getElem?_append]
    by_cases h2 : i < off + vs.length
    · rw [if_pos (by omega), if_pos ⟨by omega, h2⟩]
    · rw [if_neg (by omega), if_neg (by omega), List.getElem?_drop]
      congr 1; omega
theorem store_heap {E : Emb} {id : Nat} {c : Array Value} {e : TypeId} (w : World) (hb : w.heap[(E id).blk]? = some (.cells c e (0, 0))) (c' : Array Value) :
    (w.setRow (E id).blk c').heap[(E id).blk]? = some (.cells c' e (0, 0)) := setRow_heap w _ c c' e _ hb
theorem op_store (hS : Sim cx.glob E st.heap w) (hV : EnvR E st.heap.length st.env a) {t : TypeId} {p x : Operand} {st' : St T} (h : storeL cx st t (st.ev p) (st.ev x) = some st') (hok : st'.ok = true) (ho : o.op = .store t p x) :
    st.ok = true ∧ OpOK cx E st a w o (.val undef st') := by
  have hp := ev_rel hS hV p
  have hx := ev_rel hS hV x
  generalize st.ev p = P at *
  generalize hvx : st.ev x = X at *
  unfold storeL at h
  split at h
  · rename_i id off sp
    have hpe := ptr_inv hp
    split at h
    · cases h
    · rename_i hGB
      split at h
      · cases h
      · rename_i n hn
        split at h
        · rename_i hlen hdef
          have hlen := Nat.eq_of_beq_eq_true hlen
          have hu : isUndef X = false := by
            cases X <;> first | rfl | (simp [cellsL, allDef, oneCell] at hdef)
          have hcell := hx.cells hu
          have hcl : (a.eval x).cells.toList.length = n := by rw [← hcell.1]; exact hlen
          split at h
          ·
            rename_i cs hlo
            split at h
            · split at h
              · rename_i hle
                have hle := Nat.le_of_ble_eq_true hle
                simp at h; subst h
                have hid : id < st.heap.length := (List.getElem?_eq_some_iff.1 hlo).1
                have hlo' : lookO cx.glob st.heap id = some (.flat cs) := by rw [lookO_lt (Nat.lt_of_lt_of_le hid hS.le)]; exact hlo
                obtain ⟨c, e, hb, hsz, hcs⟩ := hS.ob id _ hlo'
                have hrun := run_storeVar (cx := cx) (E := E) (N := st.heap.length) (o := (E id).base + off) hn hlen hdef hx hu hb (by omega)
                refine ⟨hok, ok_unit (s := Instr.storeAt t (a.eval p) (a.eval x)) (w' := w.setRow (E id).blk (splice c.toList ((E id).base + off) (a.eval x).cells.toList).toArray) (E' := E) (by simp [execOp, ho]) (by rw [hpe]; simpa [Instr.storeAt, Instr.sureAddr, locA] using hrun) ?_⟩
                refine stp_touch hS id hid _ _ hlo ⟨fun _ => trivial, fun _ => trivial⟩ (by simp) (fun b hb' => setRow_other w _ _ _ hb') (fun hn => absurd trivial hn) rfl rfl rfl ?_
                refine ⟨_, e, store_heap w hb _, ?_, fun i v hi => ?_⟩
                · rw [splice_len (by omega)]
                  simp only [List.size_toArray]
                  rw [splice_len (by rw [hcl]; simp; omega)]
                  simpa using hsz
                · rw [splice_get (by omega)] at hi
                  simp only [List.getElem?_toArray]
                  rw [splice_get (by rw [hcl]; simp; omega), hcl]
                  split at hi
                  · rename_i hin
                    obtain ⟨v', h1, h2⟩ := hcell.get hi
                    refine ⟨v', ?_, h2⟩
                    rw [if_pos (by omega), show (E id).base + i - ((E id).base + off) = i - off by omega]
                    exact h1
                  · rename_i hin
                    obtain ⟨v', h1, h2⟩ := hcs i v hi
                    refine ⟨v', ?_, h2⟩
                    rw [if_neg (by omega)]
                    simpa using h1
              · cases h
            · cases h
          ·
            rename_i e xs hlo
            have hid : id < st.heap.length := (List.getElem?_eq_some_iff.1 hlo).1
            have hlo' : lookO cx.glob st.heap id = some (.row true e xs) := by rw [lookO_lt (Nat.lt_of_lt_of_le hid hS.le)]; exact hlo
            split at h
            · rename_i j
              split at h
              · rename_i y A' hpl hj hd
                simp at h; subst h
                have hok' : (st.need (some (Nat.blt off xs.length))).ok = true := hok
                obtain ⟨hok1, hblt⟩ := need_okb hok'
                have hlt := blt_lt hblt
                have hj := Nat.le_of_ble_eq_true hj
                obtain ⟨h1, h2, h3, c, t', fr, hb, hwr, hsz, hcs⟩ := row_cells hS hlo' (by intro e; subst e; simp at hlt)
                obtain ⟨hfr, hroom, hrw⟩ := hwr rfl
                subst hfr
                have hxe := getD_some hlt (T e).dflt
                have hmul : off * (T e).size + (T e).size ≤ xs.length * (T e).size := by rw [← Nat.succ_mul]; exact Nat.mul_le_mul_right _ hlt
                have hrun := run_storeVar (cx := cx) (E := E) (N := st.heap.length) (o := (E id).base + off * (E id).es + j) hn hlen hdef hx hu hb (by rw [h2] at hsz ⊢; omega)
                have hdp := dec_plain rid (T e) hpl _ _ _ _ _ hd
                have hgr : ∀ v ∈ cellsL X, ground1 v = true := by
                  intro v hv
                  have hall : ∀ y : (T e).ty, ∀ v ∈ (T e).enc rid false y [], ground1 v = true := fun y => ground_of_enc hpl y
                  have : v ∈ splice ((T e).enc rid false (xs.getD off (T e).dflt) []) j (cellsL X) := by simp [splice, hv]
                  rw [hdp] at this
                  exact hall _ v this
                have hceq := hcell.ground_eq hgr
                refine ⟨hok1, ok_unit (s := Instr.storeAt t (a.eval p) (a.eval x)) (w' := w.setRow (E id).blk (splice c.toList ((E id).base + off * (E id).es + j) (a.eval x).cells.toList).toArray) (E' := E) (by simp [execOp, ho]) (by rw [hpe]; simpa [Instr.storeAt, Instr.sureAddr, locA] using hrun) ?_⟩
                have hstp := stp_touch (glob := cx.glob) (st := st) hS id hid (.row true e xs) (.row true e (xs.set off y)) hlo ⟨fun h => h, fun h => h⟩ (w' := w.setRow (E id).blk (splice c.toList ((E id).base + off * (E id).es + j) (a.eval x).cells.toList).toArray) (by simp) (fun b hb' => setRow_other w _ _ _ hb') (fun hns => absurd (show solid E id (Ob.row true e xs) from (by
                    have := hS.ob id _ hlo'; obtain ⟨_, _, q3, q4, _⟩ := this
                    exact ⟨by omega, hrw⟩)) hns) rfl rfl rfl ?_
                · exact hstp.of rfl rfl (fun _ h => h) (fun id hid => touch_mono _ _ _ id hid) rfl
                · obtain ⟨_, _, q3, q4, _⟩ := hS.ob id _ hlo'
                  have hbnd : (E id).base + off * (E id).es + j + (a.eval x).cells.toList.length ≤ c.toList.length := by
                    rw [hcl, Array.length_toList]; rw [h2] at hsz ⊢; omega
                  refine ⟨h1, h2, by simpa using q3, q4, .inr ⟨_, t', (0, 0), store_heap w hb _, fun _ => ⟨rfl, ?_, hrw⟩, ?_, fun i v hi => ?_⟩⟩
                  · simp only [List.size_toArray]; rw [splice_len hbnd]; simpa using hroom
                  · simp only [List.size_toArray, List.length_set]; rw [splice_len hbnd]; simpa using hsz
                  · rw [encAll_set _ _ _ _ hlt, ← hdp] at hi
                    simp only [List.getElem?_toArray]
                    rw [splice_get hbnd, hcl, h2, hceq]
                    have hel : (encAll (T e) xs).length = xs.length * (T e).size := encAll_len _ _
                    have hsl : (splice ((T e).enc rid false (xs.getD off (T e).dflt) []) j (cellsL X)).length = (T e).size := by
                      rw [splice_len (by rw [plain_len]; simp; omega), plain_len]; simp
                    rw [List.getElem?_append] at hi
                    simp only [List.length_take, hel, show min (off * (T e).size) (xs.length * (T e).size) = off * (T e).size by omega] at hi
                    by_cases hi1 : i < off * (T e).size
                    · rw [if_pos hi1, List.getElem?_take, if_pos hi1] at hi
                      rw [if_neg (by omega)]
                      simpa using hcs i v hi
                    · rw [if_neg hi1, List.getElem?_append, hsl] at hi
                      by_cases hi2 : i - off * (T e).size < (T e).size
                      · rw [if_pos hi2, splice_get (by rw [plain_len]; simp; omega)] at hi
                        by_cases hi3 : j ≤ i - off * (T e).size ∧ i - off * (T e).size < j + (cellsL X).length
                        · rw [if_pos hi3] at hi
                          rw [if_pos (by omega)]
                          rw [← hi]; congr 1; omega
                        · rw [if_neg hi3] at hi
                          rw [if_neg (by omega)]
                          have := encAll_get (T e) xs off _ hxe (i - off * (T e).size) hi2
                          rw [show off * (T e).size + (i - off * (T e).size) = i by omega, hi] at this
                          simpa using hcs i v this
                      · rw [if_neg hi2, List.getElem?_drop] at hi
                        rw [if_neg (by omega)]
                        rw [show off * (T e).size + (T e).size + (i - off * (T e).size - (T e).size) = i by omega] at hi
                        simpa using hcs i v hi
              · cases h
            · split at h
              · rename_i ys hoff hpl hd
                have hoff := Nat.eq_of_beq_eq_true hoff
                subst hoff
                simp at h; subst h
                have hok' : (st.need (some (Nat.beq xs.length ys.length))).ok = true := hok
                obtain ⟨hok1, hbeq⟩ := need_okb hok'
                have hle := Nat.eq_of_beq_eq_true hbeq
                have hdp := decAll_plain _ hpl _ _ _ hd
                have hgr := encAll_ground _ hpl ys
                rw [hdp] at hgr
                have hceq := hcell.ground_eq hgr
                have hyl := encAll_len (T e) ys
                rw [hdp] at hyl
                obtain ⟨q1, q2, q3, q4, q5⟩ := hS.ob id _ hlo'
                by_cases hne : xs = []
                · have hy : ys = [] := by subst hne; simp at hle; exact List.eq_nil_of_length_eq_zero hle.symm
                  subst hy; subst hne
                  have hn0 : n = 0 := by simp at hyl; rw [← hlen, hyl]; simp
                  have hc0 : (a.eval x).cells = #[] := by
                    have : (a.eval x).cells.toList = [] := by rw [hceq]; exact List.eq_nil_of_length_eq_zero (by omega)
                    exact Array.toList_eq_nil_iff.1 this
                  refine ⟨hok1, ok_unit (s := Instr.storeAt t (a.eval p) (a.eval x)) (w' := w) (E' := E) (by simp [execOp, ho]) (by rw [hpe]; simp [Instr.storeAt, Instr.sureAddr, locA, storeVar, run_sizeOf hn, hc0, hn0, storeCells]) ?_⟩
                  have hstp := stp_touch (glob := cx.glob) (st := st) (w' := w) hS id hid (.row true e ([] : List (T e).ty)) (.row true e ([] : List (T e).ty)) hlo ⟨fun h => h, fun h => h⟩ rfl (fun _ _ => rfl) (fun _ => rfl) rfl rfl rfl ⟨q1, q2, q3, q4, q5⟩
                  exact hstp.of rfl rfl (fun _ h => h) (fun id hid => touch_mono _ _ _ id hid) rfl
                · obtain ⟨h1, h2, h3, c, t', fr, hb, hwr, hsz, hcs⟩ := row_cells hS hlo' hne
                  obtain ⟨hfr, hroom, hrw⟩ := hwr rfl
                  subst hfr
                  have hrun := run_storeVar (cx := cx) (E := E) (N := st.heap.length) (o := (E id).base + 0) hn hlen hdef hx hu hb (by rw [h2] at hsz; rw [← hlen, hyl, ← hle]; omega)
                  refine ⟨hok1, ok_unit (s := Instr.storeAt t (a.eval p) (a.eval x)) (w' := w.setRow (E id).blk (splice c.toList ((E id).base + 0) (a.eval x).cells.toList).toArray) (E' := E) (by simp [execOp, ho]) (by rw [hpe]; simpa [Instr.storeAt, Instr.sureAddr, locA] using hrun) ?_⟩
                  have hbnd : (E id).base + (a.eval x).cells.toList.length ≤ c.toList.length := by rw [hcl, ← hlen, hyl, ← hle]; rw [h2] at hsz; simpa using hsz
                  have hstp := stp_touch (glob := cx.glob) (st := st) hS id hid (.row true e xs) (.row true e ys) hlo ⟨fun h => h, fun h => h⟩ (w' := w.setRow (E id).blk (splice c.toList ((E id).base + 0) (a.eval x).cells.toList).toArray) (by simp) (fun b hb' => setRow_other w _ _ _ hb') (fun hns => absurd (show solid E id (Ob.row true e xs) from (by
                      have : xs.length ≠ 0 := fun e => hne (List.eq_nil_of_length_eq_zero e)
                      exact ⟨by omega, hrw⟩)) hns) rfl rfl rfl ?_
                  · exact hstp.of rfl rfl (fun _ h => h) (fun id hid => touch_mono _ _ _ id hid) rfl
                  · refine ⟨h1, h2, by rw [h3, hle], q4, .inr ⟨_, t', (0, 0), store_heap w hb _, fun _ => ⟨rfl, ?_, hrw⟩, ?_, fun i v hi => ?_⟩⟩
                    · simp only [List.size_toArray]; rw [splice_len (by simpa using hbnd)]; simpa using hroom
                    · simp only [List.size_toArray]; rw [splice_len (by simpa using hbnd), ← hle]; simpa using hsz
                    · rw [hdp] at hi
                      simp only [List.getElem?_toArray]
                      have hil := (List.getElem?_eq_some_iff.1 hi).1
                      rw [splice_get (by simpa using hbnd), hceq, if_pos (by omega), ← hi]
                      congr 1; omega
              · cases h
          · cases h
        · cases h
  · cases h
end
end Go.Proofs.YtlflclfhldghbaaGreatDoor.Ls
end
section
namespace Go.Proofs.YtlflclfhldghbaaGreatDoor.Ls
open Go
section
variable {T : TypeId → VS} {cx : Cx T} {E : Emb} {st : St T} {a : Act} {w : World} {o : Oper}
theorem op_nilCheck (hS : Sim cx.glob E st.heap w) (hV : EnvR E st.heap.length st.env a) {x : Operand} (ho : o.op = .nilCheck x) :
    (∀ ad, st.ev x = .pointer (some ad) → OpOK cx E st a w o (.val (.pointer (some ad)) st)) ∧
    (∀ f fs cs, st.ev x = .func (.func f) fs cs → OpOK cx E st a w o (.val (.func (.func f) fs cs) st)) := by
  have hx := ev_rel hS hV x
  refine ⟨fun ad h => ?_, fun f fs cs h => ?_⟩
  · rw [h] at hx
    have := ptr_inv hx
    exact ok_pure (v' := a.eval x) (by simp [execOp, ho, this]) hx (Stp.refl hS)
  · rw [h] at hx
    generalize hy : a.eval x = y at hx
    cases hx with
    | scal _ hs => simp [scalar] at hs
    | func _ _ fs' _ cs' h1 h2 h3 h4 => exact ok_pure (by simp [execOp, ho, hy]) (.func _ _ _ _ _ h1 h2 h3 h4) (Stp.refl hS)
theorem pureV_run {s : Sem Value} {v : Value} (h : pureV cx.P s = some v) (w : World) {E : Emb} {N : Nat} : s.run cx.P w = .ok v w ∧ VR E N v v := by
  unfold pureV at h
  split at h
  · rename_i u hu
    split at h
    · next hg => simp at h; subst h; exact ⟨pureRun_run _ _ hu w, .scal _ (scalar_of_ground hg)⟩
    · cases h
  · cases h
theorem op_unOp (hS : Sim cx.glob E st.heap w) (hV : EnvR E st.heap.length st.env a) {op : UnOp} {t : TypeId} {x : Operand} {v : Value} (hg : ground1 (st.ev x) = true) (hr : pureV cx.P (Op.unary op (st.ev x)) = some v) (ho : o.op = .unOp op t x) : OpOK cx E st a w o (.val v st) := by
  have hx := (ev_rel hS hV x).scalar_eq hg
  exact ok_value (s := Op.unary op (a.eval x)) (by simp [execOp, ho]) (by rw [hx]; exact (pureV_run hr w (E := E) (N := 0)).1) (pureV_run hr w).2 (Stp.refl hS)
theorem op_convert (hS : Sim cx.glob E st.heap w) (hV : EnvR E st.heap.length st.env a) {s d : TypeId} {x : Operand} {v : Value} (hg : ground1 (st.ev x) = true) (hr : pureV cx.P (convert s d (st.ev x)) = some v) (ho : o.op = .convert s d x) : OpOK cx E st a w o (.val v st) := by
  have hx := (ev_rel hS hV x).scalar_eq hg
  exact ok_value (s := convert s d (a.eval x)) (by simp [execOp, ho]) (by rw [hx]; exact (pureV_run hr w (E := E) (N := 0)).1) (pureV_run hr w).2 (Stp.refl hS)
theorem run_part {t : TypeId} {cs cs' : List Value} {off : Nat} {v : Value} {N : Nat} (h : partL cx t cs off = some v) (hc : PW E N cs cs') :
    ∃ v', (part t ⟨cs'⟩ off).run cx.P w = .ok v' w ∧ VR E N v v' := by
  unfold partL at h
  cases hg : isAggL cx t with
  | none => simp [hg] at h
  | some g =>
    cases g with
    | true =>
      simp only [hg] at h
      cases hs : sizeL cx t with
      | none => simp [hs] at h
      | some n =>
        simp only [hs] at h
        split at h
        · next hle =>
          simp at h; subst h
          refine ⟨.agg ⟨seg cs' off n⟩, ?_, VR.agg_mk ((hc.drop off).take n)⟩
          simp [part, run_isAgg hg, run_sizeOf hs]
          rfl
        · cases h
    | false =>
      simp only [hg] at h
      obtain ⟨u', h1, h2⟩ := hc.get h
      exact ⟨u', by simp [part, run_isAgg hg, h1], h2⟩
def fieldsEq (eqT : TypeId → Value → Value → Sem Bool) (xs ys : Array Value) : List Field → Sem Bool
  | [] => pure true
  | f :: r => if f.name = "_" then fieldsEq eqT xs ys r else
      part f.type xs f.offset >>= fun x => part f.type ys f.offset >>= fun y => eqT f.type x y >>= fun b => if b = true then fieldsEq eqT xs ys r else pure false
def elemsEq (eqT : Value → Value → Sem Bool) (e : TypeId) (n : Nat) (xs ys : Array Value) : List Nat → Sem Bool
  | [] => pure true
  | i :: r => part e xs (i * n) >>= fun x => part e ys (i * n) >>= fun y => eqT x y >>= fun b => if b = true then elemsEq eqT e n xs ys r else pure false
theorem forIn_fields (eqT : TypeId → Value → Value → Sem Bool) (xs ys : Array Value) : ∀ (fs : List Field),
    (do
      for f in fs do
        if f.name ≠ "_" then
          if !(← eqT f.type (← part f.type xs f.offset) (← part f.type ys f.offset)) then return false
      pure true : Sem Bool) = fieldsEq eqT xs ys fs := by
  intro fs
  induction fs with
  | nil => simp [fieldsEq]
  | cons f r ih =>
    simp only [List.forIn_cons, fieldsEq]
    rw [← ih]
    by_cases h : f.name = "_"
    · simp [h]
    · simp [h]
      congr 1; funext x1; congr 1; funext x2; congr 1; funext b
      cases b <;> simp
theorem forIn_elems (eqT : Value → Value → Sem Bool) (e : TypeId) (n : Nat) (xs ys : Array Value) : ∀ (l : List Nat),
    (do
      for i in l do
        if !(← eqT (← part e xs (i * n)) (← part e ys (i * n))) then return false
      pure true : Sem Bool) = elemsEq eqT e n xs ys l := by
  intro l
  induction l with
  | nil => simp [elemsEq]
  | cons i r ih =>
    simp only [List.forIn_cons, elemsEq]
    rw [← ih]
    simp
    congr 1; funext x1; congr 1; funext x2; congr 1; funext b
    cases b <;> simp
theorem fieldsEq_run {eqT : TypeId → Value → Value → Sem Bool} {eq' : TypeId → Value → Value → Option Bool} {N : Nat}
    (ih : ∀ t x y x' y' b, eq' t x y = some b → VR E N x x' → VR E N y y' → (eqT t x' y').run cx.P w = .ok b w) {xs ys xs' ys' : List Value} (hx : PW E N xs xs') (hy : PW E N ys ys') :
    ∀ (fs : List Field) (b : Bool), eqFields eq' cx xs ys fs = some b → (fieldsEq eqT ⟨xs'⟩ ⟨ys'⟩ fs).run cx.P w = .ok b w
  | [], b, h => by simp [eqFields] at h; subst h; rfl
  | f :: r, b, h => by
    simp only [eqFields] at h
    simp only [fieldsEq]
    split at h
    · next hn =>
      rw [if_pos (of_decide_eq_true hn)]
      exact fieldsEq_run ih hx hy r b h
    · next hn =>
      rw [if_neg (of_decide_eq_false hn)]
      split at h
      · rename_i x y h1 h2
        obtain ⟨x', r1, v1⟩ := run_part (w := w) h1 hx
        obtain ⟨y', r2, v2⟩ := run_part (w := w) h2 hy
        split at h
        · rename_i b1 h3
          have r3 := ih _ _ _ _ _ _ h3 v1 v2
          simp only [Sem.run_bind, r1, r2, r3, Result.andThen_ok]
          split at h
          · simp at h; subst h
            cases b1 <;> simp [fieldsEq]
          · split at h
            · rename_i c h4
              simp at h; subst h
              have r4 := fieldsEq_run ih hx hy _ c h4
              cases b1 <;> simp [r4]
            · cases h
        · cases h
      · cases h
theorem elemsEq_run {eqT : Value → Value → Sem Bool} {eq' : Value → Value → Option Bool} {N : Nat} {e : TypeId} {n : Nat}
    (ih : ∀ x y x' y' b, eq' x y = some b → VR E N x x' → VR E N y y' → (eqT x' y').run cx.P w = .ok b w) {xs ys xs' ys' : List Value} (hx : PW E N xs xs') (hy : PW E N ys ys') :
    ∀ (k i : Nat) (b : Bool), eqElems eq' cx e n xs ys k i = some b → (elemsEq eqT e n ⟨xs'⟩ ⟨ys'⟩ (List.range' i k)).run cx.P w = .ok b w
  | 0, i, b, h => by simp [eqElems] at h; subst h; rfl
  | k + 1, i, b, h => by
    simp only [eqElems] at h
    simp only [List.range'_succ, elemsEq]
    split at h
    · rename_i x y h1 h2
      obtain ⟨x', r1, v1⟩ := run_part (w := w) h1 hx
      obtain ⟨y', r2, v2⟩ := run_part (w := w) h2 hy
      split at h
      · rename_i b1 h3
        have r3 := ih _ _ _ _ _ h3 v1 v2
        simp only [Sem.run_bind, r1, r2, r3, Result.andThen_ok]
        split at h
        · simp at h; subst h
          cases b1 <;> simp [elemsEq]
        · split at h
          · rename_i c h4
            simp at h; subst h
            have r4 := elemsEq_run ih hx hy _ _ c h4
            cases b1 <;> simp [r4]
          · cases h
      · cases h
    · cases h
theorem eqL_sound {N : Nat} : ∀ (d D : Nat), d ≤ D → ∀ (t : TypeId) (x y x' y' : Value) (b : Bool), eqL cx d t x y = some b → VR E N x x' → VR E N y y' → (Op.equalIn D t x' y').run cx.P w = .ok b w
  | 0, D, _, t, x, y, x', y', b, h, _, _ => by simp [eqL] at h
  | d + 1, 0, hd, _, _, _, _, _, _, _, _, _ => by omega
  | d + 1, D + 1, hd, t, x, y, x', y', b, h, hx, hy => by
    have ih := eqL_sound (N := N) d D (by omega)
    unfold eqL at h
    cases hu : cx.P.underlying t with
    | none => simp [hu] at h
    | some u =>
      unfold Op.equalIn
      simp only [Sem.run_bind, run_underlying hu, Result.andThen_ok]
      cases u <;> simp only [hu] at h <;> try (cases h; done)
      case bool =>
        split at h
        · cases hx; cases hy; simp at h; subst h; simp
        · cases h
      case int =>
        split at h
        · split at h
          · next hk =>
            have := beqKind_eq hk; subst this
            cases hx; cases hy; simp at h; subst h; simp
          · cases h
        · cases h
      case string =>
        split at h
        · cases hx; cases hy; simp at h; subst h; simp
        · cases h
      case pointer =>
        split at h
        · cases hx; cases hy; simp at h; subst h; simp
        · cases hx; have := ptr_inv hy; subst this; simp at h; subst h; simp
        · have := ptr_inv hx; subst this; cases hy; simp at h; subst h; simp
        · cases h
      case interface =>
        split at h
        · cases hx; cases hy with
          | scal _ hs => simp [scalar] at hs
          | iface t v v' hv => simp at h; subst h; simp
        · cases hy; cases hx with
          | scal _ hs => simp [scalar] at hs
          | iface t v v' hv => simp at h; subst h; simp
        · cases h
      case slice =>
        split at h
        · cases hx; cases hy; simp at h; subst h; simp
        · cases h
      case func =>
        split at h
        · cases hx; cases hy with
          | scal _ hs => simp [scalar] at hs
          | func => simp at h; subst h; simp
        · cases hy; cases hx with
          | scal _ hs => simp [scalar] at hs
          | func => simp at h; subst h; simp
        · cases h
      case struct fs =>
        split at h
        · rename_i xs ys
          split at h
          · cases h
          · next hst =>
            obtain ⟨xs', rfl, hpx⟩ := hx.agg_inv
            obtain ⟨ys', rfl, hpy⟩ := hy.agg_inv
            have r := fieldsEq_run (eqT := Op.equalIn D) ih hpx hpy _ _ h
            have e := forIn_fields (Op.equalIn D) xs' ys' fs.toList
            rw [Array.forIn_toList] at e
            simp only [Sem.run_bind, run_program, Result.andThen_ok, hst, Bool.false_eq_true, if_false]
            rw [← e] at r
            simpa using r
        · cases h
      case array n e =>
        split at h
        · rename_i xs ys
          split at h
          · rename_i k hk
            obtain ⟨xs', rfl, hpx⟩ := hx.agg_inv
            obtain ⟨ys', rfl, hpy⟩ := hy.agg_inv
            have r := elemsEq_run (eqT := Op.equalIn D e) (fun x y x' y' b => ih e x y x' y' b) hpx hpy _ _ _ h
            have e' := forIn_elems (Op.equalIn D e) e k xs' ys' (List.range' 0 n)
            rw [← e'] at r
            simp only [Sem.run_bind, run_sizeOf hk, Result.andThen_ok]
            simpa [Std.Legacy.Range.forIn_eq_forIn_range'] using r
          · cases h
        · cases h
end
end Go.Proofs.YtlflclfhldghbaaGreatDoor.Ls
end
section
namespace Go.Proofs.YtlflclfhldghbaaGreatDoor.Ls
open Go
section
variable {T : TypeId → VS} {cx : Cx T} {E : Emb} {st : St T} {a : Act} {w : World} {o : Oper}
theorem VR.nil_eq {N : Nat} {v : Value} (h : VR E N .nilIface v) : v = .nilIface := by cases h; rfl
theorem isConstL_eq {x : Operand} (h : isConstL x = true) : ∃ v, x = .const v := by
  cases x <;> simp [isConstL] at h; exact ⟨_, rfl⟩
theorem binOp_eq_run {op : BinOp} {t : TypeId} {x' y' : Value} {b : Bool} (hop : op = .eql ∨ op = .neq) (hx : ∀ k n, x' ≠ .int k n) (hxs : ∀ s, x' ≠ .string s) (hxf : ∀ k n, x' ≠ .float k n) (hxc : ∀ k n m, x' ≠ .complex k n m)
    (h : (Op.equal t x' y').run cx.P w = .ok b w) : (binOp op t x' y').run cx.P w = .ok (.bool (if op = .eql then b else !b)) w := by
  rcases hop with rfl | rfl
  · have e : binOp .eql t x' y' = (do pure (.bool (← Op.equal t x' y'))) := by
      cases x' <;> first | (exact absurd rfl (hx _ _)) | (exact absurd rfl (hxs _)) | (exact absurd rfl (hxf _ _)) | (exact absurd rfl (hxc _ _ _)) | (cases y' <;> rfl)
    rw [e]; simp [h]
  · have e : binOp .neq t x' y' = (do pure (.bool (!(← Op.equal t x' y')))) := by
      cases x' <;> first | (exact absurd rfl (hx _ _)) | (exact absurd rfl (hxs _)) | (exact absurd rfl (hxf _ _)) | (exact absurd rfl (hxc _ _ _)) | (cases y' <;> rfl)
    rw [e]; simp [h]
theorem nil_eq_run {op : BinOp} {t : TypeId} {ms : Array (String × TypeId)} (hu : cx.P.underlying t = some (.interface ms)) (hop : op = .eql ∨ op = .neq) :
    ((do pure (); binOp op t .nilIface .nilIface) : Sem Value).run cx.P w = .ok (.bool (if op = .eql then true else !true)) w := by
  have h : (Op.equal t .nilIface .nilIface).run cx.P w = .ok true w := by
    show (Op.equalIn (9999 + 1) t .nilIface .nilIface).run cx.P w = .ok true w
    unfold Op.equalIn
    simp only [Sem.run_bind, run_underlying hu, Result.andThen_ok]
    rfl
  exact binOp_eq_run hop (by simp) (by simp) (by simp) (by simp) h
theorem eqL_undef (d : Nat) (t : TypeId) (y : Value) : eqL cx d t undef y = none := by
  cases d with
  | zero => rfl
  | succ d =>
    unfold eqL undef
    cases hu : cx.P.underlying t with
    | none => rfl
    | some u => cases u <;> first | rfl | (cases y <;> rfl)
theorem eqL_undef' (d : Nat) (t : TypeId) (x : Value) : eqL cx d t x undef = none := by
  cases d with
  | zero => rfl
  | succ d =>
    unfold eqL undef
    cases hu : cx.P.underlying t with
    | none => rfl
    | some u =>
      cases u <;> cases x <;> first | rfl | skip
      all_goals first
        | (rename_i v; cases v <;> rfl)
        | (rename_i v _ _; cases v <;> rfl)
theorem eqTop_eq {t : TypeId} {x y : Value} {b : Bool} (h : eqTop cx t x y = some b) : eqL cx 12 t x y = some b := by
  unfold eqTop at h
  split at h <;> try (cases h; done)
  · split at h
    · cases h
    · exact h
  · exact h
theorem eqTop_sound {op : BinOp} {t : TypeId} {X Y : Operand} {x y x' y' : Value} {b : Bool} {N : Nat} (h : eqTop cx t x y = some b) (hx : VR E N x x') (hy : VR E N y y') (hop : op = .eql ∨ op = .neq) (hn : ¬ (x = .nilIface ∧ y = .nilIface)) :
    ((do eqGuard op t X Y x' y'; binOp op t x' y') : Sem Value).run cx.P w = .ok (.bool (if op = .eql then b else !b)) w := by
  have h0 := eqTop_eq h
  have heq := eqL_sound (w := w) 12 Op.maxDepth (by decide) t x y x' y' b h0 hx hy
  have hux : x ≠ undef := fun e => by rw [e, eqL_undef] at h0; cases h0
  have huy : y ≠ undef := fun e => by rw [e, eqL_undef'] at h0; cases h0
  have hb := binOp_eq_run (cx := cx) (w := w) (t := t) (x' := x') (y' := y') hop (b := b)
    (by intro k n e; subst e; cases hx with
        | any => exact hux rfl
        | scal => simp [eqTop] at h)
    (by intro k e; subst e; cases hx with
        | any => exact hux rfl
        | scal => simp [eqTop] at h)
    (by intro k n e; subst e; cases hx with
        | any => exact hux rfl
        | scal => simp [eqTop] at h)
    (by intro k n m e; subst e; cases hx with
        | any => exact hux rfl
        | scal => simp [eqTop] at h) heq
  have hg : (eqGuard op t X Y x' y').run cx.P w = .ok () w := by
    by_cases hag : ∃ cs, x = .agg cs
    · obtain ⟨cs, rfl⟩ := hag
      obtain ⟨cs', rfl, _⟩ := hx.agg_inv
      have hgt : cx.P.eqGuardType cx.P.depth t = false := by
        unfold eqTop at h
        simp only at h
        split at h
        · cases h
        · next e => exact e
      unfold eqGuard
      rcases hop with rfl | rfl <;> (cases y' <;> simp [hgt])
    · have hag' : ∀ cs, x' ≠ .agg cs := by
        intro cs e; subst e
        cases hx with
        | any => exact hux rfl
        | scal _ hs => simp [scalar] at hs
        | agg cs' => exact hag ⟨_, rfl⟩
      by_cases hnl : x' = .nilIface
      · subst hnl
        have hx0 : x = .nilIface := by
          cases hx with
          | any => exact absurd rfl hux
          | scal => rfl
        have hy0 : y' ≠ .nilIface := by
          intro e; subst e
          have : y = .nilIface := by
            cases hy with
            | any => exact absurd rfl huy
            | scal => rfl
          exact hn ⟨hx0, this⟩
        unfold eqGuard
        rcases hop with rfl | rfl <;> (cases y' <;> first | rfl | (exact absurd rfl hy0))
      · unfold eqGuard
        rcases hop with rfl | rfl <;> (cases x' <;> first | rfl | (exact absurd rfl hnl) | (exact absurd rfl (hag' _)) | (cases y' <;> rfl))
  simp only [Sem.run_bind, hg, Result.andThen_ok, hb]
theorem guard_int {op : BinOp} {t : TypeId} {X Y : Operand} {v u : Value} (h : ground1 v = true) : eqGuard op t X Y v u = pure () := by
  cases v <;> simp [ground1] at h
  · exact eqGuard_at_bool ..
  · exact eqGuard_at_int ..
  · exact eqGuard_at_float ..
  · exact eqGuard_at_complex ..
  · exact eqGuard_at_string ..
theorem op_binOp (hS : Sim cx.glob E st.heap w) (hV : EnvR E st.heap.length st.env a) {op : BinOp} {t yt : TypeId} {x y : Operand} {v : Value} {g : Option Bool} (h : binL cx op t (isConstL y) (st.ev x) (st.ev y) = some (v, g)) (hg : g ≠ some false)
    (ho : o.op = .binOp op t x y yt) : OpOK cx E st a w o (.val v (st.need g)) := by
  have hx := ev_rel hS hV x
  have hy := ev_rel hS hV y
  have key : ∀ v', ((do eqGuard op t x y (a.eval x) (a.eval y); binOp op t (a.eval x) (a.eval y)) : Sem Value).run cx.P w = .ok v' w → VR E st.heap.length v v' → OpOK cx E st a w o (.val v (st.need g)) :=
    fun v' h1 h2 => ok_value (s := do eqGuard op t x y (a.eval x) (a.eval y); binOp op t (a.eval x) (a.eval y)) (by simp [execOp, ho]) h1 (by rw [need_heap]; exact h2) (stp_need hS g)
  have two : ∀ {u1 u2 : Value}, st.ev x = u1 → st.ev y = u2 → ground1 u1 = true → ground1 u2 = true → a.eval x = u1 ∧ a.eval y = u2 := by
    intro u1 u2 e1 e2 g1 g2
    rw [e1] at hx; rw [e2] at hy
    exact ⟨hx.scalar_eq g1, hy.scalar_eq g2⟩
  generalize hX : st.ev x = X at *
  generalize hY : st.ev y = Y at *
  have gen : ∀ (op' : BinOp), op = op' → (match ground1 X, ground1 Y, pureV cx.P (binOp op' t X Y) with | true, true, some v => some (v, none) | _, _, _ => none) = some (v, g) → OpOK cx E st a w o (.val v (st.need g)) := by
    intro op' e hh
    subst e
    split at hh
    · rename_i g1 g2 hr
      simp at hh; obtain ⟨rfl, rfl⟩ := hh
      obtain ⟨e1, e2⟩ := two rfl rfl g1 g2
      refine key _ ?_ (pureV_run hr w).2
      rw [e1, e2, guard_int g1]
      simp only [Sem.run_bind, Sem.run_pure, Result.andThen_ok]
      exact (pureV_run hr w (E := E) (N := 0)).1
    · cases hh
  have scal : ∀ {u : Value}, ground1 u = true → VR E st.heap.length u u := fun h => .scal _ (scalar_of_ground h)
  unfold binL at h
  split at h
  ·
    split at h
    · split at h
      · rename_i k p k' q _ _ g' hk hd
        have := beqKind_eq hk; subst this
        simp at h; obtain ⟨rfl, rfl⟩ := h
        obtain ⟨e1, e2⟩ := two rfl rfl rfl rfl
        have hq := divOk_ne hd hg
        refine key _ ?_ (scal rfl)
        rw [e1, e2, guard_int rfl]
        simp [binOp_quo, Op.intDiv, hq]
      · cases h
    · cases h
  · split at h
    · split at h
      · rename_i k p k' q _ _ g' hk hd
        have := beqKind_eq hk; subst this
        simp at h; obtain ⟨rfl, rfl⟩ := h
        obtain ⟨e1, e2⟩ := two rfl rfl rfl rfl
        have hq := divOk_ne hd hg
        refine key _ ?_ (scal rfl)
        rw [e1, e2, guard_int rfl]
        simp [binOp_rem, Op.intDiv, hq]
      · cases h
    · cases h
  · split at h
    · rename_i k p k' q
      simp at h; obtain ⟨rfl, hgg⟩ := h
      obtain ⟨e1, e2⟩ := two rfl rfl rfl rfl
      have hq : ¬ q < 0 := by
        intro hq
        subst hgg
        split at hg
        · split at hg
          · next e => have := of_decide_eq_true e; omega
          · exact hg rfl
        · exact hg (by simp; omega)
      refine key _ ?_ (scal rfl)
      rw [e1, e2, guard_int rfl]
      simp [binOp_shl, Op.shift, hq]
    · cases h
  · split at h
    · rename_i k p k' q
      simp at h; obtain ⟨rfl, hgg⟩ := h
      obtain ⟨e1, e2⟩ := two rfl rfl rfl rfl
      have hq : ¬ q < 0 := by
        intro hq
        subst hgg
        split at hg
        · split at hg
          · next e => have := of_decide_eq_true e; omega
          · exact hg rfl
        · exact hg (by simp; omega)
      refine key _ ?_ (scal rfl)
      rw [e1, e2, guard_int rfl]
      simp [binOp_shr, Op.shift, hq]
    · cases h
  ·
    split at h
    · split at h
      · next hk =>
        have := beqKind_eq hk; subst this
        simp at h; obtain ⟨rfl, rfl⟩ := h
        obtain ⟨e1, e2⟩ := two rfl rfl rfl rfl
        refine key _ ?_ (scal rfl)
        rw [e1, e2, guard_int rfl]
        simp [binOp_eql]
      · cases h
    · simp at h; obtain ⟨rfl, rfl⟩ := h
      obtain ⟨e1, e2⟩ := two rfl rfl rfl rfl
      refine key _ ?_ (scal rfl)
      rw [e1, e2, guard_int rfl]
      simp [binOp, Op.stringOp]
    · split at h
      · rename_i ms hc hu
        obtain ⟨c, rfl⟩ := isConstL_eq hc
        simp at h; obtain ⟨rfl, rfl⟩ := h
        have e1 : a.eval x = .nilIface := hx.nil_eq
        have e2 : a.eval (.const c) = .nilIface := hy.nil_eq
        refine key _ ?_ (scal rfl)
        rw [e1, e2, eqGuard_nil_constR]
        exact nil_eq_run hu (.inl rfl)
      · cases h
    · split at h
      · rename_i hne _ b hb
        simp at h; obtain ⟨rfl, rfl⟩ := h
        have r := eqTop_sound (w := w) (X := x) (Y := y) (op := .eql) hb hx hy (.inl rfl) (fun e => hne e.1 e.2)
        refine key _ r (scal rfl)
      · cases h
  ·
    split at h
    · split at h
      · next hk =>
        have := beqKind_eq hk; subst this
        simp at h; obtain ⟨rfl, rfl⟩ := h
        obtain ⟨e1, e2⟩ := two rfl rfl rfl rfl
        refine key _ ?_ (scal rfl)
        rw [e1, e2, guard_int rfl]
        simp [binOp_neq]
      · cases h
    · simp at h; obtain ⟨rfl, rfl⟩ := h
      obtain ⟨e1, e2⟩ := two rfl rfl rfl rfl
      refine key _ ?_ (scal rfl)
      rw [e1, e2, guard_int rfl]
      simp [binOp, Op.stringOp]
    · split at h
      · rename_i ms hc hu
        obtain ⟨c, rfl⟩ := isConstL_eq hc
        simp at h; obtain ⟨rfl, rfl⟩ := h
        have e1 : a.eval x = .nilIface := hx.nil_eq
        have e2 : a.eval (.const c) = .nilIface := hy.nil_eq
        refine key _ ?_ (scal rfl)
        rw [e1, e2, eqGuard_nil_constR]
        exact nil_eq_run hu (.inr rfl)
      · cases h
    · split at h
      · rename_i hne _ b hb
        simp at h; obtain ⟨rfl, rfl⟩ := h
        have r := eqTop_sound (w := w) (X := x) (Y := y) (op := .neq) hb hx hy (.inr rfl) (fun e => hne e.1 e.2)
        refine key _ r (scal rfl)
      · cases h
  · exact gen _ rfl h
end
end Go.Proofs.YtlflclfhldghbaaGreatDoor.Ls
end
section
namespace Go.Proofs.YtlflclfhldghbaaGreatDoor.Ls
open Go
section
variable {T : TypeId → VS} {cx : Cx T} {E : Emb} {st : St T} {a : Act} {w : World} {o : Oper}
theorem ptr_ok {N : Nat} {ad : Addr} {v' : Value} (h : VR E N (.pointer (some ad)) v') : okId N ad.block := by
  cases h with
  | scal _ hs => simp [scalar] at hs
  | ptr _ h => exact h
theorem zeroV_eq {t : TypeId} {z : Value} (h : zeroV cx t = some z) : ∃ i, cx.P.info? t = some i ∧ i.zero = some z ∧ constOk z = true := by
  unfold zeroV at h
  split at h
  · rename_i i hi
    split at h
    · rename_i v hv
      split at h
      · next hc => simp at h; subst h; exact ⟨i, hi, hv, hc⟩
      · cases h
    · cases h
  · cases h
theorem op_makeInterface (hS : Sim cx.glob E st.heap w) (hV : EnvR E st.heap.length st.env a) {t : TypeId} {x : Operand} {d : TypeDesc} (hu : cx.P.underlying t = some d) (hd : ∀ ms, d ≠ .interface ms) (ho : o.op = .makeInterface t x) :
    OpOK cx E st a w o (.val (.iface t (st.ev x)) st) := by
  refine ok_value (s := Instr.makeInterface t (a.eval x)) (v' := .iface t (a.eval x)) (by simp [execOp, ho]) ?_ (.iface _ _ _ (ev_rel hS hV x)) (Stp.refl hS)
  simp only [Instr.makeInterface, Sem.run_bind, run_underlying hu, Result.andThen_ok]
  cases d <;> first | rfl | exact absurd rfl (hd _)
theorem op_makeFunc (hS : Sim cx.glob E st.heap w) (hV : EnvR E st.heap.length st.env a) {fn : Fn} {fs cs : Array Operand} (ho : o.op = .makeFunc fn fs cs) :
    OpOK cx E st a w o (.val (.func fn ⟨evl st fs.toList⟩ ⟨evl st cs.toList⟩) st) := by
  have h1 := evl_rel hS hV fs.toList
  have h2 := evl_rel hS hV cs.toList
  refine ok_value (s := Instr.makeFunc fn (fs.map a.eval) (cs.map a.eval)) (v' := .func fn (fs.map a.eval) (cs.map a.eval)) (by simp [execOp, ho]) rfl (.func _ _ _ _ _ ?_ ?_ ?_ ?_) (Stp.refl hS)
  · have := h1.1; simpa using this
  · intro i v v' hv hv'
    exact h1.2 i v v' (by simpa using hv) (by simpa using hv')
  · have := h2.1; simpa using this
  · intro i v v' hv hv'
    exact h2.2 i v v' (by simpa using hv) (by simpa using hv')
theorem fieldsOf_eq {t : TypeId} {fs : List Field} (h : fieldsOf cx t = some fs) : ∃ f : Array Field, cx.P.underlying t = some (.struct f) ∧ f.toList = fs := by
  unfold fieldsOf at h
  split at h
  · rename_i f hf
    simp at h
    exact ⟨f, hf, h⟩
  · cases h
theorem addr_add (ad : Addr) (n : Nat) : ad.add n = if n = 0 then ad else ⟨ad.block, ad.off + n, none⟩ := rfl
theorem op_fieldAddr (hS : Sim cx.glob E st.heap w) (hV : EnvR E st.heap.length st.env a) {s : TypeId} {x : Operand} {k n : Nat} {fs : List Field} {f : Field} (hf : fieldsOf cx s = some fs) (hk : fs[k]? = some f) (hn : sizeL cx f.type = some (n + 1))
    (ho : o.op = .fieldAddr s x k) :
    (∀ id off, st.ev x = .pointer (some ⟨id, off, none⟩) → OpOK cx E st a w o (.val (.pointer (some ⟨id, match Nat.beq f.offset 0 with | true => off | false => off + f.offset, none⟩)) st)) ∧
    (∀ id off j, st.ev x = .pointer (some ⟨id, off, some j⟩) → OpOK cx E st a w o (.val (.pointer (some ⟨id, off, some (match Nat.beq f.offset 0 with | true => j | false => j + f.offset)⟩)) st)) := by
  obtain ⟨fa, hu, rfl⟩ := fieldsOf_eq hf
  have hk' : fa[k]? = some f := by simpa using hk
  have hx := ev_rel hS hV x
  have run : ∀ ad, a.eval x = .pointer (some ad) → (Instr.fieldAt s (a.eval x) k).run cx.P w = .ok (.pointer (some (ad.add f.offset))) w := by
    intro ad he
    rw [he]
    simp [Instr.fieldAt, run_underlying hu, hk', Instr.sureAddr, fieldPlace, run_sizeOf hn]
  constructor
  · intro id off he
    rw [he] at hx
    have hp := ptr_inv hx
    have hid : okId st.heap.length id := ptr_ok hx
    refine ok_value (s := Instr.fieldAt s (a.eval x) k) (by simp [execOp, ho]) (run _ hp) ?_ (Stp.refl hS)
    have := VR.ptr (E := E) (N := st.heap.length) ⟨id, match Nat.beq f.offset 0 with | true => off | false => off + f.offset, none⟩ hid
    rw [addr_add]
    cases hb : Nat.beq f.offset 0 with
    | true => have := Nat.eq_of_beq_eq_true hb; simp [this, locA] at *; exact VR.ptr ⟨id, off, none⟩ hid
    | false => have h0 := Nat.ne_of_beq_eq_false hb; simp [hb, h0, locA] at *; rw [Nat.add_assoc]; exact this
  · intro id off j he
    rw [he] at hx
    have hp := ptr_inv hx
    have hid : okId st.heap.length id := ptr_ok hx
    refine ok_value (s := Instr.fieldAt s (a.eval x) k) (by simp [execOp, ho]) (run _ hp) ?_ (Stp.refl hS)
    have := VR.ptr (E := E) (N := st.heap.length) ⟨id, off, some (match Nat.beq f.offset 0 with | true => j | false => j + f.offset)⟩ hid
    rw [addr_add]
    cases hb : Nat.beq f.offset 0 with
    | true => have := Nat.eq_of_beq_eq_true hb; simp [this, locA] at *; exact VR.ptr ⟨id, off, some j⟩ hid
    | false => have h0 := Nat.ne_of_beq_eq_false hb; simp [hb, h0, locA] at *; rw [Nat.add_assoc]; exact this
theorem op_field (hS : Sim cx.glob E st.heap w) (hV : EnvR E st.heap.length st.env a) {t : TypeId} {x : Operand} {k : Nat} {fs : List Field} {f : Field} {cs : Array Value} {v : Value} (hf : fieldsOf cx t = some fs) (hk : fs[k]? = some f) (hx0 : st.ev x = .agg cs)
    (hp : partL cx f.type cs.toList f.offset = some v) (ho : o.op = .field t x k) : OpOK cx E st a w o (.val v st) := by
  obtain ⟨fa, hu, rfl⟩ := fieldsOf_eq hf
  have hk' : fa[k]? = some f := by simpa using hk
  have hx := ev_rel hS hV x
  rw [hx0] at hx
  obtain ⟨cs', he, hc⟩ := hx.agg_inv
  obtain ⟨v', r, hv⟩ := run_part (w := w) hp hc
  refine ok_value (s := Instr.field t (a.eval x) k) (by simp [execOp, ho]) ?_ hv (Stp.refl hS)
  rw [he]
  simp [Instr.field, run_underlying hu, hk', asAgg, r]
theorem op_extract (hS : Sim cx.glob E st.heap w) (hV : EnvR E st.heap.length st.env a) {x : Operand} {i : Nat} {vs : Array Value} {v : Value} (hx0 : st.ev x = .tuple vs) (hi : vs.toList[i]? = some v) (ho : o.op = .extract x i) : OpOK cx E st a w o (.val v st) := by
  have hx := ev_rel hS hV x
  rw [hx0] at hx
  rcases hx.tup_inv with rfl | ⟨cs', he, hc⟩
  · simp at hi
  · obtain ⟨v', h1, hv⟩ := hc.get hi
    refine ok_value (s := Instr.extract (a.eval x) i) (by simp [execOp, ho]) ?_ hv (Stp.refl hS)
    rw [he]
    have : cs'[i]? = some v' := by simpa using h1
    simp [Instr.extract, this]
theorem op_typeAssert (hS : Sim cx.glob E st.heap w) (hV : EnvR E st.heap.length st.env a) {x : Operand} {xt as_ t : TypeId} {ok : Bool} {v : Value} {d : TypeDesc} (hu : cx.P.underlying as_ = some d) (hd : ∀ ms, d ≠ .interface ms) (hx0 : st.ev x = .iface t v)
    (ho : o.op = .typeAssert x xt as_ ok) :
    (t = as_ → OpOK cx E st a w o (.val (okPair ok v) st)) ∧
    (t ≠ as_ → ok = true → ∀ z, zeroV cx as_ = some z → OpOK cx E st a w o (.val (.tuple #[z, .bool false]) st)) := by
  have hx := ev_rel hS hV x
  rw [hx0] at hx
  obtain ⟨v', he, hv⟩ : ∃ v', a.eval x = .iface t v' ∧ VR E st.heap.length v v' := by
    generalize a.eval x = y at hx
    cases hx with
    | scal _ hs => simp [scalar] at hs
    | iface _ _ v' h => exact ⟨v', rfl, h⟩
  constructor
  · intro e
    refine ok_value (s := Instr.typeAssert (a.eval x) xt as_ ok) (v' := okPair ok v') (by simp [execOp, ho]) ?_ ?_ (Stp.refl hS)
    · rw [he]
      simp only [Instr.typeAssert, Sem.run_bind, run_underlying hu, Result.andThen_ok]
      cases d <;> first | exact absurd rfl (hd _) | (cases ok <;> simp [e, okPair])
    · cases ok
      · exact hv
      · exact VR.tup_mk (cs := [v, .bool true]) (cs' := [v', .bool true]) (.cons hv (.cons (.scal _ rfl) .nil))
  · intro hne hok z hz
    subst hok
    obtain ⟨i, hi, hzv, hc⟩ := zeroV_eq hz
    refine ok_value (s := Instr.typeAssert (a.eval x) xt as_ true) (v' := .tuple #[z, .bool false]) (by simp [execOp, ho]) ?_ (VR.tup_mk (cs := [z, .bool false]) (cs' := [z, .bool false]) (.cons (const_rel hc) (.cons (.scal _ rfl) .nil))) (Stp.refl hS)
    rw [he]
    simp only [Instr.typeAssert, Sem.run_bind, run_underlying hu, Result.andThen_ok]
    cases d <;> first | exact absurd rfl (hd _) | (simp [hne, run_zeroValue hi hzv])
theorem op_panic (hS : Sim cx.glob E st.heap w) (hV : EnvR E st.heap.length st.env a) {x : Operand} {t : TypeId} {v : Value} (hx0 : st.ev x = .iface t v) (ho : o.op = .panic x) : OpOK cx E st a w o (.pan (.iface t v) st) := by
  have hx := ev_rel hS hV x
  rw [hx0] at hx
  obtain ⟨v', he, hv⟩ : ∃ v', a.eval x = .iface t v' ∧ VR E st.heap.length v v' := by
    generalize a.eval x = y at hx
    cases hx with
    | scal _ hs => simp [scalar] at hs
    | iface _ _ v' h => exact ⟨v', rfl, h⟩
  intro next Q h
  unfold Oper.wp
  have : execOp a.eval o = (do pure (.value (← Instr.panic (a.eval x)))) := by simp [execOp, ho]
  rw [this, he]
  simp only [Sem.run_bind, Instr.panic, run_goPanic, Result.andThen_halt, Oper.upon]
  exact h _ w E (.iface _ _ _ hv) (Stp.refl hS)
theorem op_index_string (hS : Sim cx.glob E st.heap w) (hV : EnvR E st.heap.length st.env a) {t : TypeId} {x i : Operand} {s : ByteArray} {k : IntKind} {n : Int} (hu : cx.P.underlying t = some .string) (hx0 : st.ev x = .string s) (hi0 : st.ev i = .int k n)
    (h0 : 0 ≤ n) (h1 : n < s.size) (ho : o.op = .index t x i) : OpOK cx E st a w o (.val (.int .u8 ((s[n.toNat]!).toNat : Int)) st) := by
  have hx := (ev_rel hS hV x); rw [hx0] at hx
  have hi := (ev_rel hS hV i); rw [hi0] at hi
  have e1 := hx.scalar_eq rfl
  have e2 := hi.scalar_eq rfl
  refine ok_value (s := Instr.index t (a.eval x) (a.eval i)) (by simp [execOp, ho]) ?_ (.scal _ rfl) (Stp.refl hS)
  rw [e1, e2]
  have hlt : n.toNat < s.size := by omega
  have hb : s[n.toNat]? = some s[n.toNat] := by simp [hlt]
  have hb' : s[n.toNat]! = s[n.toNat] := by simp [hlt]
  simp [Instr.index, asIntOf, run_underlying hu, h0, hb, hb']
theorem op_index_array (hS : Sim cx.glob E st.heap w) (hV : EnvR E st.heap.length st.env a) {t e : TypeId} {x i : Operand} {cs : Array Value} {k : IntKind} {n : Int} {m s : Nat} {v : Value} (hu : cx.P.underlying t = some (.array m e)) (hx0 : st.ev x = .agg cs) (hi0 : st.ev i = .int k n)
    (h0 : 0 ≤ n) (h1 : n < m) (hs : sizeL cx e = some s) (hp : partL cx e cs.toList (n.toNat * s) = some v) (ho : o.op = .index t x i) : OpOK cx E st a w o (.val v st) := by
  have hx := (ev_rel hS hV x); rw [hx0] at hx
  have hi := (ev_rel hS hV i); rw [hi0] at hi
  have e2 := hi.scalar_eq rfl
  obtain ⟨cs', he, hc⟩ := hx.agg_inv
  obtain ⟨v', r, hv⟩ := run_part (w := w) hp hc
  refine ok_value (s := Instr.index t (a.eval x) (a.eval i)) (by simp [execOp, ho]) ?_ hv (Stp.refl hS)
  rw [he, e2]
  simp [Instr.index, asIntOf, run_underlying hu, h0, h1, run_sizeOf hs, r]
end
end Go.Proofs.YtlflclfhldghbaaGreatDoor.Ls
end
