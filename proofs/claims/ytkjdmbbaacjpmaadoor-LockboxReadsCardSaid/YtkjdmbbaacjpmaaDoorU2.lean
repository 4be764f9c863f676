-- Texts of this claim, joined and cut down to what it uses (a program of this session).
import Derived.Test.YtkjdmbbaacjpmaaDoorU1
import Derived.KernelRfl
import Derived.Shelf.Strconv.Itoa0
import Derived.Shelf.Strconv.Itoa1
import Derived.Shelf.LaysM
import Derived.Shelf.Strconv.Itoa2
import Derived.Shelf.Strconv.Itoa3
import Derived.Shelf.Strconv.Itoa4
import Derived.Shelf.Strconv.ParseIntEmpty
import Derived.Shelf.Strconv.Clone
import Derived.Shelf.Strconv.SyntaxError
import Derived.Shelf.LaysC
import Derived.Shelf.Strconv.ToError
import Derived.Shelf.Strconv.Lower
import Derived.Shelf.Strconv.ParseUint10
import Derived.Shelf.Strconv.ParseUint10Empty
import Derived.Shelf.Strconv.ParseUint10Any
import Derived.Shelf.Strconv.ParseInt10
import Derived.Shelf.Strconv.RangeError
import Derived.Shelf.Strconv.ToErrorRange
import Derived.Shelf.Strconv.ParseUintEmpty
import Derived.Shelf.Strconv.ParseUint10b64
import Derived.Shelf.Strconv.ParseUint10b32
import Derived.Shelf.Strconv.ParseUint10b16
import Derived.Shelf.Strconv.ParseUint10b8
import Derived.Shelf.Strconv.ParseUint10At
import Derived.Shelf.Strconv.ParseInt10At64
import Derived.Shelf.Strconv.ParseInt10At32
import Derived.Shelf.Strconv.ParseInt10At16
import Derived.Shelf.Strconv.ParseInt10At8
import Derived.Shelf.Strconv.ParseInt10All
import Derived.Shelf.Bytes.IndexByte
import Derived.Test.YtkjdmbbaacjpmaaDoorProg
import Derived.Lib.ItoaNum
import Derived.Below
import Derived.Deep.Draws
import Derived.Deep.AppendLies
import Derived.Maps.AppendAt
import Derived.OwnWalk
import Derived.Laws.BytesArg
import Derived.Laws.MakeOwn
import Derived.Laws.OwnMore
import Derived.Deep.OwnRows
import Derived.Tactics
import Derived.Lib.ConvBytes
import Derived.Laws.Slices
import Derived.WalkKit
import Derived.RowKit3
import Derived.Deep.LoopGhost
import Derived.Deep.QuietTactic
import Derived.BigQuiet
import Derived.WideLaws
import Derived.Deep.DeepCutAuto
import Derived.Deep.CutBlock
import Derived.Deep.RegionHeld3
import Derived.Laws.Rows
import Derived.Lib.AppendStr
import Derived.ArgAppend
import Derived.Laws.IdiomCopy
import Derived.OrdersHeld
import Derived.Laws.BitsLemmas
import Derived.RowKit
import Derived.Lib.AppendIntMem
section
namespace Go.Proofs.YtkjdmbbaacjpmaaDoor.Cal
def lp (y : Int) : Int := if y % 4 = 0 ∧ (y % 100 ≠ 0 ∨ y % 400 = 0) then 1 else 0
theorem lp_01 (y : Int) : lp y = 0 ∨ lp y = 1 := by unfold lp; split <;> simp
def dby (y : Int) : Int := 365 * (y - 1) + (y - 1) / 4 - (y - 1) / 100 + (y - 1) / 400
theorem dby_succ (y : Int) : dby (y + 1) = dby y + 365 + lp y := by
  unfold dby lp
  split <;> omega
theorem dby_le (n : Nat) : ∀ y : Int, dby y + 365 * n ≤ dby (y + n) := by
  induction n with
  | zero => intro y; simp
  | succ n ih =>
    intro y
    have h1 := ih (y + 1)
    have h2 := dby_succ y
    have h3 := lp_01 y
    rw [show y + ((n + 1 : Nat) : Int) = y + 1 + (n : Int) by omega]
    omega
def A (m : Int) : Int := if m ≤ 1 then 0 else if m = 2 then 31 else if m = 3 then 59 else if m = 4 then 90 else if m = 5 then 120 else if m = 6 then 151 else if m = 7 then 181 else if m = 8 then 212 else if m = 9 then 243 else if m = 10 then 273 else if m = 11 then 304 else if m = 12 then 334 else 365
def cum (y m : Int) : Int := A m + (if 2 < m then lp y else 0)
def mlen (y m : Int) : Int := if m = 2 then 28 + lp y else if m = 4 ∨ m = 6 ∨ m = 9 ∨ m = 11 then 30 else 31
theorem months {m : Int} (h : 1 ≤ m) (h' : m ≤ 12) : m = 1 ∨ m = 2 ∨ m = 3 ∨ m = 4 ∨ m = 5 ∨ m = 6 ∨ m = 7 ∨ m = 8 ∨ m = 9 ∨ m = 10 ∨ m = 11 ∨ m = 12 := by omega
theorem cum_succ (y : Int) {m : Int} (h : 1 ≤ m) (h' : m ≤ 12) : cum y (m + 1) = cum y m + mlen y m := by
  rcases months h h' with rfl | rfl | rfl | rfl | rfl | rfl | rfl | rfl | rfl | rfl | rfl | rfl <;> simp [cum, A, mlen] <;> omega
theorem cum_one (y : Int) : cum y 1 = 0 := by simp [cum, A]
theorem cum_end (y : Int) : cum y 13 = 365 + lp y := by simp [cum, A]
theorem mlen_range (y m : Int) : 28 ≤ mlen y m ∧ mlen y m ≤ 31 := by
  have := lp_01 y
  unfold mlen; split
  · omega
  · split <;> omega
theorem cum_le (y : Int) (n : Nat) : ∀ m : Int, 1 ≤ m → m + n ≤ 13 → cum y m + 28 * n ≤ cum y (m + n) := by
  induction n with
  | zero => intro m _ _; simp
  | succ n ih =>
    intro m h h'
    have h1 := ih (m + 1) (by omega) (by omega)
    have h2 := cum_succ y h (by omega)
    have h3 := mlen_range y m
    rw [show m + ((n + 1 : Nat) : Int) = m + 1 + (n : Int) by omega]
    omega
theorem cum_range (y : Int) {m : Int} (h : 1 ≤ m) (h' : m ≤ 13) : 0 ≤ cum y m ∧ cum y m ≤ 366 := by
  have a := cum_le y (m - 1).toNat 1 (by omega) (by omega)
  rw [cum_one, show (1 : Int) + ((m - 1).toNat : Int) = m by omega] at a
  have b := cum_le y (13 - m).toNat m (by omega) (by omega)
  rw [show m + ((13 - m).toNat : Int) = 13 by omega, cum_end] at b
  have := lp_01 y
  omega
structure IsDate (day y m d : Int) : Prop where
  y1 : 1 ≤ y
  y2 : y ≤ 9999
  m1 : 1 ≤ m
  m2 : m ≤ 12
  d1 : 1 ≤ d
  d2 : d ≤ mlen y m
  num : dby y + cum y m + d = day
theorem IsDate.inyear {day y m d : Int} (h : IsDate day y m d) : dby y < day ∧ day ≤ dby (y + 1) := by
  have a := cum_range y h.m1 (by have := h.m2; omega)
  have b := cum_succ y h.m1 h.m2
  have c := cum_le y (12 - m).toNat (m + 1) (by have := h.m1; omega) (by have := h.m2; omega)
  rw [show m + 1 + ((12 - m).toNat : Int) = 13 by have := h.m2; omega, cum_end] at c
  have e := dby_succ y
  have := h.d1; have := h.d2; have := h.num
  omega
theorem IsDate.one {day y m d y' m' d' : Int} (h : IsDate day y m d) (k : IsDate day y' m' d') : y = y' ∧ m = m' ∧ d = d' := by
  have hy := h.inyear
  have ky := k.inyear
  have e : y = y' := by
    rcases Int.lt_trichotomy y y' with c | c | c
    · have a := dby_le (y' - (y + 1)).toNat (y + 1)
      rw [show y + 1 + ((y' - (y + 1)).toNat : Int) = y' by omega] at a
      omega
    · exact c
    · have a := dby_le (y - (y' + 1)).toNat (y' + 1)
      rw [show y' + 1 + ((y - (y' + 1)).toNat : Int) = y by omega] at a
      omega
  subst e
  have hm := h.num; have km := k.num; have h1 := h.d1; have h2 := h.d2; have k1 := k.d1; have k2 := k.d2
  have hs := cum_succ y h.m1 h.m2
  have ks := cum_succ y k.m1 k.m2
  have e : m = m' := by
    rcases Int.lt_trichotomy m m' with c | c | c
    · have a := cum_le y (m' - (m + 1)).toNat (m + 1) (by have := h.m1; omega) (by have := k.m2; omega)
      rw [show m + 1 + ((m' - (m + 1)).toNat : Int) = m' by omega] at a
      omega
    · exact c
    · have a := cum_le y (m - (m' + 1)).toNat (m' + 1) (by have := k.m1; omega) (by have := h.m2; omega)
      rw [show m' + 1 + ((m - (m' + 1)).toNat : Int) = m by omega] at a
      omega
  subst e
  exact ⟨rfl, rfl, by omega⟩
theorem lp_last {q h f o : Int} (h03 : 0 ≤ h ∧ h ≤ 3) (f24 : 0 ≤ f ∧ f ≤ 24) (o3 : o = 3) (hh : f = 24 → h = 3) : lp (400 * q + 1 + (100 * h + 4 * f + o)) = 1 := by
  subst o3
  have e4 : (400 * q + 1 + (100 * h + 4 * f + 3)) % 4 = 0 := by omega
  unfold lp
  rw [if_pos]
  refine ⟨e4, ?_⟩
  by_cases f24' : f = 24
  · have h3 := hh f24'
    subst h3; subst f24'
    exact Or.inr (by omega)
  · have : (400 * q + 1 + (100 * h + 4 * f + 3)) % 100 = 4 * f + 4 := by omega
    exact Or.inl (by omega)
set_option maxHeartbeats 1000000 in
theorem year_of {day q r h r1 f r2 o l : Int} (hd : 1 ≤ day) (hd' : day ≤ 3652059) (hq : q = (day - 1) / 146097) (hr : r = (day - 1) % 146097)
    (hh : h = if r / 36524 < 3 then r / 36524 else 3) (hr1 : r1 = r - h * 36524) (hf : f = r1 / 1461) (hr2 : r2 = r1 % 1461) (ho : o = if r2 / 365 < 3 then r2 / 365 else 3) (hl : l = r2 - o * 365) :
    0 ≤ l ∧ l < 365 + lp (400 * q + 1 + (100 * h + 4 * f + o)) ∧ dby (400 * q + 1 + (100 * h + 4 * f + o)) + l + 1 = day ∧ 1 ≤ 400 * q + 1 + (100 * h + 4 * f + o) ∧ 400 * q + 1 + (100 * h + 4 * f + o) ≤ 9999 ∧ 0 ≤ h ∧ h ≤ 3 ∧ 0 ≤ f ∧ f ≤ 24 ∧ 0 ≤ o ∧ o ≤ 3 ∧ 0 ≤ q ∧ q ≤ 24 ∧ 0 ≤ r ∧ 0 ≤ r1 ∧ 0 ≤ r2 := by
  have q0 : 0 ≤ q := by omega
  have q24 : q ≤ 24 := by omega
  have r0 : 0 ≤ r := by omega
  have r9 : r ≤ 146096 := by omega
  have day_ : day - 1 = 146097 * q + r := by omega
  have h03 : 0 ≤ h ∧ h ≤ 3 := by rw [hh]; split <;> omega
  have r1r : 0 ≤ r1 ∧ r1 ≤ 36524 ∧ (h < 3 → r1 ≤ 36523) := by
    rw [hh] at hr1 ⊢
    split at hr1 <;> omega
  have f24 : 0 ≤ f ∧ f ≤ 24 := by omega
  have r2r : 0 ≤ r2 ∧ r2 ≤ 1460 := by omega
  have r1_ : r1 = 1461 * f + r2 := by omega
  have o03 : 0 ≤ o ∧ o ≤ 3 := by rw [ho]; split <;> omega
  have lr : 0 ≤ l ∧ l ≤ 365 ∧ (o < 3 → l ≤ 364) := by
    rw [ho] at hl ⊢
    split at hl <;> omega
  have r2_ : r2 = 365 * o + l := by omega
  have hlast : r = 36524 * h + r1 := by omega
  clear hh hq hr hf hr2 ho hl hr1
  have Y4 : (400 * q + 1 + (100 * h + 4 * f + o) - 1) / 4 = 100 * q + 25 * h + f := by omega
  have Y100 : (400 * q + 1 + (100 * h + 4 * f + o) - 1) / 100 = 4 * q + h := by omega
  have Y400 : (400 * q + 1 + (100 * h + 4 * f + o) - 1) / 400 = q := by omega
  have hdby : dby (400 * q + 1 + (100 * h + 4 * f + o)) = 146097 * q + 36524 * h + 1461 * f + 365 * o := by
    unfold dby; rw [Y4, Y100, Y400]; omega
  refine ⟨lr.1, ?_, by rw [hdby]; omega, by omega, ?_, h03.1, h03.2, f24.1, f24.2, o03.1, o03.2, q0, q24, r0, r1r.1, r2r.1⟩
  · have h01 := lp_01 (400 * q + 1 + (100 * h + 4 * f + o))
    generalize hz : lp (400 * q + 1 + (100 * h + 4 * f + o)) = z at h01
    clear Y4 Y100 Y400 hdby
    by_cases hl5 : l ≤ 364
    · clear r1_ r2_ hlast day_; omega
    · have o3 : o = 3 := by
        by_cases ho3 : o < 3
        · exact absurd (lr.2.2 ho3) hl5
        · clear r1_ r2_ hlast day_; omega
      have hh3 : f = 24 → h = 3 := fun e => by
        by_cases h3 : h < 3
        · have := r1r.2.2 h3
          clear day_ hlast
          omega
        · clear r1_ r2_ hlast day_; omega
      have hz1 := lp_last (q := q) h03 f24 o3 hh3
      rw [hz] at hz1
      clear r1_ r2_ hlast day_ hz; omega
  · clear Y4 Y100 Y400 hdby
    by_cases q24' : q = 24
    · subst q24'; omega
    · clear r1_ r2_ hlast day_; omega
end Go.Proofs.YtkjdmbbaacjpmaaDoor.Cal
end
section
namespace Go.Proofs
open Go.Shelf
def Tryd.lays187_ren : Go.Shelf.Ren := ⟨fun | 187 => 75 | 255 => 83 | n => n, fun | 37 => 26 | 5 => 5 | 3 => 3 | n => n, fun | n => n⟩
theorem Tryd.lays187 : Go.Proofs.Lays.n187 Tryd.prog Tryd.lays187_ren := {
  mixed := by kernel_rfl
  f187 := Tryd.func75.trans (congrArg some (by kernel_rfl))
  f255 := Tryd.func83.trans (congrArg some (by kernel_rfl))
  t3 := Tryd.underlying3
  a3 := Tryd.isAgg3
  z3 := Tryd.sizeOf3
  v3 := Tryd.zeroValue3
  t5 := Tryd.underlying5
  a5 := Tryd.isAgg5
  z5 := Tryd.sizeOf5
  v5 := Tryd.zeroValue5
  t37 := Tryd.underlying26
  a37 := Tryd.isAgg26
  z37 := Tryd.sizeOf26
  v37 := Tryd.zeroValue26 }
theorem Tryd.bytes_IndexByte (b o n c : Nat) (xs : List Int) (cv : Int) (w : World) (hx : xs.length = n) (hc : ∀ i, i < n → w.cell? ⟨b, o + i, none⟩ = some (.int .u8 (xs.getD i 0))) :
    Calls Tryd.prog 75 #[.slice (some ⟨b, o, none⟩) n c, .int .u8 cv] w fun e w' => e = .returned (.int .i64 (Lib.indexByte (Lib.bytesOf xs) cv.toNat.toUInt8)) ∧ w' = w := Any.bytes_IndexByte Tryd.lays187 b o n c xs cv w hx hc
theorem Tryd.bytes_IndexByte_nil (cv : Int) (w : World) :
    Calls Tryd.prog 75 #[.slice none 0 0, .int .u8 cv] w fun e w' => e = .returned (.int .i64 (-1)) ∧ w' = w := Any.bytes_IndexByte_nil Tryd.lays187 cv w
end Go.Proofs
end
section
namespace Go.Proofs.YtkjdmbbaacjpmaaDoor.Num
def dbl (d : Int) : Int := if 2 * d > 9 then 2 * d - 9 else 2 * d
def lsum : List Int → Bool → Int
  | [], _ => 0
  | d :: t, b => (if b then dbl d else d) + lsum t (!b)
def Dig (l : List Int) : Prop := ∀ d ∈ l, 0 ≤ d ∧ d ≤ 9
theorem dbl_eq {d : Int} (h : 0 ≤ d) (h' : d ≤ 9) : d * 2 % 10 + d / 5 = dbl d := by unfold dbl; split <;> omega
theorem dbl_range {d : Int} (h : 0 ≤ d) (h' : d ≤ 9) : 0 ≤ dbl d ∧ dbl d ≤ 9 := by unfold dbl; split <;> omega
theorem lsum_range : ∀ (l : List Int) (b : Bool), Dig l → 0 ≤ lsum l b ∧ lsum l b ≤ 9 * l.length
  | [], _, _ => by simp [lsum]
  | d :: t, b, h => by
    have h1 := lsum_range t (!b) (fun x hx => h x (by simp [hx]))
    have h2 := h d (by simp)
    have h3 := dbl_range h2.1 h2.2
    simp only [lsum, List.length_cons]
    split <;> omega
theorem lsum_append : ∀ (l : List Int) (d : Int) (b : Bool), lsum (l ++ [d]) b = lsum l b + (if (b == (l.length % 2 == 0)) then dbl d else d)
  | [], d, b => by simp [lsum]
  | x :: t, d, b => by
    simp only [List.cons_append, lsum, lsum_append t d (!b), List.length_cons]
    have : ((!b) == (t.length % 2 == 0)) = (b == ((t.length + 1) % 2 == 0)) := by
      have h : t.length % 2 = 0 ∨ t.length % 2 = 1 := by omega
      rcases h with h | h
      · have h' : (t.length + 1) % 2 = 1 := by omega
        rw [h, h']; cases b <;> rfl
      · have h' : (t.length + 1) % 2 = 0 := by omega
        rw [h, h']; cases b <;> rfl
    rw [this]; omega
def rdig : Nat → Nat → List Int
  | 0, _ => []
  | k + 1, n => ((n % 10 : Nat) : Int) :: rdig k (n / 10)
theorem rdig_length : ∀ (k n : Nat), (rdig k n).length = k
  | 0, _ => rfl
  | k + 1, n => by simp [rdig, rdig_length k]
theorem rdig_dig : ∀ (k n : Nat), Dig (rdig k n)
  | 0, _ => by intro d hd; simp [rdig] at hd
  | k + 1, n => by
    intro d hd
    simp only [rdig, List.mem_cons] at hd
    rcases hd with rfl | hd
    · omega
    · exact rdig_dig k _ d hd
def dec : Nat → Int → List Int
  | 0, _ => []
  | k + 1, x => dec k (x / 10) ++ [48 + x % 10]
theorem dec_length : ∀ (k : Nat) (x : Int), (dec k x).length = k
  | 0, _ => rfl
  | k + 1, x => by simp [dec, dec_length k]
def behind (l : List Int) : List Int := (l.map fun c => c - 48).reverse
theorem behind_length (l : List Int) : (behind l).length = l.length := by simp [behind]
theorem dec_behind : ∀ (k n : Nat), behind (dec k (n : Int)) = rdig k n
  | 0, _ => rfl
  | k + 1, n => by
    have := dec_behind k (n / 10)
    have e : ((n : Int) / 10) = ((n / 10 : Nat) : Int) := by omega
    have e2 : (48 + (n : Int) % 10 - 48) = ((n % 10 : Nat) : Int) := by omega
    simp only [behind, dec, List.map_append, List.map_cons, List.map_nil, List.reverse_append, List.reverse_cons, List.reverse_nil, List.nil_append, List.cons_append, rdig, e, e2] at this ⊢
    rw [this]
end Go.Proofs.YtkjdmbbaacjpmaaDoor.Num
end
section
namespace Go.Proofs.YtkjdmbbaacjpmaaDoor.D
open Go.RowKit Go.Proofs.YtkjdmbbaacjpmaaDoorW.PrintWords Go.Proofs.YtkjdmbbaacjpmaaDoorW.PrintLast Go.Proofs.YtkjdmbbaacjpmaaDoorW.PrintMore
attribute [local go_sem] max2_int min2_int max_two min_two max_three min_three max_four min_four
set_option linter.unusedVariables false
set_option linter.unusedSimpArgs false
def errW : Option Int → Value
  | none => .nilIface
  | some c => .iface 0 (.int .i64 c)
theorem errW_none : errW none = .nilIface := rfl
theorem errW_some (c : Int) : errW (some c) = .iface 0 (.int .i64 c) := rfl
theorem info5 : (Tryd.prog.info? 5).map (fun i => (i.zero, i.size, i.bytes)) = some (some (.int .u8 0), 1, 1) := by kernel_rfl
end Go.Proofs.YtkjdmbbaacjpmaaDoor.D
end
section
namespace Go.Proofs.YtkjdmbbaacjpmaaDoor.D
open Go.RowKit Go.Proofs.YtkjdmbbaacjpmaaDoorW.PrintWords Go.Proofs.YtkjdmbbaacjpmaaDoorW.PrintLast Go.Proofs.YtkjdmbbaacjpmaaDoorW.PrintMore
attribute [local go_sem] max2_int min2_int max_two min_two max_three min_three max_four min_four
set_option linter.unusedVariables false
set_option linter.unusedSimpArgs false
def arrearsref20_weighed.l0 : Nat → List Int → Bool → Int → Int → Option (Int)
  | 0, _, _, _, _ => none
  | k + 1, x0, x1, x5, x6 => if x6 < (x0.length : Int) then (if 0 ≤ x6 then (if (((Int.tmod (wrap64 ((wrap64 ((x0.length : Int) - 1)) - x6)) 2) == 0) == x1) = true then (if (2 * (((rd x0 x6) - 48) % 256)) > 9 then (arrearsref20_weighed.l0 k x0 x1 (wrap64 (x5 + ((2 * (((rd x0 x6) - 48) % 256)) - 9))) (wrap64 (x6 + 1))) else (arrearsref20_weighed.l0 k x0 x1 (wrap64 (x5 + (2 * (((rd x0 x6) - 48) % 256)))) (wrap64 (x6 + 1)))) else (arrearsref20_weighed.l0 k x0 x1 (wrap64 (x5 + (((rd x0 x6) - 48) % 256))) (wrap64 (x6 + 1)))) else (none)) else (some x5)
def arrearsref20_weighed.f (k : Nat) (l0 : List Int) (a1 : Bool) : Option (Int) := arrearsref20_weighed.l0 k l0 a1 0 0
theorem arrearsref20_weighed.mono_l : ∀ k, (∀ y0 y1 y2 y3, LeO (arrearsref20_weighed.l0 k y0 y1 y2 y3) (arrearsref20_weighed.l0 (k + 1) y0 y1 y2 y3))
  | 0 => fun _ _ _ _ r h => by simp [arrearsref20_weighed.l0] at h
  | k + 1 => by
    have ih0 := arrearsref20_weighed.mono_l k
    · intro y0 y1 y2 y3
      unfold arrearsref20_weighed.l0
      repeat' first
      | (with_reducible exact ih0 _ _ _ _)
      | (with_reducible exact LeO.refl _)
      | (with_reducible exact LeO.none _)
      | (with_reducible refine LeO.ite ?_ ?_)
      | (with_reducible refine LeO.bind ?_ (fun _ => ?_))
      | exact ih0 _ _ _ _
      | exact LeO.none _
      | refine LeO.ite ?_ ?_
      | refine LeO.bind ?_ (fun _ => ?_)
theorem arrearsref20_weighed.mono : ∀ a0 a1 k, LeO (arrearsref20_weighed.f k a0 a1) (arrearsref20_weighed.f (k + 1) a0 a1) := by
  intro a0 a1 k
  have ih0 := arrearsref20_weighed.mono_l k
  unfold arrearsref20_weighed.f
  repeat' first
      | (with_reducible exact ih0 _ _ _ _)
      | (with_reducible exact LeO.refl _)
      | (with_reducible exact LeO.none _)
      | (with_reducible refine LeO.ite ?_ ?_)
      | (with_reducible refine LeO.bind ?_ (fun _ => ?_))
      | exact ih0 _ _ _ _
      | exact LeO.none _
      | refine LeO.ite ?_ ?_
      | refine LeO.bind ?_ (fun _ => ?_)
set_option maxHeartbeats 8000000 in
set_option maxRecDepth 100000 in
theorem arrearsref20_weighed.calls (k : Nat) (A0 : Option Addr) (c0 : Nat) (l0 : List Int) (a1 : Bool) (r : Int) (w : World) (hr0 : Kd.C (Kd.int .u8) w A0 l0.length l0) (hc0 : l0.length ≤ c0) (h : arrearsref20_weighed.f k l0 a1 = some r) :
    Calls Tryd.prog 29 #[.slice A0 l0.length c0, .bool a1] w fun e w' => e = .returned (.int .i64 r) ∧ Drawn0 w w' := by
  have HR0 := Aside0.mk hr0
  have HC0 := Aside0.mk hc0
  clear hr0 hc0
  have H : (arrearsref20_weighed.l0 k l0 a1 0 0) = some r := h
  clear h
  have H' := Aside0.mk H
  clear H
  go_enter Tryd.func29, Tryd.ntmps29
  go_wp2
  go_loopg [5, 6] k (fun kq v5 v6 w' => ∃ (x5_1 : Int) (x6_1 : Int), v5 = .int .i64 x5_1 ∧ v6 = .int .i64 x6_1 ∧ Aside0 (arrearsref20_weighed.l0 kq l0 a1 x5_1 x6_1 = some r) ∧ Aside0 (kq ≤ k) ∧ Drawn0 w w')
  case atStart => exact ⟨(0), (0), (by first | rfl | (simp; done) | (simp [*]; done)), (by first | rfl | (simp; done) | (simp [*]; done)), H', ⟨Nat.le_refl _⟩, by repeat (first | exact Drawn0.refl _ | apply Drawn0.step)⟩
  case round =>
    clear H'
    try clear c2
    try clear p2
    obtain ⟨x5_1, x6_1, rfl, rfl, HA, HK1, ⟨m1, rfl⟩⟩ := hrel
    cases gk with
    | zero => exact absurd HA.out (by simp [arrearsref20_weighed.l0])
    | succ k1 =>
      have H := HA.out
      clear HA
      simp only [arrearsref20_weighed.l0] at H
      by_cases c3 : x6_1 < (l0.length : Int)
      · rw [if_pos c3] at H
        have c3b0 : decide (x6_1 < (l0.length : Int)) = true := decide_eq_true c3
        clear c3
        by_cases c4 : 0 ≤ x6_1
        · rw [if_pos c4] at H
          have c4b0 : decide (0 ≤ x6_1) = true := decide_eq_true c4
          clear c4
          by_cases c5 : (((Int.tmod (wrap64 ((wrap64 ((l0.length : Int) - 1)) - x6_1)) 2) == 0) == a1) = true
          · rw [if_pos c5] at H
            have c5b0 : (((Int.tmod (wrap64 ((wrap64 ((l0.length : Int) - 1)) - x6_1)) 2) == 0) == a1) = true := c5
            (try (have c5b1 : decide (((Int.tmod (wrap64 ((wrap64 ((l0.length : Int) - 1)) - x6_1)) 2) == 0) = a1) = true := by simpa using c5))
            (try (have c5b2 : (((Int.tmod (wrap64 ((wrap64 ((l0.length : Int) - 1)) - x6_1)) 2) == 0) == a1) = true := by simpa using c5))
            clear c5
            by_cases c6 : (2 * (((rd l0 x6_1) - 48) % 256)) > 9
            · rw [if_pos c6] at H
              have c6b0 : decide (9 < (2 * (((rd l0 x6_1) - 48) % 256))) = true := decide_eq_true c6
              clear c6
              have H' := Aside0.mk H
              clear H
              have p101 : 0 ≤ (x6_1 : Int) := of_decide_eq_true (by first | (with_reducible assumption) | assumption)
              have q101 : x6_1 < (l0.length : Int) := of_decide_eq_true (by first | (with_reducible assumption) | assumption)
              obtain ⟨ad101, e101, hx101_0⟩ := Kd.at_int HR0.out x6_1 p101 q101
              cases e101
              replace p101 := eq_true p101
              replace q101 := eq_true q101
              go_wp2
              go_roundg k1
              case measure => have := HK1.out; omega
              case rel => exact ⟨(wrap64 (x5_1 + ((2 * (((rd l0 x6_1) - 48) % 256)) - 9))), (wrap64 (x6_1 + 1)), (by first | rfl | (simp; done) | (simp [*]; done)), (by first | rfl | (simp; done) | (simp [*]; done)), H', ⟨by have := HK1.out; omega⟩, by repeat (first | exact Drawn0.refl _ | apply Drawn0.step)⟩
            · rw [if_neg c6] at H
              have c6b0 : decide (9 < (2 * (((rd l0 x6_1) - 48) % 256))) = false := decide_eq_false c6
              clear c6
              have H' := Aside0.mk H
              clear H
              have p101 : 0 ≤ (x6_1 : Int) := of_decide_eq_true (by first | (with_reducible assumption) | assumption)
              have q101 : x6_1 < (l0.length : Int) := of_decide_eq_true (by first | (with_reducible assumption) | assumption)
              obtain ⟨ad101, e101, hx101_0⟩ := Kd.at_int HR0.out x6_1 p101 q101
              cases e101
              replace p101 := eq_true p101
              replace q101 := eq_true q101
              go_wp2
              go_roundg k1
              case measure => have := HK1.out; omega
              case rel => exact ⟨(wrap64 (x5_1 + (2 * (((rd l0 x6_1) - 48) % 256)))), (wrap64 (x6_1 + 1)), (by first | rfl | (simp; done) | (simp [*]; done)), (by first | rfl | (simp; done) | (simp [*]; done)), H', ⟨by have := HK1.out; omega⟩, by repeat (first | exact Drawn0.refl _ | apply Drawn0.step)⟩
          · rw [if_neg c5] at H
            have c5b0 : (((Int.tmod (wrap64 ((wrap64 ((l0.length : Int) - 1)) - x6_1)) 2) == 0) == a1) = false := by simpa using c5
            (try (have c5b1 : decide (((Int.tmod (wrap64 ((wrap64 ((l0.length : Int) - 1)) - x6_1)) 2) == 0) = a1) = false := by simpa using c5))
            (try (have c5b2 : (((Int.tmod (wrap64 ((wrap64 ((l0.length : Int) - 1)) - x6_1)) 2) == 0) == a1) = false := by simpa using c5))
            (try (have c5b3 : ¬ (((Int.tmod (wrap64 ((wrap64 ((l0.length : Int) - 1)) - x6_1)) 2) == 0) = a1) := by simpa using c5))
            clear c5
            have H' := Aside0.mk H
            clear H
            have p101 : 0 ≤ (x6_1 : Int) := of_decide_eq_true (by first | (with_reducible assumption) | assumption)
            have q101 : x6_1 < (l0.length : Int) := of_decide_eq_true (by first | (with_reducible assumption) | assumption)
            obtain ⟨ad101, e101, hx101_0⟩ := Kd.at_int HR0.out x6_1 p101 q101
            cases e101
            replace p101 := eq_true p101
            replace q101 := eq_true q101
            go_wp2
            go_roundg k1
            case measure => have := HK1.out; omega
            case rel => exact ⟨(wrap64 (x5_1 + (((rd l0 x6_1) - 48) % 256))), (wrap64 (x6_1 + 1)), (by first | rfl | (simp; done) | (simp [*]; done)), (by first | rfl | (simp; done) | (simp [*]; done)), H', ⟨by have := HK1.out; omega⟩, by repeat (first | exact Drawn0.refl _ | apply Drawn0.step)⟩
        · rw [if_neg c4] at H
          exact absurd H (by simp)
      · rw [if_neg c3] at H
        have c3b0 : decide (x6_1 < (l0.length : Int)) = false := decide_eq_false c3
        clear c3
        obtain rfl := Option.some.inj H
        go_wp2
        go_ret
        exact ⟨by first | rfl | (simp; done) | (simp [*]; done), by repeat (first | exact Drawn0.refl _ | apply Drawn0.step)⟩
end Go.Proofs.YtkjdmbbaacjpmaaDoor.D
end
section
namespace Go.Proofs.YtkjdmbbaacjpmaaDoor.D
open Go.RowKit Go.Proofs.YtkjdmbbaacjpmaaDoorW.PrintWords Go.Proofs.YtkjdmbbaacjpmaaDoorW.PrintLast Go.Proofs.YtkjdmbbaacjpmaaDoorW.PrintMore
attribute [local go_sem] max2_int min2_int max_two min_two max_three min_three max_four min_four
set_option linter.unusedVariables false
set_option linter.unusedSimpArgs false
mutual
def arrearsref20_decimal.l0 : Nat → Int → Int → List Int → Int → Option (List Int)
  | 0, _, _, _, _ => none
  | k + 1, x0, x1, x5, x6 => if x6 < x1 then (if x5.length < 140737488355328 then (arrearsref20_decimal.l0 k x0 x1 (x5 ++ [48]) (wrap64 (x6 + 1))) else (none)) else (arrearsref20_decimal.l1 k x0 x5 (wrap64 (x1 - 1)))
def arrearsref20_decimal.l1 : Nat → Int → List Int → Int → Option (List Int)
  | 0, _, _, _ => none
  | k + 1, x0, x5, x7 => if x7 ≥ 0 then (if 0 ≤ x7 then (if x7 < (x5.length : Int) then (arrearsref20_decimal.l1 k (wrap64 (Int.tdiv x0 10)) (x5.set (x7 : Int).toNat ((wrap64 (48 + (Int.tmod x0 10))) % 256)) (wrap64 (x7 - 1))) else (none)) else (none)) else (some x5)
end
def arrearsref20_decimal.f (k : Nat) (a0 : Int) (a1 : Int) : Option (List Int) := arrearsref20_decimal.l0 k a0 a1 ([] : List Int) 0
theorem arrearsref20_decimal.mono_l : ∀ k, (∀ y0 y1 y2 y3, LeO (arrearsref20_decimal.l0 k y0 y1 y2 y3) (arrearsref20_decimal.l0 (k + 1) y0 y1 y2 y3)) ∧ (∀ y0 y1 y2, LeO (arrearsref20_decimal.l1 k y0 y1 y2) (arrearsref20_decimal.l1 (k + 1) y0 y1 y2))
  | 0 => ⟨fun _ _ _ _ r h => by simp [arrearsref20_decimal.l0] at h, fun _ _ _ r h => by simp [arrearsref20_decimal.l1] at h⟩
  | k + 1 => by
    obtain ⟨ih0, ih1⟩ := arrearsref20_decimal.mono_l k
    refine ⟨?_, ?_⟩
    · intro y0 y1 y2 y3
      unfold arrearsref20_decimal.l0
      repeat' first
      | (with_reducible exact ih0 _ _ _ _)
      | (with_reducible exact ih1 _ _ _)
      | (with_reducible exact LeO.refl _)
      | (with_reducible exact LeO.none _)
      | (with_reducible refine LeO.ite ?_ ?_)
      | (with_reducible refine LeO.bind ?_ (fun _ => ?_))
      | exact ih0 _ _ _ _
      | exact ih1 _ _ _
      | exact LeO.none _
      | refine LeO.ite ?_ ?_
      | refine LeO.bind ?_ (fun _ => ?_)
    · intro y0 y1 y2
      unfold arrearsref20_decimal.l1
      repeat' first
      | (with_reducible exact ih0 _ _ _ _)
      | (with_reducible exact ih1 _ _ _)
      | (with_reducible exact LeO.refl _)
      | (with_reducible exact LeO.none _)
      | (with_reducible refine LeO.ite ?_ ?_)
      | (with_reducible refine LeO.bind ?_ (fun _ => ?_))
      | exact ih0 _ _ _ _
      | exact ih1 _ _ _
      | exact LeO.none _
      | refine LeO.ite ?_ ?_
      | refine LeO.bind ?_ (fun _ => ?_)
theorem arrearsref20_decimal.mono : ∀ a0 a1 k, LeO (arrearsref20_decimal.f k a0 a1) (arrearsref20_decimal.f (k + 1) a0 a1) := by
  intro a0 a1 k
  obtain ⟨ih0, ih1⟩ := arrearsref20_decimal.mono_l k
  unfold arrearsref20_decimal.f
  repeat' first
      | (with_reducible exact ih0 _ _ _ _)
      | (with_reducible exact ih1 _ _ _)
      | (with_reducible exact LeO.refl _)
      | (with_reducible exact LeO.none _)
      | (with_reducible refine LeO.ite ?_ ?_)
      | (with_reducible refine LeO.bind ?_ (fun _ => ?_))
      | exact ih0 _ _ _ _
      | exact ih1 _ _ _
      | exact LeO.none _
      | refine LeO.ite ?_ ?_
      | refine LeO.bind ?_ (fun _ => ?_)
set_option maxHeartbeats 8000000 in
set_option maxRecDepth 100000 in
theorem arrearsref20_decimal.calls (k : Nat) (a0 : Int) (a1 : Int) (r : List Int) (w : World) (h : arrearsref20_decimal.f k a0 a1 = some r) :
    Calls Tryd.prog 30 #[.int .i64 a0, .int .i64 a1] w fun e w' => ∃ v0_ : Value, e = .returned (v0_) ∧ Kd.R (Kd.int .u8) 5 w' w.heap.size (fun _ => True) v0_ r ∧ Below w.heap.size w w' := by
  have HB := Aside0.mk (Below.refl w.heap.size w)
  have H : (arrearsref20_decimal.l0 k a0 a1 ([] : List Int) 0) = some r := h
  clear h
  have H' := Aside0.mk H
  clear H
  go_enter Tryd.func30, Tryd.ntmps30
  go_wp2
  go_loopg [5, 6] k (fun kq v5 v6 w' => ∃ (x5_1 : List Int) (x6_1 : Int), v6 = .int .i64 x6_1 ∧ Aside0 (arrearsref20_decimal.l0 kq a0 a1 x5_1 x6_1 = some r) ∧ Aside0 (kq ≤ k) ∧ Aside0 (Kd.R (Kd.int .u8) 5 w' w.heap.size (fun _ => True) v5 x5_1) ∧ Aside0 (Below w.heap.size w w'))
  case atStart => exact ⟨(([] : List Int)), (0), (by first | rfl | (simp; done) | (simp [*]; done)), H', ⟨Nat.le_refl _⟩, ⟨by first | exact Kd.R_nil _ _ _ _ _ | exact Kd.N_nil _ _ _ _ _ | exact Kd.V_nil _ _ _ _ _ | exact Kd.Q_nil _ _ _ _ _ | exact Kd.S_nil _ _ _ _ _⟩, ⟨by repeat (first | (with_reducible first | exact HB.out | apply below_alloc | apply pw_below_drewN | apply below_drew1) | exact HB.out)⟩⟩
  case round =>
    clear H'
    try clear p2
    obtain ⟨x5_1, x6_1, rfl, HA, HK1, HO_5, HB⟩ := hrel
    cases gk with
    | zero => exact absurd HA.out (by simp [arrearsref20_decimal.l0])
    | succ k1 =>
      have H := HA.out
      clear HA
      simp only [arrearsref20_decimal.l0] at H
      by_cases c3 : x6_1 < a1
      · rw [if_pos c3] at H
        have c3b0 : decide (x6_1 < a1) = true := decide_eq_true c3
        clear c3
        by_cases c4 : x5_1.length < 140737488355328
        · rw [if_pos c4] at H
          have LMc4 := Aside0.mk c4
          clear c4
          obtain ⟨y102, hy102⟩ : ∃ y_ : List Int, y_ = (x5_1 ++ [48]) := ⟨_, rfl⟩
          replace H : (arrearsref20_decimal.l0 k1 a0 a1 y102 (wrap64 (x6_1 + 1))) = some r := by first | (rw [hy102]; with_reducible exact H) | (have H2_ := (Option.bind_some _ _).symm.trans H; rw [hy102]; with_reducible exact H2_) | (have H2_ := (Option.bind_some _ _).symm.trans H; with_reducible exact H2_) | with_reducible exact H | (rw [hy102]; exact H) | exact H
          have Ny102 := Aside0.mk hy102
          clear hy102
          have H' := Aside0.mk H
          clear H
          go_wp2_with (first | ((with_reducible refine gate_builtin (b := .append) (xs := #[.tmp 13, .tmp 14]) rfl ?_); at_builtin; refine Kd.R_append (Kd.int .u8) (w0 := w) w.heap.size rfl (.tmp 13) (.tmp 14) 26 5 (.int .u8 0) 1 rfl Tryd.underlying26 info5 rfl (by decide) (by omega) u5 x5_1 48 [.int .u8 48] (fun _ => True) (fun _ => False) rfl rfl ?aP (fun _ hk => hk.elim) ?aF ?aO ?aB ?aS ?aL ?_; (case aP => exact rfl); (case aB => exact (by repeat (first | (with_reducible first | exact HB.out | apply below_alloc | apply pw_below_drewN | apply below_drew1) | exact HB.out))); (case aF => exact (fun _ _ => trivial)); (case aO => exact (by (with_reducible repeat (first | apply Kd.R_alloc | apply Kd.R_drewN | apply Kd.R_drew)); exact HO_5.out)); (case aS => exact (below_size (by repeat (first | (with_reducible first | exact HB.out | apply below_alloc | apply pw_below_drewN | apply below_drew1) | exact HB.out)))); (case aL => have := LMc4.out; omega); intro v103 w5 ho hb hg hat; rw [← Ny102.out] at ho; have n0_ := Aside0.mk (hb); have n1_ := Aside0.mk (ho); clear HB; clear HO_5; have HB := n0_; have HO104 := n1_; clear n0_ n1_; clear ho hb hg hat))
          go_roundg k1
          case measure => have := HK1.out; omega
          case rel => exact ⟨(y102), (wrap64 (x6_1 + 1)), (by first | rfl | (simp; done) | (simp [*]; done)), H', ⟨by have := HK1.out; omega⟩, ⟨by (with_reducible repeat (first | apply Kd.R_alloc | apply Kd.R_drewN | apply Kd.R_drew)); exact HO104.out⟩, ⟨by repeat (first | (with_reducible first | exact HB.out | apply below_alloc | apply pw_below_drewN | apply below_drew1) | exact HB.out)⟩⟩
        · rw [if_neg c4] at H
          exact absurd H (by simp)
      · rw [if_neg c3] at H
        have c3b0 : decide (x6_1 < a1) = false := decide_eq_false c3
        clear c3
        have H' := Aside0.mk H
        clear H
        go_wp2
        go_loopg [0, 7] k1 (fun kq v0 v7 w' => ∃ (x0_2 : Int) (x5_2 : List Int) (x7_2 : Int), v0 = .int .i64 x0_2 ∧ v7 = .int .i64 x7_2 ∧ Aside0 (arrearsref20_decimal.l1 kq x0_2 x5_2 x7_2 = some r) ∧ Aside0 (kq ≤ k1) ∧ Aside0 (Kd.R (Kd.int .u8) 5 w' w.heap.size (fun _ => True) u5 x5_2) ∧ Aside0 (Below w.heap.size w w'))
        case atStart => exact ⟨(a0), (x5_1), (wrap64 (a1 - 1)), (by first | rfl | (simp; done) | (simp [*]; done)), (by first | rfl | (simp; done) | (simp [*]; done)), H', ⟨Nat.le_refl _⟩, ⟨by (with_reducible repeat (first | apply Kd.R_alloc | apply Kd.R_drewN | apply Kd.R_drew)); exact HO_5.out⟩, ⟨by repeat (first | (with_reducible first | exact HB.out | apply below_alloc | apply pw_below_drewN | apply below_drew1) | exact HB.out)⟩⟩
        case round =>
          clear H'
          try clear p2
          try clear c3
          try clear c3b0
          try clear c4
          try clear p2
          obtain ⟨x0_2, x5_2, x7_2, rfl, rfl, HA, HK2, HO_5, HB⟩ := hrel
          cases gk with
          | zero => exact absurd HA.out (by simp [arrearsref20_decimal.l1])
          | succ k2 =>
            have H := HA.out
            clear HA
            simp only [arrearsref20_decimal.l1] at H
            by_cases c6 : x7_2 ≥ 0
            · rw [if_pos c6] at H
              have c6b0 : decide (0 ≤ x7_2) = true := decide_eq_true c6
              clear c6
              by_cases c7 : 0 ≤ x7_2
              · rw [if_pos c7] at H
                have c7b0 : decide (0 ≤ x7_2) = true := decide_eq_true c7
                clear c7
                by_cases c8 : x7_2 < (x5_2.length : Int)
                · rw [if_pos c8] at H
                  have c8b0 : decide (x7_2 < (x5_2.length : Int)) = true := decide_eq_true c8
                  clear c8
                  obtain ⟨y105, hy105⟩ : ∃ y_ : List Int, y_ = (x5_2.set (x7_2 : Int).toNat ((wrap64 (48 + (Int.tmod x0_2 10))) % 256)) := ⟨_, rfl⟩
                  replace H : (arrearsref20_decimal.l1 k2 (wrap64 (Int.tdiv x0_2 10)) y105 (wrap64 (x7_2 - 1))) = some r := by first | (rw [hy105]; with_reducible exact H) | (have H2_ := (Option.bind_some _ _).symm.trans H; rw [hy105]; with_reducible exact H2_) | (have H2_ := (Option.bind_some _ _).symm.trans H; with_reducible exact H2_) | with_reducible exact H | (rw [hy105]; exact H) | exact H
                  have Ny105 := Aside0.mk hy105
                  clear hy105
                  have H' := Aside0.mk H
                  clear H
                  have p9 : 0 ≤ (x7_2 : Int) := of_decide_eq_true (by first | (with_reducible assumption) | assumption)
                  have q9 : (x7_2 : Int) < ((x5_2.length : Int) : Int) := of_decide_eq_true (by first | (with_reducible assumption) | assumption)
                  obtain ⟨go9, co9, eo9, gb9, gl9, cl9, HG9⟩ := Kd.R_form HO_5.out (by omega)
                  (first | cases eo9 | (injection eo9 with ea_ en_ ec_; (first | subst ea_ | (injection ea_ with ea_; subst ea_)); subst ec_; clear en_))
                  have GB9 := Aside0.mk gb9
                  have GG9 := Aside0.mk HG9
                  clear gb9 gl9 HG9
                  obtain ⟨hx9_0, hf9_0⟩ := Kd.R_celln 0 HO_5.out (x7_2 : Int) p9 q9
                  replace p9 := eq_true p9
                  replace q9 := eq_true q9
                  have HP10 := Kd.R_putg HO_5.out (x7_2 : Int) ((wrap64 (48 + (Int.tmod x0_2 10))) % 256)
                  go_wp2_with (first | ((with_reducible refine gate_store (t := 5) (p := 28) rfl ?_); refine store_event (t := 5) (p := 28) (v := ?vo_w11) (w1 := (wr.setCell ⟨go9, (x7_2 : Int).toNat, none⟩ (.int .u8 ((wrap64 (48 + (Int.tmod x0_2 10))) % 256)))) ?hg ?ho ?hn ?hr ?_; (case ho => rfl); (case hg => rfl); (case hn => rfl); (case hr => first | (go_simp; done) | (go_simp; rfl)); intro w11 hw; have hg : wr.grownBy w11 (some go9) := (by rw [hw]; exact HP10.2); have hp_ : Kd.R (Kd.int .u8) 5 w11 w.heap.size (fun _ => True) (.slice (some ⟨go9, 0, none⟩) x5_2.length co9) y105 := (by rw [hw, Ny105.out]; exact HP10.1); clear HP10; have n0_ := Aside0.mk (hp_); have n1_ := Aside0.mk ((by rw [hw]; exact below_set (HB.out) GB9.out : Below w.heap.size w w11)); clear HO_5; clear HB; have HO_5 := n0_; have HB := n1_; clear n0_ n1_; clear hg hw hp_))
                  go_roundg k2
                  case measure => have := HK1.out; have := HK2.out; omega
                  case rel => exact ⟨(wrap64 (Int.tdiv x0_2 10)), (y105), (wrap64 (x7_2 - 1)), (by first | rfl | (simp; done) | (simp [*]; done)), (by first | rfl | (simp; done) | (simp [*]; done)), H', ⟨by have := HK1.out; have := HK2.out; omega⟩, ⟨by (with_reducible repeat (first | apply Kd.R_alloc | apply Kd.R_drewN | apply Kd.R_drew)); exact HO_5.out⟩, ⟨by repeat (first | (with_reducible first | exact HB.out | apply below_alloc | apply pw_below_drewN | apply below_drew1) | exact HB.out)⟩⟩
                · rw [if_neg c8] at H
                  exact absurd H (by simp)
              · rw [if_neg c7] at H
                exact absurd H (by simp)
            · rw [if_neg c6] at H
              have c6b0 : decide (0 ≤ x7_2) = false := decide_eq_false c6
              clear c6
              obtain rfl := Option.some.inj H
              go_wp2
              go_ret
              exact ⟨_, by first | rfl | (simp [errW_none, errW_some] <;> rfl) | (simp [*, errW_none, errW_some] <;> rfl), by (with_reducible repeat (first | apply Kd.R_alloc | apply Kd.R_drewN | apply Kd.R_drew)); exact HO_5.out, by repeat (first | (with_reducible first | exact HB.out | apply below_alloc | apply pw_below_drewN | apply below_drew1) | exact HB.out)⟩
end Go.Proofs.YtkjdmbbaacjpmaaDoor.D
end
section
namespace Go.Proofs.YtkjdmbbaacjpmaaDoor.D
open Go.RowKit Go.Proofs.YtkjdmbbaacjpmaaDoorW.PrintWords Go.Proofs.YtkjdmbbaacjpmaaDoorW.PrintLast Go.Proofs.YtkjdmbbaacjpmaaDoorW.PrintMore
attribute [local go_sem] max2_int min2_int max_two min_two max_three min_three max_four min_four
set_option linter.unusedVariables false
set_option linter.unusedSimpArgs false
mutual
def arrearsref20_CheckDigit.j0 : Nat → Int → Bool → Option (Int × Bool)
  | 0, _, _ => none
  | k + 1, x0, x10 => if x10 = true then (some (0, false)) else (arrearsref20_CheckDigit.l0 k x0 0)
def arrearsref20_CheckDigit.l0 : Nat → Int → Int → Option (Int × Bool)
  | 0, _, _ => none
  | k + 1, x0, x4 => if x4 < 10 then ((arrearsref20_decimal.f k x0 6).bind fun t106 => ((arrearsref20_weighed.f k t106 true).bind fun t109 => (if (Int.tmod (wrap64 (t109 + x4)) 10) = 0 then (some (x4, true)) else (arrearsref20_CheckDigit.l0 k x0 (wrap64 (x4 + 1)))))) else (some (0, false))
end
def arrearsref20_CheckDigit.f (k : Nat) (a0 : Int) : Option (Int × Bool) := if a0 < 0 then (arrearsref20_CheckDigit.j0 k a0 true) else (arrearsref20_CheckDigit.j0 k a0 (decide (a0 > 999999)))
theorem arrearsref20_CheckDigit.mono_l : ∀ k, (∀ y0 y1, LeO (arrearsref20_CheckDigit.j0 k y0 y1) (arrearsref20_CheckDigit.j0 (k + 1) y0 y1)) ∧ (∀ y0 y1, LeO (arrearsref20_CheckDigit.l0 k y0 y1) (arrearsref20_CheckDigit.l0 (k + 1) y0 y1))
  | 0 => ⟨fun _ _ r h => by simp [arrearsref20_CheckDigit.j0] at h, fun _ _ r h => by simp [arrearsref20_CheckDigit.l0] at h⟩
  | k + 1 => by
    obtain ⟨ih0, ih1⟩ := arrearsref20_CheckDigit.mono_l k
    refine ⟨?_, ?_⟩
    · intro y0 y1
      unfold arrearsref20_CheckDigit.j0
      repeat' first
      | (with_reducible exact ih0 _ _)
      | (with_reducible exact ih1 _ _)
      | (with_reducible exact arrearsref20_decimal.mono _ _ _)
      | (with_reducible exact arrearsref20_weighed.mono _ _ _)
      | (with_reducible exact LeO.refl _)
      | (with_reducible exact LeO.none _)
      | (with_reducible refine LeO.ite ?_ ?_)
      | (with_reducible refine LeO.bind ?_ (fun _ => ?_))
      | exact ih0 _ _
      | exact ih1 _ _
      | exact arrearsref20_decimal.mono _ _ _
      | exact arrearsref20_weighed.mono _ _ _
      | exact LeO.none _
      | refine LeO.ite ?_ ?_
      | refine LeO.bind ?_ (fun _ => ?_)
    · intro y0 y1
      unfold arrearsref20_CheckDigit.l0
      repeat' first
      | (with_reducible exact ih0 _ _)
      | (with_reducible exact ih1 _ _)
      | (with_reducible exact arrearsref20_decimal.mono _ _ _)
      | (with_reducible exact arrearsref20_weighed.mono _ _ _)
      | (with_reducible exact LeO.refl _)
      | (with_reducible exact LeO.none _)
      | (with_reducible refine LeO.ite ?_ ?_)
      | (with_reducible refine LeO.bind ?_ (fun _ => ?_))
      | exact ih0 _ _
      | exact ih1 _ _
      | exact arrearsref20_decimal.mono _ _ _
      | exact arrearsref20_weighed.mono _ _ _
      | exact LeO.none _
      | refine LeO.ite ?_ ?_
      | refine LeO.bind ?_ (fun _ => ?_)
theorem arrearsref20_CheckDigit.mono : ∀ a0 k, LeO (arrearsref20_CheckDigit.f k a0) (arrearsref20_CheckDigit.f (k + 1) a0) := by
  intro a0 k
  obtain ⟨ih0, ih1⟩ := arrearsref20_CheckDigit.mono_l k
  unfold arrearsref20_CheckDigit.f
  repeat' first
      | (with_reducible exact ih0 _ _)
      | (with_reducible exact ih1 _ _)
      | (with_reducible exact arrearsref20_decimal.mono _ _ _)
      | (with_reducible exact arrearsref20_weighed.mono _ _ _)
      | (with_reducible exact LeO.refl _)
      | (with_reducible exact LeO.none _)
      | (with_reducible refine LeO.ite ?_ ?_)
      | (with_reducible refine LeO.bind ?_ (fun _ => ?_))
      | exact ih0 _ _
      | exact ih1 _ _
      | exact arrearsref20_decimal.mono _ _ _
      | exact arrearsref20_weighed.mono _ _ _
      | exact LeO.none _
      | refine LeO.ite ?_ ?_
      | refine LeO.bind ?_ (fun _ => ?_)
set_option maxHeartbeats 8000000 in
set_option maxRecDepth 100000 in
theorem arrearsref20_CheckDigit.calls (k : Nat) (a0 : Int) (r1 : Int) (r2 : Bool) (w : World) (h : arrearsref20_CheckDigit.f k a0 = some (r1, r2)) :
    Calls Tryd.prog 10 #[.int .i64 a0] w fun e w' => e = .returned (.tuple #[.int .i64 r1, .bool r2]) ∧ Below w.heap.size w w' := by
  have HB := Aside0.mk (Below.refl w.heap.size w)
  have H : (if a0 < 0 then (arrearsref20_CheckDigit.j0 k a0 true) else (arrearsref20_CheckDigit.j0 k a0 (decide (a0 > 999999)))) = some (r1, r2) := h
  clear h
  have HC2 := Aside0.mk H
  clear H
  go_enter Tryd.func10, Tryd.ntmps10
  go_upto_region 1 with (fail)
  go_cut [10] (fun v10 wc => ∃ (kq : Nat) (x10_1 : Bool), v10 = .bool x10_1 ∧ Aside0 (arrearsref20_CheckDigit.j0 kq a0 x10_1 = some (r1, r2)) ∧ Aside0 (kq ≤ k) ∧ Aside0 (Below w.heap.size w wc))
  case first =>
    have H := HC2.out
    clear HC2
    by_cases c3 : a0 < 0
    · rw [if_pos c3] at H
      have c3b0 : decide (a0 < 0) = true := decide_eq_true c3
      clear c3
      (first | rw [c3b0] | (simp only [i64_w, i32_w]; rw [c3b0]) | skip)
      have H' := Aside0.mk H
      clear H
      go_wp2
      go_meet
      case rel => exact ⟨_, (true), (by first | rfl | (simp; done) | (simp [*]; done)), H', ⟨by first | omega | exact Nat.le_refl _⟩, ⟨by repeat (first | (with_reducible first | exact HB.out | apply below_alloc | apply pw_below_drewN | apply below_drew1) | exact HB.out)⟩⟩
    · rw [if_neg c3] at H
      have c3b0 : decide (a0 < 0) = false := decide_eq_false c3
      clear c3
      (first | rw [c3b0] | (simp only [i64_w, i32_w]; rw [c3b0]) | skip)
      have H' := Aside0.mk H
      clear H
      go_wp2
      go_meet
      case rel => exact ⟨_, (decide (a0 > 999999)), (by first | rfl | (simp; done) | (simp [*]; done)), H', ⟨by first | omega | exact Nat.le_refl _⟩, ⟨by repeat (first | (with_reducible first | exact HB.out | apply below_alloc | apply pw_below_drewN | apply below_drew1) | exact HB.out)⟩⟩
  case rest =>
    clear HC2
    try clear c1
    try clear p2
    try clear c3
    try clear c3b0
    obtain ⟨kq, x10_1, rfl, HA, HJ1, HB⟩ := hcut
    cases kq with
    | zero => exact absurd HA.out (by simp [arrearsref20_CheckDigit.j0])
    | succ kj1 =>
      have H := HA.out
      clear HA
      simp only [arrearsref20_CheckDigit.j0] at H
      by_cases c4 : x10_1 = true
      · subst c4
        have H1 : (some (0, false)) = some (r1, r2) := by rw [if_pos rfl] at H; exact H
        clear H
        have H := H1
        clear H1
        simp only [Option.some.injEq, Prod.mk.injEq] at H
        obtain ⟨rfl, rfl⟩ := H
        go_wp2
        go_ret2
        exact ⟨by first | rfl | (simp [errW_none, errW_some] <;> rfl) | (simp [*, errW_none, errW_some] <;> rfl), by repeat (first | (with_reducible first | exact HB.out | apply below_alloc | apply pw_below_drewN | apply below_drew1) | exact HB.out)⟩
      · replace c4 := Bool.eq_false_iff.mpr c4
        subst c4
        have H1 : (arrearsref20_CheckDigit.l0 kj1 a0 0) = some (r1, r2) := by rw [if_neg (show ¬ (false = true) by decide)] at H; exact H
        clear H
        have H := H1
        clear H1
        have H' := Aside0.mk H
        clear H
        go_wp2
        go_loopg [4] kj1 (fun kq v4 w' => ∃ (x4_2 : Int), v4 = .int .i64 x4_2 ∧ Aside0 (arrearsref20_CheckDigit.l0 kq a0 x4_2 = some (r1, r2)) ∧ Aside0 (kq ≤ kj1) ∧ Aside0 (Below w.heap.size w w'))
        case atStart => exact ⟨(0), (by first | rfl | (simp; done) | (simp [*]; done)), H', ⟨Nat.le_refl _⟩, ⟨by repeat (first | (with_reducible first | exact HB.out | apply below_alloc | apply pw_below_drewN | apply below_drew1) | exact HB.out)⟩⟩
        case round =>
          clear H'
          try clear c1
          try clear p2
          try clear c3
          try clear c3b0
          try clear c4
          try clear p2
          obtain ⟨x4_2, rfl, HA, HK2, HB⟩ := hrel
          cases gk with
          | zero => exact absurd HA.out (by simp [arrearsref20_CheckDigit.l0])
          | succ k2 =>
            have H := HA.out
            clear HA
            simp only [arrearsref20_CheckDigit.l0] at H
            by_cases c5 : x4_2 < 10
            · rw [if_pos c5] at H
              have c5b0 : decide (x4_2 < 10) = true := decide_eq_true c5
              clear c5
              replace H := Option.bind_eq_some_iff.mp H
              obtain ⟨t106, A60, H⟩ := H
              replace H : ((arrearsref20_weighed.f k2 t106 true).bind fun t109 => (if (Int.tmod (wrap64 (t109 + x4_2)) 10) = 0 then (some (x4_2, true)) else (arrearsref20_CheckDigit.l0 k2 a0 (wrap64 (x4_2 + 1))))) = some (r1, r2) := H
              have A6 := Aside0.mk A60
              clear A60
              replace H := Option.bind_eq_some_iff.mp H
              obtain ⟨t109, A70, H⟩ := H
              replace H : (if (Int.tmod (wrap64 (t109 + x4_2)) 10) = 0 then (some (x4_2, true)) else (arrearsref20_CheckDigit.l0 k2 a0 (wrap64 (x4_2 + 1)))) = some (r1, r2) := H
              have A7 := Aside0.mk A70
              clear A70
              by_cases c8 : (Int.tmod (wrap64 (t109 + x4_2)) 10) = 0
              · rw [if_pos c8] at H
                have c8b0 : ((Int.tmod (wrap64 (t109 + x4_2)) 10) == 0) = true := beq_iff_eq.mpr c8
                have c8b1 : ((Int.tmod (wrap64 (t109 + x4_2)) 10) != 0) = false := bne_eq_false_iff_eq.mpr c8
                clear c8
                simp only [Option.some.injEq, Prod.mk.injEq] at H
                obtain ⟨rfl, rfl⟩ := H
                go_wp2_with (first | ((with_reducible refine gate_callee (f := 30) rfl ?_); refine goesL_ (some 16) rfl rfl Tryd.func30 (by kernel_rfl) rfl #[.int .i64 a0, .int .i64 6] rfl (by (try simp only [List.map_toArray, List.map_cons, List.map_nil]); first | done | rfl | (simp only [List.length_drop, List.length_take]; rfl)) ?_; (with_reducible refine (arrearsref20_decimal.calls k2 a0 6 t106 _ A6.out).mono ?_); rintro e w9 ⟨v107, rfl, ho0, hb⟩; refine ⟨_, rfl, ?_⟩; have n0_ := Aside0.mk (Kd.R_lower ho0 (below_size (by repeat (first | (with_reducible first | exact HB.out | apply below_alloc | apply pw_below_drewN | apply below_drew1) | exact HB.out)))); have n1_ := Aside0.mk (below_step (by repeat (first | (with_reducible first | exact HB.out | apply below_alloc | apply pw_below_drewN | apply below_drew1) | exact HB.out)) hb); clear HB; have HO108 := n0_; have HB := n1_; clear n0_ n1_; (try clear hb); (try clear hb2); (try clear hk); (try clear hi); (try clear ho0); obtain ⟨Ao10, co10, eo10⟩ := Kd.R_slice HO108.out; subst eo10) | ((with_reducible refine gate_callee (f := 29) rfl ?_); refine goesL_ (some 17) rfl rfl Tryd.func29 (by kernel_rfl) rfl #[.slice Ao10 t106.length co10, .bool true] rfl (by (try simp only [List.map_toArray, List.map_cons, List.map_nil]); first | done | rfl | (simp only [List.length_drop, List.length_take]; rfl)) ?_; (with_reducible refine (arrearsref20_weighed.calls k2 _ _ t106 true t109 _ ?side1 ?side2 A7.out).mono ?_); (case side1 => repeat (first | exact (Kd.R_reads' HO108.out).2.2 | (with_reducible refine Kd.C_alloc ?_ _) | (with_reducible refine Kd.C_drewN ?_ _) | (with_reducible refine Kd.C_drew ?_))); (case side2 => exact (Kd.R_reads' HO108.out).2.1); rintro e w' ⟨rfl, ⟨nd, rfl⟩⟩; refine ⟨_, rfl, ?_⟩))
                go_ret2
                exact ⟨by first | rfl | (simp [errW_none, errW_some] <;> rfl) | (simp [*, errW_none, errW_some] <;> rfl), by repeat (first | (with_reducible first | exact HB.out | apply below_alloc | apply pw_below_drewN | apply below_drew1) | exact HB.out)⟩
              · rw [if_neg c8] at H
                have c8b0 : ((Int.tmod (wrap64 (t109 + x4_2)) 10) == 0) = false := beq_eq_false_iff_ne.mpr c8
                have c8b1 : ((Int.tmod (wrap64 (t109 + x4_2)) 10) != 0) = true := bne_iff_ne.mpr c8
                have H' := Aside0.mk H
                clear H
                go_wp2_with (first | ((with_reducible refine gate_callee (f := 30) rfl ?_); refine goesL_ (some 16) rfl rfl Tryd.func30 (by kernel_rfl) rfl #[.int .i64 a0, .int .i64 6] rfl (by (try simp only [List.map_toArray, List.map_cons, List.map_nil]); first | done | rfl | (simp only [List.length_drop, List.length_take]; rfl)) ?_; (with_reducible refine (arrearsref20_decimal.calls k2 a0 6 t106 _ A6.out).mono ?_); rintro e w11 ⟨v107, rfl, ho0, hb⟩; refine ⟨_, rfl, ?_⟩; have n0_ := Aside0.mk (Kd.R_lower ho0 (below_size (by repeat (first | (with_reducible first | exact HB.out | apply below_alloc | apply pw_below_drewN | apply below_drew1) | exact HB.out)))); have n1_ := Aside0.mk (below_step (by repeat (first | (with_reducible first | exact HB.out | apply below_alloc | apply pw_below_drewN | apply below_drew1) | exact HB.out)) hb); clear HB; have HO108 := n0_; have HB := n1_; clear n0_ n1_; (try clear hb); (try clear hb2); (try clear hk); (try clear hi); (try clear ho0); obtain ⟨Ao12, co12, eo12⟩ := Kd.R_slice HO108.out; subst eo12) | ((with_reducible refine gate_callee (f := 29) rfl ?_); refine goesL_ (some 17) rfl rfl Tryd.func29 (by kernel_rfl) rfl #[.slice Ao12 t106.length co12, .bool true] rfl (by (try simp only [List.map_toArray, List.map_cons, List.map_nil]); first | done | rfl | (simp only [List.length_drop, List.length_take]; rfl)) ?_; (with_reducible refine (arrearsref20_weighed.calls k2 _ _ t106 true t109 _ ?side1 ?side2 A7.out).mono ?_); (case side1 => repeat (first | exact (Kd.R_reads' HO108.out).2.2 | (with_reducible refine Kd.C_alloc ?_ _) | (with_reducible refine Kd.C_drewN ?_ _) | (with_reducible refine Kd.C_drew ?_))); (case side2 => exact (Kd.R_reads' HO108.out).2.1); rintro e w' ⟨rfl, ⟨nd, rfl⟩⟩; refine ⟨_, rfl, ?_⟩))
                go_roundg k2
                case measure => have := HJ1.out; have := HK2.out; omega
                case rel => exact ⟨(wrap64 (x4_2 + 1)), (by first | rfl | (simp; done) | (simp [*]; done)), H', ⟨by have := HJ1.out; have := HK2.out; omega⟩, ⟨by repeat (first | (with_reducible first | exact HB.out | apply below_alloc | apply pw_below_drewN | apply below_drew1) | exact HB.out)⟩⟩
            · rw [if_neg c5] at H
              have c5b0 : decide (x4_2 < 10) = false := decide_eq_false c5
              clear c5
              simp only [Option.some.injEq, Prod.mk.injEq] at H
              obtain ⟨rfl, rfl⟩ := H
              go_wp2
              go_ret2
              exact ⟨by first | rfl | (simp [errW_none, errW_some] <;> rfl) | (simp [*, errW_none, errW_some] <;> rfl), by repeat (first | (with_reducible first | exact HB.out | apply below_alloc | apply pw_below_drewN | apply below_drew1) | exact HB.out)⟩
end Go.Proofs.YtkjdmbbaacjpmaaDoor.D
end
section
namespace Go.Proofs.YtkjdmbbaacjpmaaDoor.D
open Go.RowKit Go.Proofs.YtkjdmbbaacjpmaaDoorW.PrintWords Go.Proofs.YtkjdmbbaacjpmaaDoorW.PrintLast Go.Proofs.YtkjdmbbaacjpmaaDoorW.PrintMore
attribute [local go_sem] max2_int min2_int max_two min_two max_three min_three max_four min_four
set_option linter.unusedVariables false
set_option linter.unusedSimpArgs false
end Go.Proofs.YtkjdmbbaacjpmaaDoor.D
end
section
namespace Go.Proofs.YtkjdmbbaacjpmaaDoor.D
open Go.RowKit Go.Proofs.YtkjdmbbaacjpmaaDoorW.PrintWords Go.Proofs.YtkjdmbbaacjpmaaDoorW.PrintLast Go.Proofs.YtkjdmbbaacjpmaaDoorW.PrintMore
attribute [local go_sem] max2_int min2_int max_two min_two max_three min_three max_four min_four
set_option linter.unusedVariables false
set_option linter.unusedSimpArgs false
def lockbox_luhn.l0 : Nat → ByteArray → Bool → Int → Int → Int → Option (Int)
  | 0, _, _, _, _, _ => none
  | k + 1, x0, x1, x5, x9, x10 => if x10 < x9 then (if 0 ≤ (wrap64 ((wrap64 ((x0.size : Int) - 1)) - x10)) then (if (wrap64 ((wrap64 ((x0.size : Int) - 1)) - x10)) < (x0.size : Int) then (if x1 = true then (lockbox_luhn.l0 k x0 (!x1) (wrap64 (x5 + ((((((bt x0 (wrap64 ((wrap64 ((x0.size : Int) - 1)) - x10))) - 48) % 256) * 2) % 10) + ((((bt x0 (wrap64 ((wrap64 ((x0.size : Int) - 1)) - x10))) - 48) % 256) / 5)))) x9 (wrap64 (x10 + 1))) else (lockbox_luhn.l0 k x0 (!x1) (wrap64 (x5 + (((bt x0 (wrap64 ((wrap64 ((x0.size : Int) - 1)) - x10))) - 48) % 256))) x9 (wrap64 (x10 + 1)))) else (none)) else (none)) else (some x5)
def lockbox_luhn.f (k : Nat) (a0 : ByteArray) (a1 : Bool) : Option (Int) := lockbox_luhn.l0 k a0 a1 0 (a0.size : Int) 0
theorem lockbox_luhn.mono_l : ∀ k, (∀ y0 y1 y2 y3 y4, LeO (lockbox_luhn.l0 k y0 y1 y2 y3 y4) (lockbox_luhn.l0 (k + 1) y0 y1 y2 y3 y4))
  | 0 => fun _ _ _ _ _ r h => by simp [lockbox_luhn.l0] at h
  | k + 1 => by
    have ih0 := lockbox_luhn.mono_l k
    · intro y0 y1 y2 y3 y4
      unfold lockbox_luhn.l0
      repeat' first
      | (with_reducible exact ih0 _ _ _ _ _)
      | (with_reducible exact LeO.refl _)
      | (with_reducible exact LeO.none _)
      | (with_reducible refine LeO.ite ?_ ?_)
      | (with_reducible refine LeO.bind ?_ (fun _ => ?_))
      | exact ih0 _ _ _ _ _
      | exact LeO.none _
      | refine LeO.ite ?_ ?_
      | refine LeO.bind ?_ (fun _ => ?_)
theorem lockbox_luhn.mono : ∀ a0 a1 k, LeO (lockbox_luhn.f k a0 a1) (lockbox_luhn.f (k + 1) a0 a1) := by
  intro a0 a1 k
  have ih0 := lockbox_luhn.mono_l k
  unfold lockbox_luhn.f
  repeat' first
      | (with_reducible exact ih0 _ _ _ _ _)
      | (with_reducible exact LeO.refl _)
      | (with_reducible exact LeO.none _)
      | (with_reducible refine LeO.ite ?_ ?_)
      | (with_reducible refine LeO.bind ?_ (fun _ => ?_))
      | exact ih0 _ _ _ _ _
      | exact LeO.none _
      | refine LeO.ite ?_ ?_
      | refine LeO.bind ?_ (fun _ => ?_)
set_option maxHeartbeats 8000000 in
set_option maxRecDepth 100000 in
theorem lockbox_luhn.calls (k : Nat) (a0 : ByteArray) (a1 : Bool) (r : Int) (w : World) (h : lockbox_luhn.f k a0 a1 = some r) :
    Calls Tryd.prog 27 #[.string a0, .bool a1] w fun e w' => e = .returned (.int .i64 r) ∧ Drawn0 w w' := by
  have H : (lockbox_luhn.l0 k a0 a1 0 (a0.size : Int) 0) = some r := h
  clear h
  have H' := Aside0.mk H
  clear H
  go_enter Tryd.func27, Tryd.ntmps27
  go_wp2
  go_loopg [1, 5, 10] k (fun kq v1 v5 v10 w' => ∃ (x1_1 : Bool) (x5_1 : Int) (x10_1 : Int), v1 = .bool x1_1 ∧ v5 = .int .i64 x5_1 ∧ v10 = .int .i64 x10_1 ∧ Aside0 (lockbox_luhn.l0 kq a0 x1_1 x5_1 (a0.size : Int) x10_1 = some r) ∧ Aside0 (kq ≤ k) ∧ Drawn0 w w')
  case atStart => exact ⟨(a1), (0), (0), (by first | rfl | (simp; done) | (simp [*]; done)), (by first | rfl | (simp; done) | (simp [*]; done)), (by first | rfl | (simp; done) | (simp [*]; done)), H', ⟨Nat.le_refl _⟩, by repeat (first | exact Drawn0.refl _ | apply Drawn0.step)⟩
  case round =>
    clear H'
    try clear c2
    try clear p2
    obtain ⟨x1_1, x5_1, x10_1, rfl, rfl, rfl, HA, HK1, ⟨m1, rfl⟩⟩ := hrel
    cases gk with
    | zero => exact absurd HA.out (by simp [lockbox_luhn.l0])
    | succ k1 =>
      have H := HA.out
      clear HA
      simp only [lockbox_luhn.l0] at H
      by_cases c3 : x10_1 < (a0.size : Int)
      · rw [if_pos c3] at H
        have c3b0 : decide (x10_1 < (a0.size : Int)) = true := decide_eq_true c3
        clear c3
        obtain ⟨ji4, hji4⟩ : ∃ j_ : Int, (wrap64 ((wrap64 ((a0.size : Int) - 1)) - x10_1)) = j_ := ⟨_, rfl⟩
        replace H : (if 0 ≤ (ji4) then (if (ji4) < (a0.size : Int) then (if x1_1 = true then (lockbox_luhn.l0 k1 a0 (!x1_1) (wrap64 (x5_1 + ((((((bt a0 (ji4)) - 48) % 256) * 2) % 10) + ((((bt a0 (ji4)) - 48) % 256) / 5)))) (a0.size : Int) (wrap64 (x10_1 + 1))) else (lockbox_luhn.l0 k1 a0 (!x1_1) (wrap64 (x5_1 + (((bt a0 (ji4)) - 48) % 256))) (a0.size : Int) (wrap64 (x10_1 + 1)))) else (none)) else (none)) = some r := by first | (rw [hji4] at H; exact H) | (simp only [hji4] at H ⊢; exact H)
        have hji4w : (IntKind.i64.wrap ((wrap64 ((a0.size : Int) - 1)) - x10_1)) = ji4 := (i64_w _).trans hji4
        by_cases c5 : 0 ≤ (ji4)
        · rw [if_pos c5] at H
          have c5b0 : decide (0 ≤ (ji4)) = true := decide_eq_true c5
          clear c5
          by_cases c6 : (ji4) < (a0.size : Int)
          · rw [if_pos c6] at H
            have c6b0 : decide ((ji4) < (a0.size : Int)) = true := decide_eq_true c6
            clear c6
            by_cases c8 : x1_1 = true
            · subst c8
              have H1 : (lockbox_luhn.l0 k1 a0 (!true) (wrap64 (x5_1 + ((((((bt a0 (ji4)) - 48) % 256) * 2) % 10) + ((((bt a0 (ji4)) - 48) % 256) / 5)))) (a0.size : Int) (wrap64 (x10_1 + 1))) = some r := by rw [if_pos rfl] at H; exact H
              clear H
              have H := H1
              clear H1
              have H' := Aside0.mk H
              clear H
              have p7 : 0 ≤ ((ji4) : Int) := of_decide_eq_true (by first | (with_reducible assumption) | assumption)
              have q7 : (ji4) < (a0.size : Int) := of_decide_eq_true (by first | (with_reducible assumption) | assumption)
              have hx7 := bt_at a0 (ji4)
              replace p7 := eq_true p7
              replace q7 := eq_true q7
              go_wp2
              go_roundg k1
              case measure => have := HK1.out; omega
              case rel => exact ⟨(!true), (wrap64 (x5_1 + ((((((bt a0 (ji4)) - 48) % 256) * 2) % 10) + ((((bt a0 (ji4)) - 48) % 256) / 5)))), (wrap64 (x10_1 + 1)), (by first | rfl | (simp; done) | (simp [*]; done)), (by first | rfl | (simp; done) | (simp only [← hji4] <;> (first | rfl | simp)) | (simp [*]; done)), (by first | rfl | (simp; done) | (simp [*]; done)), H', ⟨by have := HK1.out; omega⟩, by repeat (first | exact Drawn0.refl _ | apply Drawn0.step)⟩
            · replace c8 := Bool.eq_false_iff.mpr c8
              subst c8
              have H1 : (lockbox_luhn.l0 k1 a0 (!false) (wrap64 (x5_1 + (((bt a0 (ji4)) - 48) % 256))) (a0.size : Int) (wrap64 (x10_1 + 1))) = some r := by rw [if_neg (show ¬ (false = true) by decide)] at H; exact H
              clear H
              have H := H1
              clear H1
              have H' := Aside0.mk H
              clear H
              have p7 : 0 ≤ ((ji4) : Int) := of_decide_eq_true (by first | (with_reducible assumption) | assumption)
              have q7 : (ji4) < (a0.size : Int) := of_decide_eq_true (by first | (with_reducible assumption) | assumption)
              have hx7 := bt_at a0 (ji4)
              replace p7 := eq_true p7
              replace q7 := eq_true q7
              go_wp2
              go_roundg k1
              case measure => have := HK1.out; omega
              case rel => exact ⟨(!false), (wrap64 (x5_1 + (((bt a0 (ji4)) - 48) % 256))), (wrap64 (x10_1 + 1)), (by first | rfl | (simp; done) | (simp [*]; done)), (by first | rfl | (simp; done) | (simp only [← hji4] <;> (first | rfl | simp)) | (simp [*]; done)), (by first | rfl | (simp; done) | (simp [*]; done)), H', ⟨by have := HK1.out; omega⟩, by repeat (first | exact Drawn0.refl _ | apply Drawn0.step)⟩
          · rw [if_neg c6] at H
            exact absurd H (by simp)
        · rw [if_neg c5] at H
          exact absurd H (by simp)
      · rw [if_neg c3] at H
        have c3b0 : decide (x10_1 < (a0.size : Int)) = false := decide_eq_false c3
        clear c3
        obtain rfl := Option.some.inj H
        go_wp2
        go_ret
        exact ⟨by first | rfl | (simp; done) | (simp [*]; done), by repeat (first | exact Drawn0.refl _ | apply Drawn0.step)⟩
end Go.Proofs.YtkjdmbbaacjpmaaDoor.D
end
section
namespace Go.Proofs.YtkjdmbbaacjpmaaDoor.D
open Go.RowKit Go.Proofs.YtkjdmbbaacjpmaaDoorW.PrintWords Go.Proofs.YtkjdmbbaacjpmaaDoorW.PrintLast Go.Proofs.YtkjdmbbaacjpmaaDoorW.PrintMore
attribute [local go_sem] max2_int min2_int max_two min_two max_three min_three max_four min_four
set_option linter.unusedVariables false
set_option linter.unusedSimpArgs false
def lockbox_allDigits.l0 : Nat → ByteArray → Int → Int → Option (Bool)
  | 0, _, _, _ => none
  | k + 1, x0, x5, x6 => if x6 < x5 then (if 0 ≤ x6 then (if x6 < (x0.size : Int) then (if (bt x0 x6) < 48 then (some false) else (if (bt x0 x6) > 57 then (some false) else (lockbox_allDigits.l0 k x0 x5 (wrap64 (x6 + 1))))) else (none)) else (none)) else (some true)
def lockbox_allDigits.f (k : Nat) (a0 : ByteArray) : Option (Bool) := lockbox_allDigits.l0 k a0 (a0.size : Int) 0
theorem lockbox_allDigits.mono_l : ∀ k, (∀ y0 y1 y2, LeO (lockbox_allDigits.l0 k y0 y1 y2) (lockbox_allDigits.l0 (k + 1) y0 y1 y2))
  | 0 => fun _ _ _ r h => by simp [lockbox_allDigits.l0] at h
  | k + 1 => by
    have ih0 := lockbox_allDigits.mono_l k
    · intro y0 y1 y2
      unfold lockbox_allDigits.l0
      repeat' first
      | (with_reducible exact ih0 _ _ _)
      | (with_reducible exact LeO.refl _)
      | (with_reducible exact LeO.none _)
      | (with_reducible refine LeO.ite ?_ ?_)
      | (with_reducible refine LeO.bind ?_ (fun _ => ?_))
      | exact ih0 _ _ _
      | exact LeO.none _
      | refine LeO.ite ?_ ?_
      | refine LeO.bind ?_ (fun _ => ?_)
theorem lockbox_allDigits.mono : ∀ a0 k, LeO (lockbox_allDigits.f k a0) (lockbox_allDigits.f (k + 1) a0) := by
  intro a0 k
  have ih0 := lockbox_allDigits.mono_l k
  unfold lockbox_allDigits.f
  repeat' first
      | (with_reducible exact ih0 _ _ _)
      | (with_reducible exact LeO.refl _)
      | (with_reducible exact LeO.none _)
      | (with_reducible refine LeO.ite ?_ ?_)
      | (with_reducible refine LeO.bind ?_ (fun _ => ?_))
      | exact ih0 _ _ _
      | exact LeO.none _
      | refine LeO.ite ?_ ?_
      | refine LeO.bind ?_ (fun _ => ?_)
set_option maxHeartbeats 8000000 in
set_option maxRecDepth 100000 in
theorem lockbox_allDigits.calls (k : Nat) (a0 : ByteArray) (r : Bool) (w : World) (h : lockbox_allDigits.f k a0 = some r) :
    Calls Tryd.prog 31 #[.string a0] w fun e w' => e = .returned (.bool r) ∧ Drawn0 w w' := by
  have H : (lockbox_allDigits.l0 k a0 (a0.size : Int) 0) = some r := h
  clear h
  have H' := Aside0.mk H
  clear H
  go_enter Tryd.func31, Tryd.ntmps31
  go_wp2
  go_loopg [6] k (fun kq v6 w' => ∃ (x6_1 : Int), v6 = .int .i64 x6_1 ∧ Aside0 (lockbox_allDigits.l0 kq a0 (a0.size : Int) x6_1 = some r) ∧ Aside0 (kq ≤ k) ∧ Drawn0 w w')
  case atStart => exact ⟨(0), (by first | rfl | (simp; done) | (simp [*]; done)), H', ⟨Nat.le_refl _⟩, by repeat (first | exact Drawn0.refl _ | apply Drawn0.step)⟩
  case round =>
    clear H'
    obtain ⟨x6_1, rfl, HA, HK1, ⟨m1, rfl⟩⟩ := hrel
    cases gk with
    | zero => exact absurd HA.out (by simp [lockbox_allDigits.l0])
    | succ k1 =>
      have H := HA.out
      clear HA
      simp only [lockbox_allDigits.l0] at H
      by_cases c2 : x6_1 < (a0.size : Int)
      · rw [if_pos c2] at H
        have c2b0 : decide (x6_1 < (a0.size : Int)) = true := decide_eq_true c2
        clear c2
        by_cases c3 : 0 ≤ x6_1
        · rw [if_pos c3] at H
          have c3b0 : decide (0 ≤ x6_1) = true := decide_eq_true c3
          clear c3
          by_cases c4 : x6_1 < (a0.size : Int)
          · rw [if_pos c4] at H
            have c4b0 : decide (x6_1 < (a0.size : Int)) = true := decide_eq_true c4
            clear c4
            by_cases c6 : (bt a0 x6_1) < 48
            · rw [if_pos c6] at H
              have c6b0 : decide ((bt a0 x6_1) < 48) = true := decide_eq_true c6
              clear c6
              obtain rfl := Option.some.inj H
              have p5 : 0 ≤ (x6_1 : Int) := of_decide_eq_true (by first | (with_reducible assumption) | assumption)
              have q5 : x6_1 < (a0.size : Int) := of_decide_eq_true (by first | (with_reducible assumption) | assumption)
              have hx5 := bt_at a0 x6_1
              replace p5 := eq_true p5
              replace q5 := eq_true q5
              go_wp2
              go_ret
              exact ⟨by first | rfl | (simp; done) | (simp [*]; done), by repeat (first | exact Drawn0.refl _ | apply Drawn0.step)⟩
            · rw [if_neg c6] at H
              have c6b0 : decide ((bt a0 x6_1) < 48) = false := decide_eq_false c6
              clear c6
              by_cases c8 : (bt a0 x6_1) > 57
              · rw [if_pos c8] at H
                have c8b0 : decide (57 < (bt a0 x6_1)) = true := decide_eq_true c8
                clear c8
                obtain rfl := Option.some.inj H
                have p5 : 0 ≤ (x6_1 : Int) := of_decide_eq_true (by first | (with_reducible assumption) | assumption)
                have q5 : x6_1 < (a0.size : Int) := of_decide_eq_true (by first | (with_reducible assumption) | assumption)
                have hx5 := bt_at a0 x6_1
                replace p5 := eq_true p5
                replace q5 := eq_true q5
                have p7 : 0 ≤ (x6_1 : Int) := of_decide_eq_true (by first | (with_reducible assumption) | assumption)
                have q7 : x6_1 < (a0.size : Int) := of_decide_eq_true (by first | (with_reducible assumption) | assumption)
                have hx7 := bt_at a0 x6_1
                replace p7 := eq_true p7
                replace q7 := eq_true q7
                go_wp2
                go_ret
                exact ⟨by first | rfl | (simp; done) | (simp [*]; done), by repeat (first | exact Drawn0.refl _ | apply Drawn0.step)⟩
              · rw [if_neg c8] at H
                have c8b0 : decide (57 < (bt a0 x6_1)) = false := decide_eq_false c8
                clear c8
                have H' := Aside0.mk H
                clear H
                have p5 : 0 ≤ (x6_1 : Int) := of_decide_eq_true (by first | (with_reducible assumption) | assumption)
                have q5 : x6_1 < (a0.size : Int) := of_decide_eq_true (by first | (with_reducible assumption) | assumption)
                have hx5 := bt_at a0 x6_1
                replace p5 := eq_true p5
                replace q5 := eq_true q5
                have p7 : 0 ≤ (x6_1 : Int) := of_decide_eq_true (by first | (with_reducible assumption) | assumption)
                have q7 : x6_1 < (a0.size : Int) := of_decide_eq_true (by first | (with_reducible assumption) | assumption)
                have hx7 := bt_at a0 x6_1
                replace p7 := eq_true p7
                replace q7 := eq_true q7
                go_wp2
                go_roundg k1
                case measure => have := HK1.out; omega
                case rel => exact ⟨(wrap64 (x6_1 + 1)), (by first | rfl | (simp; done) | (simp [*]; done)), H', ⟨by have := HK1.out; omega⟩, by repeat (first | exact Drawn0.refl _ | apply Drawn0.step)⟩
          · rw [if_neg c4] at H
            exact absurd H (by simp)
        · rw [if_neg c3] at H
          exact absurd H (by simp)
      · rw [if_neg c2] at H
        have c2b0 : decide (x6_1 < (a0.size : Int)) = false := decide_eq_false c2
        clear c2
        obtain rfl := Option.some.inj H
        go_wp2
        go_ret
        exact ⟨by first | rfl | (simp; done) | (simp [*]; done), by repeat (first | exact Drawn0.refl _ | apply Drawn0.step)⟩
end Go.Proofs.YtkjdmbbaacjpmaaDoor.D
end
section
namespace Go.Proofs.YtkjdmbbaacjpmaaDoor.D
open Go.RowKit Go.Proofs.YtkjdmbbaacjpmaaDoorW.PrintWords Go.Proofs.YtkjdmbbaacjpmaaDoorW.PrintLast Go.Proofs.YtkjdmbbaacjpmaaDoorW.PrintMore
attribute [local go_sem] max2_int min2_int max_two min_two max_three min_three max_four min_four
set_option linter.unusedVariables false
set_option linter.unusedSimpArgs false
def lockbox_Valid.f (k : Nat) (a0 : ByteArray) : Option (Bool) := if (a0.size : Int) > 1 then ((lockbox_allDigits.f k a0).bind fun t114 => (if t114 = true then ((lockbox_luhn.f k a0 false).bind fun t115 => (some ((Int.tmod t115 10) == 0))) else (some false))) else (some false)
theorem lockbox_Valid.mono : ∀ a0 k, LeO (lockbox_Valid.f k a0) (lockbox_Valid.f (k + 1) a0) := by
  intro a0 k
  unfold lockbox_Valid.f
  repeat' first
      | (with_reducible exact lockbox_allDigits.mono _ _)
      | (with_reducible exact lockbox_luhn.mono _ _ _)
      | (with_reducible exact LeO.refl _)
      | (with_reducible exact LeO.none _)
      | (with_reducible refine LeO.ite ?_ ?_)
      | (with_reducible refine LeO.bind ?_ (fun _ => ?_))
      | exact lockbox_allDigits.mono _ _
      | exact lockbox_luhn.mono _ _ _
      | exact LeO.none _
      | refine LeO.ite ?_ ?_
      | refine LeO.bind ?_ (fun _ => ?_)
set_option maxHeartbeats 8000000 in
set_option maxRecDepth 100000 in
theorem lockbox_Valid.calls (k : Nat) (a0 : ByteArray) (r : Bool) (w : World) (h : lockbox_Valid.f k a0 = some r) :
    Calls Tryd.prog 11 #[.string a0] w fun e w' => e = .returned (.bool r) ∧ Drawn0 w w' := by
  have H : (if (a0.size : Int) > 1 then ((lockbox_allDigits.f k a0).bind fun t114 => (if t114 = true then ((lockbox_luhn.f k a0 false).bind fun t115 => (some ((Int.tmod t115 10) == 0))) else (some false))) else (some false)) = some r := h
  clear h
  by_cases c2 : (a0.size : Int) > 1
  · rw [if_pos c2] at H
    have c2b0 : decide (1 < (a0.size : Int)) = true := decide_eq_true c2
    have c2b1 : decide (1 < a0.size) = true := decide_eq_true (by omega)
    clear c2
    replace H := Option.bind_eq_some_iff.mp H
    obtain ⟨t114, A30, H⟩ := H
    replace H : (if t114 = true then ((lockbox_luhn.f k a0 false).bind fun t115 => (some ((Int.tmod t115 10) == 0))) else (some false)) = some r := H
    have A3 := Aside0.mk A30
    clear A30
    by_cases c4 : t114 = true
    · subst c4
      have H1 : ((lockbox_luhn.f k a0 false).bind fun t115 => (some ((Int.tmod t115 10) == 0))) = some r := by rw [if_pos rfl] at H; exact H
      clear H
      have H := H1
      clear H1
      replace H := Option.bind_eq_some_iff.mp H
      obtain ⟨t115, A50, H⟩ := H
      replace H : (some ((Int.tmod t115 10) == 0)) = some r := H
      have A5 := Aside0.mk A50
      clear A50
      obtain rfl := Option.some.inj H
      go_enter Tryd.func11, Tryd.ntmps11
      go_wp2_with (first | (go_at_call 31; (with_reducible refine (lockbox_allDigits.calls k a0 true _ A3.out).mono ?_); rintro e w' ⟨rfl, ⟨nd, rfl⟩⟩) | (go_at_call 27; (with_reducible refine (lockbox_luhn.calls k a0 false t115 _ A5.out).mono ?_); rintro e w' ⟨rfl, ⟨nd, rfl⟩⟩))
      go_ret
      exact ⟨by first | rfl | (simp; done) | (simp [*]; done), by repeat (first | exact Drawn0.refl _ | apply Drawn0.step)⟩
    · replace c4 := Bool.eq_false_iff.mpr c4
      subst c4
      have H1 : (some false) = some r := by rw [if_neg (show ¬ (false = true) by decide)] at H; exact H
      clear H
      have H := H1
      clear H1
      obtain rfl := Option.some.inj H
      go_enter Tryd.func11, Tryd.ntmps11
      go_wp2_with (first | (go_at_call 31; (with_reducible refine (lockbox_allDigits.calls k a0 false _ A3.out).mono ?_); rintro e w' ⟨rfl, ⟨nd, rfl⟩⟩))
      go_ret
      exact ⟨by first | rfl | (simp; done) | (simp [*]; done), by repeat (first | exact Drawn0.refl _ | apply Drawn0.step)⟩
  · rw [if_neg c2] at H
    have c2b0 : decide (1 < (a0.size : Int)) = false := decide_eq_false c2
    have c2b1 : decide (1 < a0.size) = false := decide_eq_false (by omega)
    clear c2
    obtain rfl := Option.some.inj H
    go_enter Tryd.func11, Tryd.ntmps11
    go_wp2
    go_ret
    exact ⟨by first | rfl | (simp; done) | (simp [*]; done), by repeat (first | exact Drawn0.refl _ | apply Drawn0.step)⟩
end Go.Proofs.YtkjdmbbaacjpmaaDoor.D
end
section
namespace Go.Proofs.YtkjdmbbaacjpmaaDoor.DDigits
open Go.RowKit Go.Proofs.YtkjdmbbaacjpmaaDoor.D Go.Proofs.YtkjdmbbaacjpmaaDoor.Num Go.Proofs.YtkjdmbbaacjpmaaDoorW.PrintWords
theorem wrN (j : Nat) (h : j ≤ 1000000000000000) : wrap64 ((j : Int) + 1) = ((j + 1 : Nat) : Int) := by unfold wrap64; omega
theorem wrI {i : Int} (h0 : -1000000000000000000 ≤ i) (h : i ≤ 1000000000000000000) : wrap64 i = i := by unfold wrap64; omega
theorem rd_nat (l : List Int) (j : Nat) : rd l (j : Int) = l.getD j 0 := by unfold rd; simp
theorem getD_at (l : List Int) (j : Nat) (h : j < l.length) : l.getD j 0 = l[j] := by
  rw [List.getD_eq_getElem?_getD, List.getElem?_eq_getElem h]; rfl
theorem bytes_length (s : ByteArray) : (bytesOf s).length = s.size := by simp [bytesOf]
theorem bt_bytes (s : ByteArray) (j : Nat) (h : j < (bytesOf s).length) : bt s (j : Int) = (bytesOf s)[j] := by
  rw [← rd_bytesOf, rd_nat, getD_at _ _ h]
theorem behind_at (l : List Int) (i : Nat) (h : i < (behind l).length) : (behind l)[i] = l[l.length - 1 - i]'(by rw [behind_length] at h; omega) - 48 := by
  simp [behind]
theorem luhn_loop (s : ByteArray) (hs : s.size ≤ 140737488351232) (hd : Dig (behind (bytesOf s))) (d : Nat) :
    ∀ (i : Nat) (b : Bool) (acc : Int), i + d = s.size → 0 ≤ acc → acc ≤ 9 * i →
      Ev (fun k => lockbox_luhn.l0 k s b acc s.size i) (acc + lsum ((behind (bytesOf s)).drop i) b) := by
  have hn := bytes_length s
  have hb := behind_length (bytesOf s)
  induction d with
  | zero =>
    intro i b acc h h0 h1
    rw [List.drop_of_length_le (by omega)]
    simp only [lsum, Int.add_zero]
    refine Ev.step (fun k => ?_) (Ev.now acc)
    simp only [lockbox_luhn.l0]
    rw [if_neg (by omega)]
  | succ d ih =>
    intro i b acc h h0 h1
    have hi : i < (behind (bytesOf s)).length := by omega
    have hdg := hd _ (List.getElem_mem hi)
    have hx := behind_at (bytesOf s) i hi
    have hx2 := bt_bytes s ((bytesOf s).length - 1 - i) (by omega)
    rw [hx, ← hx2] at hdg
    have e1 : wrap64 (wrap64 ((s.size : Int) - 1) - (i : Int)) = (((bytesOf s).length - 1 - i : Nat) : Int) := by
      rw [wrI (i := (s.size : Int) - 1) (by omega) (by omega), wrI (by omega) (by omega)]; omega
    rw [List.drop_eq_getElem_cons hi, hx, ← hx2]
    simp only [lsum]
    rw [← Int.add_assoc]
    generalize hv : bt s (((bytesOf s).length - 1 - i : Nat) : Int) = v at hdg
    have e2 : (v - 48) % 256 = v - 48 := by omega
    have hr := dbl_range hdg.1 hdg.2
    refine Ev.step (fun k => ?_) (ih (i + 1) (!b) (acc + if b = true then dbl (v - 48) else v - 48) (by omega) (by split <;> omega) (by split <;> omega))
    have g1 : (i : Int) < (s.size : Int) := by omega
    have g2 : 0 ≤ (((bytesOf s).length - 1 - i : Nat) : Int) := by omega
    have g3 : (((bytesOf s).length - 1 - i : Nat) : Int) < (s.size : Int) := by omega
    simp only [lockbox_luhn.l0]
    rw [if_pos g1, e1, if_pos g2, if_pos g3, hv, e2, wrN i (by omega)]
    cases b with
    | true =>
      rw [if_pos rfl, if_pos rfl, dbl_eq hdg.1 hdg.2, wrI (by omega) (by omega)]
    | false =>
      rw [if_neg (by simp), if_neg (by simp), wrI (by omega) (by omega)]
theorem luhn_ev (s : ByteArray) (hs : s.size ≤ 140737488351232) (hd : Dig (behind (bytesOf s))) (b : Bool) :
    Ev (fun k => lockbox_luhn.f k s b) (lsum (behind (bytesOf s)) b) := by
  have := luhn_loop s hs hd s.size 0 b 0 (by omega) (by omega) (by omega)
  rw [List.drop_zero, Int.zero_add] at this
  exact Ev.congr (fun k => rfl) this
theorem weighed_loop (l : List Int) (hl : l.length ≤ 140737488351232) (hd : Dig (behind l)) (b : Bool) (d : Nat) :
    ∀ (i : Nat) (acc : Int), i + d = l.length → 0 ≤ acc → acc ≤ 9 * i →
      Ev (fun k => arrearsref20_weighed.l0 k l b acc i) (acc + lsum (behind (l.drop i)) b) := by
  induction d with
  | zero =>
    intro i acc h h0 h1
    rw [List.drop_of_length_le (by omega)]
    simp only [behind, List.map_nil, List.reverse_nil, lsum, Int.add_zero]
    refine Ev.step (fun k => ?_) (Ev.now acc)
    simp only [arrearsref20_weighed.l0]
    rw [if_neg (by omega)]
  | succ d ih =>
    intro i acc h h0 h1
    have hi : i < l.length := by omega
    have hdg : 0 ≤ l[i] - 48 ∧ l[i] - 48 ≤ 9 := hd _ (by simp only [behind, List.mem_reverse, List.mem_map]; exact ⟨l[i], List.getElem_mem hi, rfl⟩)
    have e0 : rd l (i : Int) = l[i] := by rw [rd_nat, getD_at _ _ hi]
    have e3 : (behind (l.drop i)) = behind (l.drop (i + 1)) ++ [l[i] - 48] := by
      rw [List.drop_eq_getElem_cons hi]; simp only [behind, List.map_cons, List.reverse_cons]
    have el : (behind (l.drop (i + 1))).length = l.length - 1 - i := by rw [behind_length, List.length_drop]; omega
    rw [e3, lsum_append, el]
    generalize hv : l[i] = v at hdg e0
    have e2 : (v - 48) % 256 = v - 48 := by omega
    have hr := dbl_range hdg.1 hdg.2
    have ep : (Int.tmod (wrap64 (wrap64 ((l.length : Int) - 1) - (i : Int))) 2 == 0) = ((l.length - 1 - i) % 2 == 0) := by
      rw [wrI (i := (l.length : Int) - 1) (by omega) (by omega), wrI (by omega) (by omega), show ((l.length : Int) - 1 - (i : Int)) = ((l.length - 1 - i : Nat) : Int) by omega]
      rw [Int.tmod_eq_emod_of_nonneg (by omega), Bool.eq_iff_iff]
      simp only [beq_iff_eq]
      omega
    refine Ev.congr (f := fun k => arrearsref20_weighed.l0 k l b acc i) (fun k => rfl) ?_
    have hc : (((l.length - 1 - i) % 2 == 0) == b) = (b == ((l.length - 1 - i) % 2 == 0)) := by
      cases b <;> cases ((l.length - 1 - i) % 2 == 0) <;> rfl
    have ih' := ih (i + 1) (acc + (if (b == ((l.length - 1 - i) % 2 == 0)) = true then dbl (v - 48) else v - 48)) (by omega) (by split <;> omega) (by split <;> omega)
    rw [show acc + (lsum (behind (l.drop (i + 1))) b + (if (b == ((l.length - 1 - i) % 2 == 0)) = true then dbl (v - 48) else v - 48)) = acc + (if (b == ((l.length - 1 - i) % 2 == 0)) = true then dbl (v - 48) else v - 48) + lsum (behind (l.drop (i + 1))) b by omega]
    refine Ev.step (fun k => ?_) ih'
    have g1 : (i : Int) < (l.length : Int) := by omega
    simp only [arrearsref20_weighed.l0]
    rw [if_pos g1, if_pos (by omega), ep, e0, e2, wrN i (by omega), hc]
    by_cases c : (b == ((l.length - 1 - i) % 2 == 0)) = true
    · rw [if_pos c, if_pos c]
      by_cases c2 : 2 * (v - 48) > 9
      · rw [if_pos c2, wrI (by omega) (by omega), show dbl (v - 48) = 2 * (v - 48) - 9 by unfold dbl; rw [if_pos c2]]
      · rw [if_neg c2, wrI (by omega) (by omega), show dbl (v - 48) = 2 * (v - 48) by unfold dbl; rw [if_neg c2]]
    · rw [if_neg c, if_neg c, wrI (by omega) (by omega)]
theorem weighed_ev (l : List Int) (hl : l.length ≤ 140737488351232) (hd : Dig (behind l)) (b : Bool) :
    Ev (fun k => arrearsref20_weighed.f k l b) (lsum (behind l) b) := by
  have := weighed_loop l hl hd b l.length 0 0 (by omega) (by omega) (by omega)
  rw [List.drop_zero, Int.zero_add] at this
  exact Ev.congr (fun k => rfl) this
theorem decimal_set (m : Nat) : ∀ (x : Int) (l : List Int), 0 ≤ x → x ≤ 1000000000000000000 → m ≤ l.length → l.length ≤ 1000000 →
    Ev (fun k => arrearsref20_decimal.l1 k x l ((m : Int) - 1)) (dec m x ++ l.drop m) := by
  induction m with
  | zero =>
    intro x l h0 h1 hm hl
    refine Ev.step (fun k => ?_) (Ev.now l)
    simp only [arrearsref20_decimal.l1]
    rw [if_neg (by omega)]
  | succ m ih =>
    intro x l h0 h1 hm hl
    have h := ih (x / 10) (l.set m (48 + x % 10)) (by omega) (by omega) (by simp; omega) (by simpa using hl)
    have e3 : dec (m + 1) x ++ l.drop (m + 1) = dec m (x / 10) ++ (l.set m (48 + x % 10)).drop m := by
      rw [dec, List.append_assoc, List.drop_eq_getElem_cons (i := m) (l := l.set m (48 + x % 10)) (by simp; omega), List.getElem_set_self, List.drop_set_of_lt (by omega)]
      rfl
    rw [e3]
    refine Ev.step (fun k => ?_) h
    have e1 : Int.tmod x 10 = x % 10 := Int.tmod_eq_emod_of_nonneg h0
    have e2 : Int.tdiv x 10 = x / 10 := Int.tdiv_eq_ediv_of_nonneg h0
    simp only [arrearsref20_decimal.l1]
    rw [if_pos (by omega), if_pos (by omega), if_pos (by omega), e1, e2, show (((m + 1 : Nat) : Int) - 1).toNat = m by omega, wrI (i := x / 10) (by omega) (by omega), wrI (i := 48 + x % 10) (by omega) (by omega), wrI (i := ((m + 1 : Nat) : Int) - 1 - 1) (by omega) (by omega), show (48 + x % 10) % 256 = 48 + x % 10 by omega, show ((m + 1 : Nat) : Int) - 1 - 1 = (m : Int) - 1 by omega]
theorem decimal_ev (x : Int) (n : Nat) (h0 : 0 ≤ x) (h1 : x ≤ 1000000000000000000) (hn : n ≤ 1000) :
    Ev (fun k => arrearsref20_decimal.f k x n) (dec n x) := by
  have go : ∀ d i : Nat, i + d = n → Ev (fun k => arrearsref20_decimal.l0 k x n (List.replicate i 48) i) (dec n x) := by
    intro d
    induction d with
    | zero =>
      intro i h
      obtain rfl : i = n := by omega
      have := decimal_set i x (List.replicate i 48) h0 h1 (by simp) (by simp; omega)
      rw [List.drop_of_length_le (by simp), List.append_nil] at this
      refine Ev.step (fun k => ?_) this
      simp only [arrearsref20_decimal.l0]
      rw [if_neg (by omega), wrI (by omega) (by omega)]
    | succ d ih =>
      intro i h
      refine Ev.step (fun k => ?_) (ih (i + 1) (by omega))
      simp only [arrearsref20_decimal.l0]
      rw [if_pos (by omega), if_pos (by rw [List.length_replicate]; omega), wrN i (by omega), ← List.replicate_succ']
  exact Ev.congr (fun k => rfl) (go n 0 (by omega))
def chk (n : Int) : Int := (10 - lsum (rdig 6 n.toNat) true % 10) % 10
def okN (n : Int) : Bool := decide (0 ≤ n ∧ n ≤ 999999)
theorem ref_loop (n : Nat) (hn : n ≤ 999999) (d : Nat) : ∀ j : Nat, (j : Int) + d = chk n → Ev (fun k => arrearsref20_CheckDigit.l0 k n j) (chk n, true) := by
  have hb := dec_behind 6 n
  have hdg : Dig (behind (dec 6 (n : Int))) := by rw [hb]; exact rdig_dig 6 n
  have hr := lsum_range (rdig 6 n) true (rdig_dig 6 n)
  rw [rdig_length] at hr
  have hdec := decimal_ev (n : Int) 6 (by omega) (by omega) (by omega)
  have hw := weighed_ev (dec 6 (n : Int)) (by rw [dec_length]; omega) hdg true
  rw [hb] at hw
  have hc : chk (n : Int) = (10 - lsum (rdig 6 n) true % 10) % 10 := rfl
  generalize lsum (rdig 6 n) true = W at hr hw hc
  have hch : 0 ≤ chk (n : Int) ∧ chk (n : Int) ≤ 9 := by rw [hc]; omega
  induction d with
  | zero =>
    intro j hj
    refine Ev.step (fun k => ?_) (Ev.bind hdec (f := fun k t125 => ((arrearsref20_weighed.f k t125 true).bind fun t128 => (if (Int.tmod (wrap64 (t128 + (j : Int))) 10) = 0 then (some ((j : Int), true)) else (arrearsref20_CheckDigit.l0 k n (wrap64 ((j : Int) + 1)))))) ?_)
    · simp only [arrearsref20_CheckDigit.l0]
      rw [if_pos (by omega)]; rfl
    · refine Ev.bind hw (f := fun k t128 => (if (Int.tmod (wrap64 (t128 + (j : Int))) 10) = 0 then (some ((j : Int), true)) else (arrearsref20_CheckDigit.l0 k n (wrap64 ((j : Int) + 1))))) ?_
      refine Ev.congr (fun k => ?_) (Ev.now _)
      rw [wrI (by omega) (by omega), Int.tmod_eq_emod_of_nonneg (by omega), if_pos (by omega), show (j : Int) = chk n by omega]
  | succ d ih =>
    intro j hj
    have h := ih (j + 1) (by omega)
    refine Ev.step (fun k => ?_) (Ev.bind hdec (f := fun k t125 => ((arrearsref20_weighed.f k t125 true).bind fun t128 => (if (Int.tmod (wrap64 (t128 + (j : Int))) 10) = 0 then (some ((j : Int), true)) else (arrearsref20_CheckDigit.l0 k n (wrap64 ((j : Int) + 1)))))) ?_)
    · simp only [arrearsref20_CheckDigit.l0]
      rw [if_pos (by omega)]; rfl
    · refine Ev.bind hw (f := fun k t128 => (if (Int.tmod (wrap64 (t128 + (j : Int))) 10) = 0 then (some ((j : Int), true)) else (arrearsref20_CheckDigit.l0 k n (wrap64 ((j : Int) + 1))))) ?_
      refine Ev.congr (fun k => ?_) h
      rw [wrI (by omega) (by omega), Int.tmod_eq_emod_of_nonneg (by omega), if_neg (by omega), wrN j (by omega)]
theorem ref_ev (n : Int) : Ev (fun k => arrearsref20_CheckDigit.f k n) (if okN n then (chk n, true) else (0, false)) := by
  by_cases h0 : n < 0
  · have e : okN n = false := by unfold okN; simp; omega
    rw [e]
    refine Ev.congr (f := fun k => arrearsref20_CheckDigit.j0 k n true) (fun k => ?_) (Ev.step (fun k => ?_) (Ev.now _))
    · unfold arrearsref20_CheckDigit.f; rw [if_pos h0]
    · simp only [arrearsref20_CheckDigit.j0]; rfl
  · by_cases h1 : n > 999999
    · have e : okN n = false := by unfold okN; simp; omega
      rw [e]
      refine Ev.congr (f := fun k => arrearsref20_CheckDigit.j0 k n true) (fun k => ?_) (Ev.step (fun k => ?_) (Ev.now _))
      · unfold arrearsref20_CheckDigit.f; rw [if_neg h0, decide_eq_true h1]
      · simp only [arrearsref20_CheckDigit.j0]; rfl
    · have e : okN n = true := by unfold okN; simp; omega
      rw [e, if_pos rfl]
      obtain ⟨m, rfl⟩ : ∃ m : Nat, n = m := ⟨n.toNat, by omega⟩
      have hch : 0 ≤ chk (m : Int) ∧ chk (m : Int) ≤ 9 := by unfold chk; omega
      have h := ref_loop m (by omega) (chk (m : Int)).toNat 0 (by omega)
      refine Ev.congr (f := fun k => arrearsref20_CheckDigit.j0 k m false) (fun k => ?_) (Ev.step (fun k => ?_) h)
      · unfold arrearsref20_CheckDigit.f; rw [if_neg h0, decide_eq_false h1]
      · simp only [arrearsref20_CheckDigit.j0]; rfl
def digitsB (s : ByteArray) : Bool := (bytesOf s).all fun c => decide (48 ≤ c ∧ c ≤ 57)
def validB (s : ByteArray) : Bool := decide (1 < s.size) && digitsB s && (lsum (behind (bytesOf s)) false % 10 == 0)
theorem digitsB_dig {s : ByteArray} (h : digitsB s = true) : Dig (behind (bytesOf s)) := by
  intro d hd
  simp only [behind, List.mem_reverse, List.mem_map] at hd
  obtain ⟨c, hc, rfl⟩ := hd
  have := List.all_eq_true.1 h c hc
  simp only [decide_eq_true_eq] at this
  omega
theorem all_loop (s : ByteArray) (hs : s.size ≤ 140737488351232) (d : Nat) : ∀ i : Nat, i + d = s.size →
    Ev (fun k => lockbox_allDigits.l0 k s s.size i) (((bytesOf s).drop i).all fun c => decide (48 ≤ c ∧ c ≤ 57)) := by
  have hn := bytes_length s
  induction d with
  | zero =>
    intro i h
    rw [List.drop_of_length_le (by omega), List.all_nil]
    refine Ev.step (fun k => ?_) (Ev.now true)
    simp only [lockbox_allDigits.l0]
    rw [if_neg (by omega)]
  | succ d ih =>
    intro i h
    have hi : i < (bytesOf s).length := by omega
    have e := bt_bytes s i hi
    rw [List.drop_eq_getElem_cons hi, List.all_cons, ← e]
    generalize hv : bt s (i : Int) = v
    by_cases c1 : v < 48
    · rw [show decide (48 ≤ v ∧ v ≤ 57) = false by simp; omega, Bool.false_and]
      refine Ev.step (fun k => ?_) (Ev.now false)
      simp only [lockbox_allDigits.l0]
      rw [if_pos (by omega), if_pos (by omega), if_pos (by omega), hv, if_pos c1]
    · by_cases c2 : v > 57
      · rw [show decide (48 ≤ v ∧ v ≤ 57) = false by simp; omega, Bool.false_and]
        refine Ev.step (fun k => ?_) (Ev.now false)
        simp only [lockbox_allDigits.l0]
        rw [if_pos (by omega), if_pos (by omega), if_pos (by omega), hv, if_neg c1, if_pos c2]
      · rw [show decide (48 ≤ v ∧ v ≤ 57) = true by simp; omega, Bool.true_and]
        refine Ev.step (fun k => ?_) (ih (i + 1) (by omega))
        simp only [lockbox_allDigits.l0]
        rw [if_pos (by omega), if_pos (by omega), if_pos (by omega), hv, if_neg c1, if_neg c2, wrN i (by omega)]
theorem valid_ev (s : ByteArray) (hs : s.size ≤ 140737488351232) : Ev (fun k => lockbox_Valid.f k s) (validB s) := by
  unfold validB
  by_cases h1 : 1 < s.size
  · rw [decide_eq_true h1, Bool.true_and]
    have ha : Ev (fun k => lockbox_allDigits.f k s) (digitsB s) := Ev.congr (fun k => rfl) (all_loop s hs s.size 0 (by omega))
    refine Ev.congr (f := fun k => (lockbox_allDigits.f k s).bind fun t129 => (if t129 = true then ((lockbox_luhn.f k s false).bind fun t130 => (some ((Int.tmod t130 10) == 0))) else (some false))) (fun k => ?_) (Ev.bind ha (f := fun k t129 => (if t129 = true then ((lockbox_luhn.f k s false).bind fun t130 => (some ((Int.tmod t130 10) == 0))) else (some false))) ?_)
    · show lockbox_Valid.f k s = _
      unfold lockbox_Valid.f
      rw [if_pos (by omega)]
    · cases hb : digitsB s with
      | false => simpa using Ev.now false
      | true =>
        have hd := digitsB_dig hb
        have hr := lsum_range _ false hd
        simp only [if_true, Bool.true_and]
        refine Ev.bind (luhn_ev s hs hd false) (f := fun k t130 => (some ((Int.tmod t130 10) == 0))) ?_
        rw [Int.tmod_eq_emod_of_nonneg hr.1]
        exact Ev.now _
  · rw [decide_eq_false h1, Bool.false_and]
    refine Ev.congr (fun k => ?_) (Ev.now false)
    show lockbox_Valid.f k s = _
    unfold lockbox_Valid.f
    rw [if_neg (by omega)]
end Go.Proofs.YtkjdmbbaacjpmaaDoor.DDigits
end
section
namespace Go.Proofs.YtkjdmbbaacjpmaaDoor.DDigits
open Go.RowKit Go.Proofs.YtkjdmbbaacjpmaaDoor.D Go.Proofs.YtkjdmbbaacjpmaaDoor.Num Go.Proofs.YtkjdmbbaacjpmaaDoorW.PrintWords Go.Proofs.YtkjdmbbaacjpmaaDoorW.PrintLast
def Tab (w : World) : Prop := Lib.TabIs Tryd.prog w "internal/strconv.uint64pow10" .u64 Lib.pow10Tab
def digitOf (n : Int) : Int := if okN n then chk n else 0
theorem ref_calls (n : Int) (w : World) :
    Calls Tryd.prog 10 #[.int .i64 n] w fun e w' => e = .returned (.tuple #[.int .i64 (digitOf n), .bool (okN n)]) ∧ Below w.heap.size w w' := by
  obtain ⟨k, hk⟩ := (ref_ev n).rounds
  refine arrearsref20_CheckDigit.calls k n (digitOf n) (okN n) w ?_
  rw [hk]; unfold digitOf; cases okN n <;> rfl
theorem valid_calls (s : ByteArray) (hs : s.size ≤ 140737488351232) (w : World) :
    Calls Tryd.prog 11 #[.string s] w fun e w' => e = .returned (.bool (validB s)) ∧ Drawn0 w w' := by
  obtain ⟨k, hk⟩ := (valid_ev s hs).rounds
  exact lockbox_Valid.calls k s _ w hk
end Go.Proofs.YtkjdmbbaacjpmaaDoor.DDigits
end
section
namespace Go.Proofs.YtkjdmbbaacjpmaaDoor.D
open Go.RowKit Go.Proofs.YtkjdmbbaacjpmaaDoorW.PrintWords Go.Proofs.YtkjdmbbaacjpmaaDoorW.PrintLast Go.Proofs.YtkjdmbbaacjpmaaDoorW.PrintMore
attribute [local go_sem] max2_int min2_int max_two min_two max_three min_three max_four min_four
set_option linter.unusedVariables false
set_option linter.unusedSimpArgs false
def calendar_Leap.f (a0 : Int) : Option (Bool) := if a0 < 1 then (some false) else (if a0 > 9999 then (some false) else (if (Int.tmod a0 4) = 0 then (if (Int.tmod a0 100) = 0 then (some ((Int.tmod a0 400) == 0)) else (some true)) else (some false)))
set_option maxHeartbeats 8000000 in
set_option maxRecDepth 100000 in
theorem calendar_Leap.calls (a0 : Int) (r : Bool) (w : World) (h : calendar_Leap.f a0 = some r) :
    Calls Tryd.prog 62 #[.int .i64 a0] w fun e w' => e = .returned (.bool r) ∧ Drawn0 w w' := by
  have H : (if a0 < 1 then (some false) else (if a0 > 9999 then (some false) else (if (Int.tmod a0 4) = 0 then (if (Int.tmod a0 100) = 0 then (some ((Int.tmod a0 400) == 0)) else (some true)) else (some false)))) = some r := h
  clear h
  by_cases c2 : a0 < 1
  · rw [if_pos c2] at H
    have c2b0 : decide (a0 < 1) = true := decide_eq_true c2
    clear c2
    obtain rfl := Option.some.inj H
    go_enter Tryd.func62, Tryd.ntmps62
    go_wp2
    go_ret
    exact ⟨by first | rfl | (simp; done) | (simp [*]; done), by repeat (first | exact Drawn0.refl _ | apply Drawn0.step)⟩
  · rw [if_neg c2] at H
    have c2b0 : decide (a0 < 1) = false := decide_eq_false c2
    clear c2
    by_cases c3 : a0 > 9999
    · rw [if_pos c3] at H
      have c3b0 : decide (9999 < a0) = true := decide_eq_true c3
      clear c3
      obtain rfl := Option.some.inj H
      go_enter Tryd.func62, Tryd.ntmps62
      go_wp2
      go_ret
      exact ⟨by first | rfl | (simp; done) | (simp [*]; done), by repeat (first | exact Drawn0.refl _ | apply Drawn0.step)⟩
    · rw [if_neg c3] at H
      have c3b0 : decide (9999 < a0) = false := decide_eq_false c3
      clear c3
      by_cases c4 : (Int.tmod a0 4) = 0
      · rw [if_pos c4] at H
        have c4b0 : ((Int.tmod a0 4) == 0) = true := beq_iff_eq.mpr c4
        have c4b1 : ((Int.tmod a0 4) != 0) = false := bne_eq_false_iff_eq.mpr c4
        clear c4
        by_cases c5 : (Int.tmod a0 100) = 0
        · rw [if_pos c5] at H
          have c5b0 : ((Int.tmod a0 100) == 0) = true := beq_iff_eq.mpr c5
          have c5b1 : ((Int.tmod a0 100) != 0) = false := bne_eq_false_iff_eq.mpr c5
          clear c5
          obtain rfl := Option.some.inj H
          go_enter Tryd.func62, Tryd.ntmps62
          go_wp2
          go_ret
          exact ⟨by first | rfl | (simp; done) | (simp [*]; done), by repeat (first | exact Drawn0.refl _ | apply Drawn0.step)⟩
        · rw [if_neg c5] at H
          have c5b0 : ((Int.tmod a0 100) == 0) = false := beq_eq_false_iff_ne.mpr c5
          have c5b1 : ((Int.tmod a0 100) != 0) = true := bne_iff_ne.mpr c5
          obtain rfl := Option.some.inj H
          go_enter Tryd.func62, Tryd.ntmps62
          go_wp2
          go_ret
          exact ⟨by first | rfl | (simp; done) | (simp [*]; done), by repeat (first | exact Drawn0.refl _ | apply Drawn0.step)⟩
      · rw [if_neg c4] at H
        have c4b0 : ((Int.tmod a0 4) == 0) = false := beq_eq_false_iff_ne.mpr c4
        have c4b1 : ((Int.tmod a0 4) != 0) = true := bne_iff_ne.mpr c4
        obtain rfl := Option.some.inj H
        go_enter Tryd.func62, Tryd.ntmps62
        go_wp2
        go_ret
        exact ⟨by first | rfl | (simp; done) | (simp [*]; done), by repeat (first | exact Drawn0.refl _ | apply Drawn0.step)⟩
end Go.Proofs.YtkjdmbbaacjpmaaDoor.D
end
section
namespace Go.Proofs.YtkjdmbbaacjpmaaDoor.C
open Go.RowKit Go.Proofs.YtkjdmbbaacjpmaaDoorW.PrintWords Go.Proofs.YtkjdmbbaacjpmaaDoorW.PrintLast
def aheadTab : List Int := [0, 31, 59, 90, 120, 151, 181, 212, 243, 273, 304, 334, 365]
structure Tab (w : World) : Prop where
  pow : DDigits.Tab w
  ahead : Lib.TabIs Tryd.prog w "arrears/calendar.ahead" .i64 aheadTab
theorem var_below {P : Program} {name : String} {w W : World} {cs : Array Value} (h : w.var? P name = some cs) (hb : Below w.heap.size w W) : W.var? P name = some cs := by
  unfold World.var? at h ⊢
  cases hg : P.globalNamed name with
  | none => rw [hg] at h; exact h
  | some g =>
    simp only [hg, Option.bind_some] at h ⊢
    have hl : g < w.heap.size := by
      rcases Nat.lt_or_ge g w.heap.size with hl | hl
      · exact hl
      · simp [Array.getElem?_eq_none hl] at h
    rw [hb.block g hl]
    exact h
theorem tab_below {w W : World} (h : Tab w) (hb : Below w.heap.size w W) : Tab W := ⟨var_below h.pow hb, var_below h.ahead hb⟩
theorem tab_auto {w W : World} (h : Aside0 (Tab w)) (hb : Below w.heap.size w W) : Aside0 (Tab W) := ⟨tab_below h.out hb⟩
theorem tab_drawn {w : World} (h : Aside0 (Tab w)) (n : Nat) : Aside0 (Tab (w.drewN n)) := ⟨tab_below h.out ⟨rfl, rfl, rfl, Nat.le_refl _, fun _ _ => rfl⟩⟩
def leapB (y : Int) : Bool := decide (1 ≤ y ∧ y ≤ 9999 ∧ y % 4 = 0 ∧ (y % 100 ≠ 0 ∨ y % 400 = 0))
theorem leap_f (y : Int) : D.calendar_Leap.f y = some (leapB y) := by
  unfold D.calendar_Leap.f leapB
  by_cases h1 : y < 1
  · rw [if_pos h1, decide_eq_false (by omega)]
  · rw [if_neg h1]
    by_cases h2 : y > 9999
    · rw [if_pos h2, decide_eq_false (by omega)]
    · rw [if_neg h2]
      have e4 : Int.tmod y 4 = y % 4 := Int.tmod_eq_emod_of_nonneg (by omega)
      have e100 : Int.tmod y 100 = y % 100 := Int.tmod_eq_emod_of_nonneg (by omega)
      have e400 : Int.tmod y 400 = y % 400 := Int.tmod_eq_emod_of_nonneg (by omega)
      rw [e4, e100, e400]
      by_cases h3 : y % 4 = 0
      · rw [if_pos h3]
        by_cases h4 : y % 100 = 0
        · rw [if_pos h4]
          congr 1
          rw [Bool.eq_iff_iff, beq_iff_eq, decide_eq_true_eq]; omega
        · rw [if_neg h4, decide_eq_true (by omega)]
      · rw [if_neg h3, decide_eq_false (by omega)]
theorem leap_calls (y : Int) (w : World) : Calls Tryd.prog 62 #[.int .i64 y] w fun e w' => e = .returned (.bool (leapB y)) ∧ Drawn0 w w' :=
  D.calendar_Leap.calls y _ w (leap_f y)
def startOf (y m : Int) : Int := aheadTab.getD (m - 1).toNat 0 + (if 2 < m ∧ leapB y = true then 1 else 0)
def calendar_start.f (a0 a1 : Int) : Option Int := if 1 ≤ a1 ∧ a1 ≤ 13 then some (startOf a0 a1) else none
theorem aheadTab_range (j : Nat) : 0 ≤ aheadTab.getD j 0 ∧ aheadTab.getD j 0 ≤ 365 := by
  rcases Nat.lt_or_ge j 13 with h | h
  · have : j = 0 ∨ j = 1 ∨ j = 2 ∨ j = 3 ∨ j = 4 ∨ j = 5 ∨ j = 6 ∨ j = 7 ∨ j = 8 ∨ j = 9 ∨ j = 10 ∨ j = 11 ∨ j = 12 := by omega
    rcases this with rfl | rfl | rfl | rfl | rfl | rfl | rfl | rfl | rfl | rfl | rfl | rfl | rfl <;> decide
  · rw [List.getD_eq_getElem?_getD, List.getElem?_eq_none (by exact h)]; decide
set_option maxRecDepth 100000 in
theorem start_lo (y : Int) (j : Nat) (hj : j < 2) (v : Int) (w : World) (hc : w.cell? ⟨1, j, none⟩ = some (.int .i64 v)) :
    Calls Tryd.prog 46 #[.int .i64 y, .int .i64 ((j : Int) + 1)] w fun e w' => e = .returned (.int .i64 v) ∧ Drawn0 w w' := by
  have b1 : decide (2 < (j : Int) + 1) = false := decide_eq_false (by omega)
  have e1 : (j : Int) + 1 - 1 = j := by omega
  go_enter Tryd.func46, Tryd.ntmps46
  go_wp2
  go_ret
  exact ⟨rfl, Drawn0.refl _⟩
set_option maxRecDepth 100000 in
theorem start_hi (y : Int) (j : Nat) (hj : 2 ≤ j) (hj' : j < 13) (v : Int) (hv : 0 ≤ v) (hv2 : v ≤ 365) (w : World) (hc : w.cell? ⟨1, j, none⟩ = some (.int .i64 v)) (b : Bool) (hb : leapB y = b) :
    Calls Tryd.prog 46 #[.int .i64 y, .int .i64 ((j : Int) + 1)] w fun e w' => e = .returned (.int .i64 (v + (if b = true then 1 else 0))) ∧ Drawn0 w w' := by
  have b1 : decide (2 < (j : Int) + 1) = true := decide_eq_true (by omega)
  have e1 : (j : Int) + 1 - 1 = j := by omega
  have HL := leap_calls y
  rw [hb] at HL
  have HL := Aside0.mk HL
  clear hb
  cases b
  all_goals
    go_enter Tryd.func46, Tryd.ntmps46
    go_wp2_with (go_at_call 62; (with_reducible refine (HL.out _).mono ?_); rintro e w' ⟨rfl, ⟨nd, rfl⟩⟩)
    go_ret
    exact ⟨by first | rfl | simp, ⟨⟨_, rfl⟩⟩⟩
theorem calendar_start.calls (a0 a1 r : Int) (w : World) (h : calendar_start.f a0 a1 = some r) (HT : Aside0 (Tab w) := by first | assumption | exact tab_auto (by assumption) (by repeat (first | (with_reducible first | (with_reducible exact Aside0.out (by assumption)) | apply below_alloc | apply pw_below_drewN | apply below_drew1) | (refine below_set ?_ (Aside0.out (by assumption))))) | exact tab_drawn (by assumption) _) :
    Calls Tryd.prog 46 #[.int .i64 a0, .int .i64 a1] w fun e w' => e = .returned (.int .i64 r) ∧ Drawn0 w w' := by
  unfold calendar_start.f at h
  split at h
  case isFalse => cases h
  case isTrue hc =>
    obtain rfl := Option.some.inj h
    obtain ⟨j, rfl⟩ : ∃ j : Nat, a1 = (j : Int) + 1 := ⟨(a1 - 1).toNat, by omega⟩
    have hj : j < 13 := by omega
    have hcell := HT.out.ahead.cell (g := 1) (by kernel_rfl) j hj
    have hr := aheadTab_range j
    unfold startOf
    rw [show ((j : Int) + 1 - 1).toNat = j by omega]
    by_cases h2 : j < 2
    · rw [if_neg (by omega), Int.add_zero]
      exact start_lo a0 j h2 _ w hcell
    · have := start_hi a0 j (by omega) hj _ hr.1 hr.2 w hcell _ rfl
      rw [show (if 2 < (j : Int) + 1 ∧ leapB a0 = true then (1 : Int) else 0) = (if leapB a0 = true then 1 else 0) by
        by_cases hb : leapB a0 = true
        · rw [if_pos ⟨by omega, hb⟩, if_pos hb]
        · rw [if_neg (fun hc => hb hc.2), if_neg hb]]
      exact this
end Go.Proofs.YtkjdmbbaacjpmaaDoor.C
end
section
namespace Go.Proofs.YtkjdmbbaacjpmaaDoor.C
open Go.RowKit Go.Proofs.YtkjdmbbaacjpmaaDoorW.PrintWords Go.Proofs.YtkjdmbbaacjpmaaDoorW.PrintLast Go.Proofs.YtkjdmbbaacjpmaaDoorW.PrintMore
attribute [local go_sem] max2_int min2_int max_two min_two max_three min_three max_four min_four
set_option linter.unusedVariables false
set_option linter.unusedSimpArgs false
def errW : Option Int → Value
  | none => .nilIface
  | some c => .iface 0 (.int .i64 c)
theorem errW_none : errW none = .nilIface := rfl
theorem errW_some (c : Int) : errW (some c) = .iface 0 (.int .i64 c) := rfl
end Go.Proofs.YtkjdmbbaacjpmaaDoor.C
end
section
namespace Go.Proofs.YtkjdmbbaacjpmaaDoor.C
open Go.RowKit Go.Proofs.YtkjdmbbaacjpmaaDoorW.PrintWords Go.Proofs.YtkjdmbbaacjpmaaDoorW.PrintLast Go.Proofs.YtkjdmbbaacjpmaaDoorW.PrintMore
attribute [local go_sem] max2_int min2_int max_two min_two max_three min_three max_four min_four
set_option linter.unusedVariables false
set_option linter.unusedSimpArgs false
mutual
def calendar_Civil.j0 : Nat → Int → Bool → Option (Int × Int × Int × Bool)
  | 0, _, _ => none
  | k + 1, x0, x15 => if x15 = true then (some (0, 0, 0, false)) else (calendar_Civil.l0 k (wrap64 ((Int.tmod (wrap64 ((Int.tmod (wrap64 (x0 - 1)) 146097) - (wrap64 ((mn (wrap64 (Int.tdiv (Int.tmod (wrap64 (x0 - 1)) 146097) 36524)) 3) * 36524)))) 1461) - (wrap64 ((mn (wrap64 (Int.tdiv (Int.tmod (wrap64 ((Int.tmod (wrap64 (x0 - 1)) 146097) - (wrap64 ((mn (wrap64 (Int.tdiv (Int.tmod (wrap64 (x0 - 1)) 146097) 36524)) 3) * 36524)))) 1461) 365)) 3) * 365)))) (wrap64 ((wrap64 ((wrap64 (400 * (wrap64 (Int.tdiv (wrap64 (x0 - 1)) 146097)))) + 1)) + (wrap64 ((wrap64 ((wrap64 (100 * (mn (wrap64 (Int.tdiv (Int.tmod (wrap64 (x0 - 1)) 146097) 36524)) 3))) + (wrap64 (4 * (wrap64 (Int.tdiv (wrap64 ((Int.tmod (wrap64 (x0 - 1)) 146097) - (wrap64 ((mn (wrap64 (Int.tdiv (Int.tmod (wrap64 (x0 - 1)) 146097) 36524)) 3) * 36524)))) 1461)))))) + (mn (wrap64 (Int.tdiv (Int.tmod (wrap64 ((Int.tmod (wrap64 (x0 - 1)) 146097) - (wrap64 ((mn (wrap64 (Int.tdiv (Int.tmod (wrap64 (x0 - 1)) 146097) 36524)) 3) * 36524)))) 1461) 365)) 3))))) 1)
def calendar_Civil.l0 : Nat → Int → Int → Int → Option (Int × Int × Int × Bool)
  | 0, _, _, _ => none
  | k + 1, x4, x5, x9 => if x9 < 12 then ((calendar_start.f x5 (wrap64 (x9 + 1))).bind fun t102 => (if x4 ≥ t102 then (calendar_Civil.l0 k x4 x5 (wrap64 (x9 + 1))) else ((calendar_start.f x5 x9).bind fun t103 => (some (x5, x9, wrap64 ((wrap64 (x4 - t103)) + 1), true))))) else ((calendar_start.f x5 x9).bind fun t104 => (some (x5, x9, wrap64 ((wrap64 (x4 - t104)) + 1), true)))
end
def calendar_Civil.f (k : Nat) (a0 : Int) : Option (Int × Int × Int × Bool) := if a0 < 1 then (calendar_Civil.j0 k a0 true) else (calendar_Civil.j0 k a0 (decide (a0 > 3652059)))
theorem calendar_Civil.mono_l : ∀ k, (∀ y0 y1, LeO (calendar_Civil.j0 k y0 y1) (calendar_Civil.j0 (k + 1) y0 y1)) ∧ (∀ y0 y1 y2, LeO (calendar_Civil.l0 k y0 y1 y2) (calendar_Civil.l0 (k + 1) y0 y1 y2))
  | 0 => ⟨fun _ _ r h => by simp [calendar_Civil.j0] at h, fun _ _ _ r h => by simp [calendar_Civil.l0] at h⟩
  | k + 1 => by
    obtain ⟨ih0, ih1⟩ := calendar_Civil.mono_l k
    refine ⟨?_, ?_⟩
    · intro y0 y1
      unfold calendar_Civil.j0
      repeat' first
      | (with_reducible exact ih0 _ _)
      | (with_reducible exact ih1 _ _ _)
      | (with_reducible exact LeO.refl _)
      | (with_reducible exact LeO.none _)
      | (with_reducible refine LeO.ite ?_ ?_)
      | (with_reducible refine LeO.bind ?_ (fun _ => ?_))
      | exact ih0 _ _
      | exact ih1 _ _ _
      | exact LeO.none _
      | refine LeO.ite ?_ ?_
      | refine LeO.bind ?_ (fun _ => ?_)
    · intro y0 y1 y2
      unfold calendar_Civil.l0
      repeat' first
      | (with_reducible exact ih0 _ _)
      | (with_reducible exact ih1 _ _ _)
      | (with_reducible exact LeO.refl _)
      | (with_reducible exact LeO.none _)
      | (with_reducible refine LeO.ite ?_ ?_)
      | (with_reducible refine LeO.bind ?_ (fun _ => ?_))
      | exact ih0 _ _
      | exact ih1 _ _ _
      | exact LeO.none _
      | refine LeO.ite ?_ ?_
      | refine LeO.bind ?_ (fun _ => ?_)
theorem calendar_Civil.mono : ∀ a0 k, LeO (calendar_Civil.f k a0) (calendar_Civil.f (k + 1) a0) := by
  intro a0 k
  obtain ⟨ih0, ih1⟩ := calendar_Civil.mono_l k
  unfold calendar_Civil.f
  repeat' first
      | (with_reducible exact ih0 _ _)
      | (with_reducible exact ih1 _ _ _)
      | (with_reducible exact LeO.refl _)
      | (with_reducible exact LeO.none _)
      | (with_reducible refine LeO.ite ?_ ?_)
      | (with_reducible refine LeO.bind ?_ (fun _ => ?_))
      | exact ih0 _ _
      | exact ih1 _ _ _
      | exact LeO.none _
      | refine LeO.ite ?_ ?_
      | refine LeO.bind ?_ (fun _ => ?_)
set_option maxHeartbeats 8000000 in
set_option maxRecDepth 100000 in
theorem calendar_Civil.calls (k : Nat) (a0 : Int) (r1 : Int) (r2 : Int) (r3 : Int) (r4 : Bool) (w : World) (h : calendar_Civil.f k a0 = some (r1, r2, r3, r4)) (HT : Aside0 (Tab w) := by first | assumption | exact tab_auto (by assumption) (by repeat (first | (with_reducible first | (with_reducible exact Aside0.out (by assumption)) | apply below_alloc | apply pw_below_drewN | apply below_drew1) | (refine below_set ?_ (Aside0.out (by assumption))))) | exact tab_drawn (by assumption) _) :
    Calls Tryd.prog 33 #[.int .i64 a0] w fun e w' => e = .returned (.tuple #[.agg #[.int .i64 r1, .int .i64 r2, .int .i64 r3], .bool r4]) ∧ Below w.heap.size w w' := by
  have hu59 := Tryd.underlying59
  have HB := Aside0.mk (Below.refl w.heap.size w)
  have H : (if a0 < 1 then (calendar_Civil.j0 k a0 true) else (calendar_Civil.j0 k a0 (decide (a0 > 3652059)))) = some (r1, r2, r3, r4) := h
  clear h
  have HC2 := Aside0.mk H
  clear H
  go_enter Tryd.func33, Tryd.ntmps33
  go_upto_region 1 with (first | ((with_reducible refine gate_dst (N := 2) rfl ?_); refine box_event ?hg (N := 2) ?hd (cs := #[.int .i64 0, .int .i64 0, .int .i64 0]) (t := 59) ?hr ?_; (case hd => rfl); (case hg => rfl); (case hr => first | (go_simp; done) | (go_simp; rfl)); intro gb101 hg w3 hbox hb; have n0_ := Aside0.mk (below_step (by repeat (first | (with_reducible first | exact HB.out | apply below_alloc | apply pw_below_drewN | apply below_drew1) | exact HB.out)) hb); have n1_ := Aside0.mk (hbox); have n2_ := Aside0.mk ((by rw [hg]; exact (below_size (by repeat (first | (with_reducible first | exact HB.out | apply below_alloc | apply pw_below_drewN | apply below_drew1) | exact HB.out))) : w.heap.size ≤ gb101)); have n3_ := Aside0.mk ((by rw [hg]; exact (below_size (by repeat (first | (with_reducible first | exact HB.out | apply below_alloc | apply pw_below_drewN | apply below_drew1) | exact HB.out))) : w.heap.size ≤ gb101)); clear HB; have HB := n0_; have BK101 := n1_; have GW101 := n2_; have GE101 := n3_; clear n0_ n1_ n2_ n3_; clear hb hbox hg))
  (try simp only [Act.put, List.setIfInBounds_toArray, List.set_cons_zero, List.set_cons_succ])
  go_cut [15] (fun v15 wc => ∃ (kq : Nat) (x15_1 : Bool), v15 = .bool x15_1 ∧ Aside0 (calendar_Civil.j0 kq a0 x15_1 = some (r1, r2, r3, r4)) ∧ Aside0 (kq ≤ k) ∧ Aside0 (wc.heap[gb101]? = some (.cells #[.int .i64 0, .int .i64 0, .int .i64 0] 59 (0, 0))) ∧ Aside0 (Below w.heap.size w wc))
  case first =>
    have H := HC2.out
    clear HC2
    by_cases c4 : a0 < 1
    · rw [if_pos c4] at H
      have c4b0 : decide (a0 < 1) = true := decide_eq_true c4
      clear c4
      (first | rw [c4b0] | (simp only [i64_w, i32_w]; rw [c4b0]) | skip)
      have H' := Aside0.mk H
      clear H
      go_wp2
      go_meet
      case rel => exact ⟨_, (true), (by first | rfl | (simp; done) | (simp [*]; done)), H', ⟨by first | omega | exact Nat.le_refl _⟩, ⟨by (with_reducible repeat (first | refine blk_drewN ?_ _ | refine blk_drew ?_ | refine blk_alloc ?_ _)); exact BK101.out⟩, ⟨by repeat (first | (with_reducible first | exact HB.out | apply below_alloc | apply pw_below_drewN | apply below_drew1 | refine below_set ?_ GE101.out) | exact HB.out)⟩⟩
    · rw [if_neg c4] at H
      have c4b0 : decide (a0 < 1) = false := decide_eq_false c4
      clear c4
      (first | rw [c4b0] | (simp only [i64_w, i32_w]; rw [c4b0]) | skip)
      have H' := Aside0.mk H
      clear H
      go_wp2
      go_meet
      case rel => exact ⟨_, (decide (a0 > 3652059)), (by first | rfl | (simp; done) | (simp [*]; done)), H', ⟨by first | omega | exact Nat.le_refl _⟩, ⟨by (with_reducible repeat (first | refine blk_drewN ?_ _ | refine blk_drew ?_ | refine blk_alloc ?_ _)); exact BK101.out⟩, ⟨by repeat (first | (with_reducible first | exact HB.out | apply below_alloc | apply pw_below_drewN | apply below_drew1 | refine below_set ?_ GE101.out) | exact HB.out)⟩⟩
  case rest =>
    clear HC2
    try clear p2
    try clear c3
    try clear c4
    try clear c4b0
    obtain ⟨kq, x15_1, rfl, HA, HJ1, BK101, HB⟩ := hcut
    cases kq with
    | zero => exact absurd HA.out (by simp [calendar_Civil.j0])
    | succ kj1 =>
      have H := HA.out
      clear HA
      simp only [calendar_Civil.j0] at H
      by_cases c5 : x15_1 = true
      · subst c5
        have H1 : (some (0, 0, 0, false)) = some (r1, r2, r3, r4) := by rw [if_pos rfl] at H; exact H
        clear H
        have H := H1
        clear H1
        simp only [Option.some.injEq, Prod.mk.injEq] at H
        obtain ⟨rfl, rfl, rfl, rfl⟩ := H
        have hcz6_0 : wc.cell? ⟨gb101, 0, none⟩ = some (.int .i64 0) := (blk_cell BK101.out 0).trans rfl
        have hcz6_1 : wc.cell? ⟨gb101, 1, none⟩ = some (.int .i64 0) := (blk_cell BK101.out 1).trans rfl
        have hcz6_2 : wc.cell? ⟨gb101, 2, none⟩ = some (.int .i64 0) := (blk_cell BK101.out 2).trans rfl
        have hfz6_0 := blk_frozen BK101.out 0
        have hfz6_1 := blk_frozen BK101.out 1
        have hfz6_2 := blk_frozen BK101.out 2
        go_wp2
        refine bodyPost_ret (results_ct rfl _ _ gb101 59 #[.int .i64 0, .int .i64 0, .int .i64 0] (0, 0) _ rfl (by (with_reducible repeat (first | refine blk_drewN ?_ _ | refine blk_drew ?_ | refine blk_alloc ?_ _)); refine blk_put (cs := #[.int .i64 0, .int .i64 0, .int .i64 0]) ?_ 2 _ rfl; (with_reducible repeat (first | refine blk_drewN ?_ _ | refine blk_drew ?_ | refine blk_alloc ?_ _)); refine blk_put (cs := #[.int .i64 0, .int .i64 0, .int .i64 0]) ?_ 1 _ rfl; (with_reducible repeat (first | refine blk_drewN ?_ _ | refine blk_drew ?_ | refine blk_alloc ?_ _)); refine blk_put (cs := #[.int .i64 0, .int .i64 0, .int .i64 0]) ?_ 0 _ rfl; (with_reducible repeat (first | refine blk_drewN ?_ _ | refine blk_drew ?_ | refine blk_alloc ?_ _)); exact BK101.out) Tryd.underlying59 rfl (by kernel_rfl)) rfl ?_
        exact ⟨by first | rfl | (simp [errW_none, errW_some] <;> rfl) | (simp [*, errW_none, errW_some] <;> rfl), by repeat (first | (with_reducible first | exact HB.out | apply below_alloc | apply pw_below_drewN | apply below_drew1 | refine below_set ?_ GE101.out) | exact HB.out)⟩
      · replace c5 := Bool.eq_false_iff.mpr c5
        subst c5
        have H1 : (calendar_Civil.l0 kj1 (wrap64 ((Int.tmod (wrap64 ((Int.tmod (wrap64 (a0 - 1)) 146097) - (wrap64 ((mn (wrap64 (Int.tdiv (Int.tmod (wrap64 (a0 - 1)) 146097) 36524)) 3) * 36524)))) 1461) - (wrap64 ((mn (wrap64 (Int.tdiv (Int.tmod (wrap64 ((Int.tmod (wrap64 (a0 - 1)) 146097) - (wrap64 ((mn (wrap64 (Int.tdiv (Int.tmod (wrap64 (a0 - 1)) 146097) 36524)) 3) * 36524)))) 1461) 365)) 3) * 365)))) (wrap64 ((wrap64 ((wrap64 (400 * (wrap64 (Int.tdiv (wrap64 (a0 - 1)) 146097)))) + 1)) + (wrap64 ((wrap64 ((wrap64 (100 * (mn (wrap64 (Int.tdiv (Int.tmod (wrap64 (a0 - 1)) 146097) 36524)) 3))) + (wrap64 (4 * (wrap64 (Int.tdiv (wrap64 ((Int.tmod (wrap64 (a0 - 1)) 146097) - (wrap64 ((mn (wrap64 (Int.tdiv (Int.tmod (wrap64 (a0 - 1)) 146097) 36524)) 3) * 36524)))) 1461)))))) + (mn (wrap64 (Int.tdiv (Int.tmod (wrap64 ((Int.tmod (wrap64 (a0 - 1)) 146097) - (wrap64 ((mn (wrap64 (Int.tdiv (Int.tmod (wrap64 (a0 - 1)) 146097) 36524)) 3) * 36524)))) 1461) 365)) 3))))) 1) = some (r1, r2, r3, r4) := by rw [if_neg (show ¬ (false = true) by decide)] at H; exact H
        clear H
        have H := H1
        clear H1
        obtain ⟨ji7, hji7⟩ : ∃ j_ : Int, (mn (wrap64 (Int.tdiv (Int.tmod (wrap64 (a0 - 1)) 146097) 36524)) 3) = j_ := ⟨_, rfl⟩
        replace H : (calendar_Civil.l0 kj1 (wrap64 ((Int.tmod (wrap64 ((Int.tmod (wrap64 (a0 - 1)) 146097) - (wrap64 ((ji7) * 36524)))) 1461) - (wrap64 ((mn (wrap64 (Int.tdiv (Int.tmod (wrap64 ((Int.tmod (wrap64 (a0 - 1)) 146097) - (wrap64 ((ji7) * 36524)))) 1461) 365)) 3) * 365)))) (wrap64 ((wrap64 ((wrap64 (400 * (wrap64 (Int.tdiv (wrap64 (a0 - 1)) 146097)))) + 1)) + (wrap64 ((wrap64 ((wrap64 (100 * (ji7))) + (wrap64 (4 * (wrap64 (Int.tdiv (wrap64 ((Int.tmod (wrap64 (a0 - 1)) 146097) - (wrap64 ((ji7) * 36524)))) 1461)))))) + (mn (wrap64 (Int.tdiv (Int.tmod (wrap64 ((Int.tmod (wrap64 (a0 - 1)) 146097) - (wrap64 ((ji7) * 36524)))) 1461) 365)) 3))))) 1) = some (r1, r2, r3, r4) := by first | (rw [hji7] at H; exact H) | (simp only [hji7] at H ⊢; exact H)
        have hji7_ : (if 3 < (wrap64 (Int.tdiv (Int.tmod (wrap64 (a0 - 1)) 146097) 36524)) then 3 else (wrap64 (Int.tdiv (Int.tmod (wrap64 (a0 - 1)) 146097) 36524))) = ji7 := hji7
        obtain ⟨ji8, hji8⟩ : ∃ j_ : Int, (mn (wrap64 (Int.tdiv (Int.tmod (wrap64 ((Int.tmod (wrap64 (a0 - 1)) 146097) - (wrap64 ((ji7) * 36524)))) 1461) 365)) 3) = j_ := ⟨_, rfl⟩
        replace H : (calendar_Civil.l0 kj1 (wrap64 ((Int.tmod (wrap64 ((Int.tmod (wrap64 (a0 - 1)) 146097) - (wrap64 ((ji7) * 36524)))) 1461) - (wrap64 ((ji8) * 365)))) (wrap64 ((wrap64 ((wrap64 (400 * (wrap64 (Int.tdiv (wrap64 (a0 - 1)) 146097)))) + 1)) + (wrap64 ((wrap64 ((wrap64 (100 * (ji7))) + (wrap64 (4 * (wrap64 (Int.tdiv (wrap64 ((Int.tmod (wrap64 (a0 - 1)) 146097) - (wrap64 ((ji7) * 36524)))) 1461)))))) + (ji8))))) 1) = some (r1, r2, r3, r4) := by first | (rw [hji8] at H; exact H) | (simp only [hji8] at H ⊢; exact H)
        have hji8_ : (if 3 < (wrap64 (Int.tdiv (Int.tmod (wrap64 ((Int.tmod (wrap64 (a0 - 1)) 146097) - (wrap64 ((ji7) * 36524)))) 1461) 365)) then 3 else (wrap64 (Int.tdiv (Int.tmod (wrap64 ((Int.tmod (wrap64 (a0 - 1)) 146097) - (wrap64 ((ji7) * 36524)))) 1461) 365))) = ji8 := hji8
        have H' := Aside0.mk H
        clear H
        go_wp2
        go_loopg [9] kj1 (fun kq v9 w' => ∃ (x9_2 : Int), v9 = .int .i64 x9_2 ∧ Aside0 (calendar_Civil.l0 kq (wrap64 ((Int.tmod (wrap64 ((Int.tmod (wrap64 (a0 - 1)) 146097) - (wrap64 ((ji7) * 36524)))) 1461) - (wrap64 ((ji8) * 365)))) (wrap64 ((wrap64 ((wrap64 (400 * (wrap64 (Int.tdiv (wrap64 (a0 - 1)) 146097)))) + 1)) + (wrap64 ((wrap64 ((wrap64 (100 * (ji7))) + (wrap64 (4 * (wrap64 (Int.tdiv (wrap64 ((Int.tmod (wrap64 (a0 - 1)) 146097) - (wrap64 ((ji7) * 36524)))) 1461)))))) + (ji8))))) x9_2 = some (r1, r2, r3, r4)) ∧ Aside0 (kq ≤ kj1) ∧ Aside0 (w'.heap[gb101]? = some (.cells #[.int .i64 0, .int .i64 0, .int .i64 0] 59 (0, 0))) ∧ Aside0 (Below w.heap.size w w'))
        case atStart => exact ⟨(1), (by first | rfl | (simp; done) | (simp [*]; done)), H', ⟨Nat.le_refl _⟩, ⟨by (with_reducible repeat (first | refine blk_drewN ?_ _ | refine blk_drew ?_ | refine blk_alloc ?_ _)); exact BK101.out⟩, ⟨by repeat (first | (with_reducible first | exact HB.out | apply below_alloc | apply pw_below_drewN | apply below_drew1 | refine below_set ?_ GE101.out) | exact HB.out)⟩⟩
        case round =>
          clear H'
          try clear p2
          try clear c3
          try clear c4
          try clear c4b0
          try clear c5
          try clear p6
          try clear hcz6_0
          try clear hcz6_1
          try clear hcz6_2
          try clear hfz6_0
          try clear hfz6_1
          try clear hfz6_2
          try clear p2
          obtain ⟨x9_2, rfl, HA, HK2, BK101, HB⟩ := hrel
          cases gk with
          | zero => exact absurd HA.out (by simp [calendar_Civil.l0])
          | succ k2 =>
            have H := HA.out
            clear HA
            simp only [calendar_Civil.l0] at H
            by_cases c9 : x9_2 < 12
            · rw [if_pos c9] at H
              have c9b0 : decide (x9_2 < 12) = true := decide_eq_true c9
              clear c9
              replace H := Option.bind_eq_some_iff.mp H
              obtain ⟨t102, A100, H⟩ := H
              replace H : (if (wrap64 ((Int.tmod (wrap64 ((Int.tmod (wrap64 (a0 - 1)) 146097) - (wrap64 ((ji7) * 36524)))) 1461) - (wrap64 ((ji8) * 365)))) ≥ t102 then (calendar_Civil.l0 k2 (wrap64 ((Int.tmod (wrap64 ((Int.tmod (wrap64 (a0 - 1)) 146097) - (wrap64 ((ji7) * 36524)))) 1461) - (wrap64 ((ji8) * 365)))) (wrap64 ((wrap64 ((wrap64 (400 * (wrap64 (Int.tdiv (wrap64 (a0 - 1)) 146097)))) + 1)) + (wrap64 ((wrap64 ((wrap64 (100 * (ji7))) + (wrap64 (4 * (wrap64 (Int.tdiv (wrap64 ((Int.tmod (wrap64 (a0 - 1)) 146097) - (wrap64 ((ji7) * 36524)))) 1461)))))) + (ji8))))) (wrap64 (x9_2 + 1))) else ((calendar_start.f (wrap64 ((wrap64 ((wrap64 (400 * (wrap64 (Int.tdiv (wrap64 (a0 - 1)) 146097)))) + 1)) + (wrap64 ((wrap64 ((wrap64 (100 * (ji7))) + (wrap64 (4 * (wrap64 (Int.tdiv (wrap64 ((Int.tmod (wrap64 (a0 - 1)) 146097) - (wrap64 ((ji7) * 36524)))) 1461)))))) + (ji8))))) x9_2).bind fun t103 => (some ((wrap64 ((wrap64 ((wrap64 (400 * (wrap64 (Int.tdiv (wrap64 (a0 - 1)) 146097)))) + 1)) + (wrap64 ((wrap64 ((wrap64 (100 * (ji7))) + (wrap64 (4 * (wrap64 (Int.tdiv (wrap64 ((Int.tmod (wrap64 (a0 - 1)) 146097) - (wrap64 ((ji7) * 36524)))) 1461)))))) + (ji8))))), x9_2, wrap64 ((wrap64 ((wrap64 ((Int.tmod (wrap64 ((Int.tmod (wrap64 (a0 - 1)) 146097) - (wrap64 ((ji7) * 36524)))) 1461) - (wrap64 ((ji8) * 365)))) - t103)) + 1), true)))) = some (r1, r2, r3, r4) := H
              have A10 := Aside0.mk A100
              clear A100
              by_cases c11 : (wrap64 ((Int.tmod (wrap64 ((Int.tmod (wrap64 (a0 - 1)) 146097) - (wrap64 ((ji7) * 36524)))) 1461) - (wrap64 ((ji8) * 365)))) ≥ t102
              · rw [if_pos c11] at H
                have c11b0 : decide (t102 ≤ (wrap64 ((Int.tmod (wrap64 ((Int.tmod (wrap64 (a0 - 1)) 146097) - (wrap64 ((ji7) * 36524)))) 1461) - (wrap64 ((ji8) * 365))))) = true := decide_eq_true c11
                clear c11
                have H' := Aside0.mk H
                clear H
                go_wp2_with (first | (go_at_call 46; (with_reducible refine (calendar_start.calls (wrap64 ((wrap64 ((wrap64 (400 * (wrap64 (Int.tdiv (wrap64 (a0 - 1)) 146097)))) + 1)) + (wrap64 ((wrap64 ((wrap64 (100 * (ji7))) + (wrap64 (4 * (wrap64 (Int.tdiv (wrap64 ((Int.tmod (wrap64 (a0 - 1)) 146097) - (wrap64 ((ji7) * 36524)))) 1461)))))) + (ji8))))) (wrap64 (x9_2 + 1)) t102 _ A10.out).mono ?_); rintro e w' ⟨rfl, ⟨nd, rfl⟩⟩))
                go_roundg k2
                case measure => have := HJ1.out; have := HK2.out; omega
                case rel => exact ⟨(wrap64 (x9_2 + 1)), (by first | rfl | (simp; done) | (simp [*]; done)), H', ⟨by have := HJ1.out; have := HK2.out; omega⟩, ⟨by (with_reducible repeat (first | refine blk_drewN ?_ _ | refine blk_drew ?_ | refine blk_alloc ?_ _)); exact BK101.out⟩, ⟨by repeat (first | (with_reducible first | exact HB.out | apply below_alloc | apply pw_below_drewN | apply below_drew1 | refine below_set ?_ GE101.out) | exact HB.out)⟩⟩
              · rw [if_neg c11] at H
                have c11b0 : decide (t102 ≤ (wrap64 ((Int.tmod (wrap64 ((Int.tmod (wrap64 (a0 - 1)) 146097) - (wrap64 ((ji7) * 36524)))) 1461) - (wrap64 ((ji8) * 365))))) = false := decide_eq_false c11
                clear c11
                replace H := Option.bind_eq_some_iff.mp H
                obtain ⟨t103, A120, H⟩ := H
                replace H : (some ((wrap64 ((wrap64 ((wrap64 (400 * (wrap64 (Int.tdiv (wrap64 (a0 - 1)) 146097)))) + 1)) + (wrap64 ((wrap64 ((wrap64 (100 * (ji7))) + (wrap64 (4 * (wrap64 (Int.tdiv (wrap64 ((Int.tmod (wrap64 (a0 - 1)) 146097) - (wrap64 ((ji7) * 36524)))) 1461)))))) + (ji8))))), x9_2, wrap64 ((wrap64 ((wrap64 ((Int.tmod (wrap64 ((Int.tmod (wrap64 (a0 - 1)) 146097) - (wrap64 ((ji7) * 36524)))) 1461) - (wrap64 ((ji8) * 365)))) - t103)) + 1), true)) = some (r1, r2, r3, r4) := H
                have A12 := Aside0.mk A120
                clear A120
                simp only [Option.some.injEq, Prod.mk.injEq] at H
                obtain ⟨rfl, rfl, rfl, rfl⟩ := H
                go_wp2_with (first | (go_at_call 46; (with_reducible refine (calendar_start.calls (wrap64 ((wrap64 ((wrap64 (400 * (wrap64 (Int.tdiv (wrap64 (a0 - 1)) 146097)))) + 1)) + (wrap64 ((wrap64 ((wrap64 (100 * (ji7))) + (wrap64 (4 * (wrap64 (Int.tdiv (wrap64 ((Int.tmod (wrap64 (a0 - 1)) 146097) - (wrap64 ((ji7) * 36524)))) 1461)))))) + (ji8))))) (wrap64 (x9_2 + 1)) t102 _ A10.out).mono ?_); rintro e w' ⟨rfl, ⟨nd, rfl⟩⟩; (try (rw [drewN_self wr]; generalize hq_ : World.drewN wr _ = wr; have n0_ : Aside0 (wr.heap[gb101]? = some (.cells #[.int .i64 0, .int .i64 0, .int .i64 0] 59 (0, 0))) := ⟨by rw [← hq_]; exact (by (with_reducible repeat (first | refine blk_drewN ?_ _ | refine blk_drew ?_ | refine blk_alloc ?_ _)); exact BK101.out)⟩; have n1_ : Aside0 (Below w.heap.size w wr) := ⟨by rw [← hq_]; exact (by repeat (first | (with_reducible first | exact HB.out | apply below_alloc | apply pw_below_drewN | apply below_drew1 | refine below_set ?_ GE101.out) | exact HB.out))⟩; clear BK101 HB hq_; have BK101 := n0_; have HB := n1_; clear n0_ n1_))) | ((with_reducible refine gate_callee (f := 46) rfl ?_); refine goesL_ (some 69) rfl rfl Tryd.func46 (by kernel_rfl) rfl #[.int .i64 (wrap64 ((wrap64 ((wrap64 (400 * (wrap64 (Int.tdiv (wrap64 (a0 - 1)) 146097)))) + 1)) + (wrap64 ((wrap64 ((wrap64 (100 * (ji7))) + (wrap64 (4 * (wrap64 (Int.tdiv (wrap64 ((Int.tmod (wrap64 (a0 - 1)) 146097) - (wrap64 ((ji7) * 36524)))) 1461)))))) + (ji8))))), .int .i64 x9_2] rfl (by (try simp only [List.map_toArray, List.map_cons, List.map_nil]); first | done | (simp only [hji7, hji8]; rfl) | rfl | (simp only [List.length_drop, List.length_take]; rfl)) ?_; (with_reducible refine (calendar_start.calls (wrap64 ((wrap64 ((wrap64 (400 * (wrap64 (Int.tdiv (wrap64 (a0 - 1)) 146097)))) + 1)) + (wrap64 ((wrap64 ((wrap64 (100 * (ji7))) + (wrap64 (4 * (wrap64 (Int.tdiv (wrap64 ((Int.tmod (wrap64 (a0 - 1)) 146097) - (wrap64 ((ji7) * 36524)))) 1461)))))) + (ji8))))) x9_2 t103 _ A12.out).mono ?_); rintro e w' ⟨rfl, ⟨nd, rfl⟩⟩; refine ⟨_, rfl, ?_⟩; (try (rw [drewN_self wr]; generalize hq_ : World.drewN wr _ = wr; have n0_ : Aside0 (wr.heap[gb101]? = some (.cells #[.int .i64 0, .int .i64 0, .int .i64 0] 59 (0, 0))) := ⟨by rw [← hq_]; exact (by (with_reducible repeat (first | refine blk_drewN ?_ _ | refine blk_drew ?_ | refine blk_alloc ?_ _)); exact BK101.out)⟩; have n1_ : Aside0 (Below w.heap.size w wr) := ⟨by rw [← hq_]; exact (by repeat (first | (with_reducible first | exact HB.out | apply below_alloc | apply pw_below_drewN | apply below_drew1 | refine below_set ?_ GE101.out) | exact HB.out))⟩; clear BK101 HB hq_; have BK101 := n0_; have HB := n1_; clear n0_ n1_)); have hcz13_0 : wr.cell? ⟨gb101, 0, none⟩ = some (.int .i64 0) := (blk_cell BK101.out 0).trans rfl; have hcz13_1 : wr.cell? ⟨gb101, 1, none⟩ = some (.int .i64 0) := (blk_cell BK101.out 1).trans rfl; have hcz13_2 : wr.cell? ⟨gb101, 2, none⟩ = some (.int .i64 0) := (blk_cell BK101.out 2).trans rfl; have hfz13_0 := blk_frozen BK101.out 0; have hfz13_1 := blk_frozen BK101.out 1; have hfz13_2 := blk_frozen BK101.out 2))
                refine bodyPost_ret (results_ct rfl _ _ gb101 59 #[.int .i64 (wrap64 ((wrap64 ((wrap64 (400 * (wrap64 (Int.tdiv (wrap64 (a0 - 1)) 146097)))) + 1)) + (wrap64 ((wrap64 ((wrap64 (100 * (ji7))) + (wrap64 (4 * (wrap64 (Int.tdiv (wrap64 ((Int.tmod (wrap64 (a0 - 1)) 146097) - (wrap64 ((ji7) * 36524)))) 1461)))))) + (ji8))))), .int .i64 x9_2, .int .i64 (wrap64 ((wrap64 ((wrap64 ((Int.tmod (wrap64 ((Int.tmod (wrap64 (a0 - 1)) 146097) - (wrap64 ((ji7) * 36524)))) 1461) - (wrap64 ((ji8) * 365)))) - t103)) + 1))] (0, 0) _ rfl (by (with_reducible repeat (first | refine blk_drewN ?_ _ | refine blk_drew ?_ | refine blk_alloc ?_ _)); refine blk_put (cs := #[.int .i64 (wrap64 ((wrap64 ((wrap64 (400 * (wrap64 (Int.tdiv (wrap64 (a0 - 1)) 146097)))) + 1)) + (wrap64 ((wrap64 ((wrap64 (100 * (ji7))) + (wrap64 (4 * (wrap64 (Int.tdiv (wrap64 ((Int.tmod (wrap64 (a0 - 1)) 146097) - (wrap64 ((ji7) * 36524)))) 1461)))))) + (ji8))))), .int .i64 x9_2, .int .i64 0]) ?_ 2 _ rfl; (with_reducible repeat (first | refine blk_drewN ?_ _ | refine blk_drew ?_ | refine blk_alloc ?_ _)); refine blk_put (cs := #[.int .i64 (wrap64 ((wrap64 ((wrap64 (400 * (wrap64 (Int.tdiv (wrap64 (a0 - 1)) 146097)))) + 1)) + (wrap64 ((wrap64 ((wrap64 (100 * (ji7))) + (wrap64 (4 * (wrap64 (Int.tdiv (wrap64 ((Int.tmod (wrap64 (a0 - 1)) 146097) - (wrap64 ((ji7) * 36524)))) 1461)))))) + (ji8))))), .int .i64 0, .int .i64 0]) ?_ 1 _ rfl; (with_reducible repeat (first | refine blk_drewN ?_ _ | refine blk_drew ?_ | refine blk_alloc ?_ _)); refine blk_put (cs := #[.int .i64 0, .int .i64 0, .int .i64 0]) ?_ 0 _ rfl; (with_reducible repeat (first | refine blk_drewN ?_ _ | refine blk_drew ?_ | refine blk_alloc ?_ _)); exact BK101.out) Tryd.underlying59 rfl (by kernel_rfl)) rfl ?_
                exact ⟨by first | rfl | (simp [errW_none, errW_some] <;> rfl) | (simp only [← hji7, ← hji8]; first | rfl | (simp [errW_none, errW_some] <;> rfl)) | (simp [*, errW_none, errW_some] <;> rfl), by repeat (first | (with_reducible first | exact HB.out | apply below_alloc | apply pw_below_drewN | apply below_drew1 | refine below_set ?_ GE101.out) | exact HB.out)⟩
            · rw [if_neg c9] at H
              have c9b0 : decide (x9_2 < 12) = false := decide_eq_false c9
              clear c9
              replace H := Option.bind_eq_some_iff.mp H
              obtain ⟨t104, A140, H⟩ := H
              replace H : (some ((wrap64 ((wrap64 ((wrap64 (400 * (wrap64 (Int.tdiv (wrap64 (a0 - 1)) 146097)))) + 1)) + (wrap64 ((wrap64 ((wrap64 (100 * (ji7))) + (wrap64 (4 * (wrap64 (Int.tdiv (wrap64 ((Int.tmod (wrap64 (a0 - 1)) 146097) - (wrap64 ((ji7) * 36524)))) 1461)))))) + (ji8))))), x9_2, wrap64 ((wrap64 ((wrap64 ((Int.tmod (wrap64 ((Int.tmod (wrap64 (a0 - 1)) 146097) - (wrap64 ((ji7) * 36524)))) 1461) - (wrap64 ((ji8) * 365)))) - t104)) + 1), true)) = some (r1, r2, r3, r4) := H
              have A14 := Aside0.mk A140
              clear A140
              simp only [Option.some.injEq, Prod.mk.injEq] at H
              obtain ⟨rfl, rfl, rfl, rfl⟩ := H
              go_wp2_with (first | ((with_reducible refine gate_callee (f := 46) rfl ?_); refine goesL_ (some 69) rfl rfl Tryd.func46 (by kernel_rfl) rfl #[.int .i64 (wrap64 ((wrap64 ((wrap64 (400 * (wrap64 (Int.tdiv (wrap64 (a0 - 1)) 146097)))) + 1)) + (wrap64 ((wrap64 ((wrap64 (100 * (ji7))) + (wrap64 (4 * (wrap64 (Int.tdiv (wrap64 ((Int.tmod (wrap64 (a0 - 1)) 146097) - (wrap64 ((ji7) * 36524)))) 1461)))))) + (ji8))))), .int .i64 x9_2] rfl (by (try simp only [List.map_toArray, List.map_cons, List.map_nil]); first | done | (simp only [hji7, hji8]; rfl) | rfl | (simp only [List.length_drop, List.length_take]; rfl)) ?_; (with_reducible refine (calendar_start.calls (wrap64 ((wrap64 ((wrap64 (400 * (wrap64 (Int.tdiv (wrap64 (a0 - 1)) 146097)))) + 1)) + (wrap64 ((wrap64 ((wrap64 (100 * (ji7))) + (wrap64 (4 * (wrap64 (Int.tdiv (wrap64 ((Int.tmod (wrap64 (a0 - 1)) 146097) - (wrap64 ((ji7) * 36524)))) 1461)))))) + (ji8))))) x9_2 t104 _ A14.out).mono ?_); rintro e w' ⟨rfl, ⟨nd, rfl⟩⟩; refine ⟨_, rfl, ?_⟩; (try (rw [drewN_self wr]; generalize hq_ : World.drewN wr _ = wr; have n0_ : Aside0 (wr.heap[gb101]? = some (.cells #[.int .i64 0, .int .i64 0, .int .i64 0] 59 (0, 0))) := ⟨by rw [← hq_]; exact (by (with_reducible repeat (first | refine blk_drewN ?_ _ | refine blk_drew ?_ | refine blk_alloc ?_ _)); exact BK101.out)⟩; have n1_ : Aside0 (Below w.heap.size w wr) := ⟨by rw [← hq_]; exact (by repeat (first | (with_reducible first | exact HB.out | apply below_alloc | apply pw_below_drewN | apply below_drew1 | refine below_set ?_ GE101.out) | exact HB.out))⟩; clear BK101 HB hq_; have BK101 := n0_; have HB := n1_; clear n0_ n1_)); have hcz15_0 : wr.cell? ⟨gb101, 0, none⟩ = some (.int .i64 0) := (blk_cell BK101.out 0).trans rfl; have hcz15_1 : wr.cell? ⟨gb101, 1, none⟩ = some (.int .i64 0) := (blk_cell BK101.out 1).trans rfl; have hcz15_2 : wr.cell? ⟨gb101, 2, none⟩ = some (.int .i64 0) := (blk_cell BK101.out 2).trans rfl; have hfz15_0 := blk_frozen BK101.out 0; have hfz15_1 := blk_frozen BK101.out 1; have hfz15_2 := blk_frozen BK101.out 2))
              refine bodyPost_ret (results_ct rfl _ _ gb101 59 #[.int .i64 (wrap64 ((wrap64 ((wrap64 (400 * (wrap64 (Int.tdiv (wrap64 (a0 - 1)) 146097)))) + 1)) + (wrap64 ((wrap64 ((wrap64 (100 * (ji7))) + (wrap64 (4 * (wrap64 (Int.tdiv (wrap64 ((Int.tmod (wrap64 (a0 - 1)) 146097) - (wrap64 ((ji7) * 36524)))) 1461)))))) + (ji8))))), .int .i64 x9_2, .int .i64 (wrap64 ((wrap64 ((wrap64 ((Int.tmod (wrap64 ((Int.tmod (wrap64 (a0 - 1)) 146097) - (wrap64 ((ji7) * 36524)))) 1461) - (wrap64 ((ji8) * 365)))) - t104)) + 1))] (0, 0) _ rfl (by (with_reducible repeat (first | refine blk_drewN ?_ _ | refine blk_drew ?_ | refine blk_alloc ?_ _)); refine blk_put (cs := #[.int .i64 (wrap64 ((wrap64 ((wrap64 (400 * (wrap64 (Int.tdiv (wrap64 (a0 - 1)) 146097)))) + 1)) + (wrap64 ((wrap64 ((wrap64 (100 * (ji7))) + (wrap64 (4 * (wrap64 (Int.tdiv (wrap64 ((Int.tmod (wrap64 (a0 - 1)) 146097) - (wrap64 ((ji7) * 36524)))) 1461)))))) + (ji8))))), .int .i64 x9_2, .int .i64 0]) ?_ 2 _ rfl; (with_reducible repeat (first | refine blk_drewN ?_ _ | refine blk_drew ?_ | refine blk_alloc ?_ _)); refine blk_put (cs := #[.int .i64 (wrap64 ((wrap64 ((wrap64 (400 * (wrap64 (Int.tdiv (wrap64 (a0 - 1)) 146097)))) + 1)) + (wrap64 ((wrap64 ((wrap64 (100 * (ji7))) + (wrap64 (4 * (wrap64 (Int.tdiv (wrap64 ((Int.tmod (wrap64 (a0 - 1)) 146097) - (wrap64 ((ji7) * 36524)))) 1461)))))) + (ji8))))), .int .i64 0, .int .i64 0]) ?_ 1 _ rfl; (with_reducible repeat (first | refine blk_drewN ?_ _ | refine blk_drew ?_ | refine blk_alloc ?_ _)); refine blk_put (cs := #[.int .i64 0, .int .i64 0, .int .i64 0]) ?_ 0 _ rfl; (with_reducible repeat (first | refine blk_drewN ?_ _ | refine blk_drew ?_ | refine blk_alloc ?_ _)); exact BK101.out) Tryd.underlying59 rfl (by kernel_rfl)) rfl ?_
              exact ⟨by first | rfl | (simp [errW_none, errW_some] <;> rfl) | (simp only [← hji7, ← hji8]; first | rfl | (simp [errW_none, errW_some] <;> rfl)) | (simp [*, errW_none, errW_some] <;> rfl), by repeat (first | (with_reducible first | exact HB.out | apply below_alloc | apply pw_below_drewN | apply below_drew1 | refine below_set ?_ GE101.out) | exact HB.out)⟩
end Go.Proofs.YtkjdmbbaacjpmaaDoor.C
end
section
namespace Go.Proofs.YtkjdmbbaacjpmaaDoor.D
open Go.RowKit Go.Proofs.YtkjdmbbaacjpmaaDoorW.PrintWords Go.Proofs.YtkjdmbbaacjpmaaDoorW.PrintLast Go.Proofs.YtkjdmbbaacjpmaaDoorW.PrintMore
attribute [local go_sem] max2_int min2_int max_two min_two max_three min_three max_four min_four
set_option linter.unusedVariables false
set_option linter.unusedSimpArgs false
def arrearsref2_isDay.f (a0 : Int) : Option (Bool) := if a0 ≥ 1 then (some (decide (a0 ≤ 3652059))) else (some false)
set_option maxHeartbeats 8000000 in
set_option maxRecDepth 100000 in
theorem arrearsref2_isDay.calls (a0 : Int) (r : Bool) (w : World) (h : arrearsref2_isDay.f a0 = some r) :
    Calls Tryd.prog 48 #[.int .i64 a0] w fun e w' => e = .returned (.bool r) ∧ Drawn0 w w' := by
  have H : (if a0 ≥ 1 then (some (decide (a0 ≤ 3652059))) else (some false)) = some r := h
  clear h
  by_cases c2 : a0 ≥ 1
  · rw [if_pos c2] at H
    have c2b0 : decide (1 ≤ a0) = true := decide_eq_true c2
    clear c2
    obtain rfl := Option.some.inj H
    go_enter Tryd.func48, Tryd.ntmps48
    go_wp2
    go_ret
    exact ⟨by first | rfl | (simp; done) | (simp [*]; done), by repeat (first | exact Drawn0.refl _ | apply Drawn0.step)⟩
  · rw [if_neg c2] at H
    have c2b0 : decide (1 ≤ a0) = false := decide_eq_false c2
    clear c2
    obtain rfl := Option.some.inj H
    go_enter Tryd.func48, Tryd.ntmps48
    go_wp2
    go_ret
    exact ⟨by first | rfl | (simp; done) | (simp [*]; done), by repeat (first | exact Drawn0.refl _ | apply Drawn0.step)⟩
end Go.Proofs.YtkjdmbbaacjpmaaDoor.D
end
section
namespace Go.Proofs.YtkjdmbbaacjpmaaDoor.D
open Go.RowKit Go.Proofs.YtkjdmbbaacjpmaaDoorW.PrintWords Go.Proofs.YtkjdmbbaacjpmaaDoorW.PrintLast Go.Proofs.YtkjdmbbaacjpmaaDoorW.PrintMore
attribute [local go_sem] max2_int min2_int max_two min_two max_three min_three max_four min_four
set_option linter.unusedVariables false
set_option linter.unusedSimpArgs false
def arrearsref2_divides.f (a0 : Int) : Option (Bool) := if (Int.tmod a0 4) = 0 then (if (Int.tmod a0 100) = 0 then (some ((Int.tmod a0 400) == 0)) else (some true)) else (some false)
set_option maxHeartbeats 8000000 in
set_option maxRecDepth 100000 in
theorem arrearsref2_divides.calls (a0 : Int) (r : Bool) (w : World) (h : arrearsref2_divides.f a0 = some r) :
    Calls Tryd.prog 63 #[.int .i64 a0] w fun e w' => e = .returned (.bool r) ∧ Drawn0 w w' := by
  have H : (if (Int.tmod a0 4) = 0 then (if (Int.tmod a0 100) = 0 then (some ((Int.tmod a0 400) == 0)) else (some true)) else (some false)) = some r := h
  clear h
  by_cases c2 : (Int.tmod a0 4) = 0
  · rw [if_pos c2] at H
    have c2b0 : ((Int.tmod a0 4) == 0) = true := beq_iff_eq.mpr c2
    have c2b1 : ((Int.tmod a0 4) != 0) = false := bne_eq_false_iff_eq.mpr c2
    clear c2
    by_cases c3 : (Int.tmod a0 100) = 0
    · rw [if_pos c3] at H
      have c3b0 : ((Int.tmod a0 100) == 0) = true := beq_iff_eq.mpr c3
      have c3b1 : ((Int.tmod a0 100) != 0) = false := bne_eq_false_iff_eq.mpr c3
      clear c3
      obtain rfl := Option.some.inj H
      go_enter Tryd.func63, Tryd.ntmps63
      go_wp2
      go_ret
      exact ⟨by first | rfl | (simp; done) | (simp [*]; done), by repeat (first | exact Drawn0.refl _ | apply Drawn0.step)⟩
    · rw [if_neg c3] at H
      have c3b0 : ((Int.tmod a0 100) == 0) = false := beq_eq_false_iff_ne.mpr c3
      have c3b1 : ((Int.tmod a0 100) != 0) = true := bne_iff_ne.mpr c3
      obtain rfl := Option.some.inj H
      go_enter Tryd.func63, Tryd.ntmps63
      go_wp2
      go_ret
      exact ⟨by first | rfl | (simp; done) | (simp [*]; done), by repeat (first | exact Drawn0.refl _ | apply Drawn0.step)⟩
  · rw [if_neg c2] at H
    have c2b0 : ((Int.tmod a0 4) == 0) = false := beq_eq_false_iff_ne.mpr c2
    have c2b1 : ((Int.tmod a0 4) != 0) = true := bne_iff_ne.mpr c2
    obtain rfl := Option.some.inj H
    go_enter Tryd.func63, Tryd.ntmps63
    go_wp2
    go_ret
    exact ⟨by first | rfl | (simp; done) | (simp [*]; done), by repeat (first | exact Drawn0.refl _ | apply Drawn0.step)⟩
end Go.Proofs.YtkjdmbbaacjpmaaDoor.D
end
section
namespace Go.Proofs.YtkjdmbbaacjpmaaDoor.D
open Go.RowKit Go.Proofs.YtkjdmbbaacjpmaaDoorW.PrintWords Go.Proofs.YtkjdmbbaacjpmaaDoorW.PrintLast Go.Proofs.YtkjdmbbaacjpmaaDoorW.PrintMore
attribute [local go_sem] max2_int min2_int max_two min_two max_three min_three max_four min_four
set_option linter.unusedVariables false
set_option linter.unusedSimpArgs false
def arrearsref2_yearLen.f (a0 : Int) : Option (Int) := (arrearsref2_divides.f a0).bind fun t116 => (if t116 = true then (some 366) else (some 365))
set_option maxHeartbeats 8000000 in
set_option maxRecDepth 100000 in
theorem arrearsref2_yearLen.calls (a0 : Int) (r : Int) (w : World) (h : arrearsref2_yearLen.f a0 = some r) :
    Calls Tryd.prog 49 #[.int .i64 a0] w fun e w' => e = .returned (.int .i64 r) ∧ Drawn0 w w' := by
  have H : ((arrearsref2_divides.f a0).bind fun t116 => (if t116 = true then (some 366) else (some 365))) = some r := h
  clear h
  replace H := Option.bind_eq_some_iff.mp H
  obtain ⟨t116, A20, H⟩ := H
  replace H : (if t116 = true then (some 366) else (some 365)) = some r := H
  have A2 := Aside0.mk A20
  clear A20
  by_cases c3 : t116 = true
  · subst c3
    have H1 : (some 366) = some r := by rw [if_pos rfl] at H; exact H
    clear H
    have H := H1
    clear H1
    obtain rfl := Option.some.inj H
    go_enter Tryd.func49, Tryd.ntmps49
    go_wp2_with (first | ((with_reducible refine gate_callee (f := 63) rfl ?_); refine goesL_ (some 4) rfl rfl Tryd.func63 (by kernel_rfl) rfl #[.int .i64 a0] rfl (by (try simp only [List.map_toArray, List.map_cons, List.map_nil]); first | done | rfl | (simp only [List.length_drop, List.length_take]; rfl)) ?_; (with_reducible refine (arrearsref2_divides.calls a0 true _ A2.out).mono ?_); rintro e w' ⟨rfl, ⟨nd, rfl⟩⟩; refine ⟨_, rfl, ?_⟩))
    go_ret
    exact ⟨by first | rfl | (simp; done) | (simp [*]; done), by repeat (first | exact Drawn0.refl _ | apply Drawn0.step)⟩
  · replace c3 := Bool.eq_false_iff.mpr c3
    subst c3
    have H1 : (some 365) = some r := by rw [if_neg (show ¬ (false = true) by decide)] at H; exact H
    clear H
    have H := H1
    clear H1
    obtain rfl := Option.some.inj H
    go_enter Tryd.func49, Tryd.ntmps49
    go_wp2_with (first | ((with_reducible refine gate_callee (f := 63) rfl ?_); refine goesL_ (some 4) rfl rfl Tryd.func63 (by kernel_rfl) rfl #[.int .i64 a0] rfl (by (try simp only [List.map_toArray, List.map_cons, List.map_nil]); first | done | rfl | (simp only [List.length_drop, List.length_take]; rfl)) ?_; (with_reducible refine (arrearsref2_divides.calls a0 false _ A2.out).mono ?_); rintro e w' ⟨rfl, ⟨nd, rfl⟩⟩; refine ⟨_, rfl, ?_⟩))
    go_ret
    exact ⟨by first | rfl | (simp; done) | (simp [*]; done), by repeat (first | exact Drawn0.refl _ | apply Drawn0.step)⟩
end Go.Proofs.YtkjdmbbaacjpmaaDoor.D
end
section
namespace Go.Proofs.YtkjdmbbaacjpmaaDoor.D
open Go.RowKit Go.Proofs.YtkjdmbbaacjpmaaDoorW.PrintWords Go.Proofs.YtkjdmbbaacjpmaaDoorW.PrintLast Go.Proofs.YtkjdmbbaacjpmaaDoorW.PrintMore
attribute [local go_sem] max2_int min2_int max_two min_two max_three min_three max_four min_four
set_option linter.unusedVariables false
set_option linter.unusedSimpArgs false
def arrearsref2_lenOf.f (a0 : Int) (a1 : Int) : Option (Int) := if a1 = 2 then ((arrearsref2_divides.f a0).bind fun t117 => (if t117 = true then (some 29) else (some 28))) else (if a1 = 4 then (some 30) else (if a1 = 6 then (some 30) else (if a1 = 9 then (some 30) else (if a1 = 11 then (some 30) else (some 31)))))
set_option maxHeartbeats 8000000 in
set_option maxRecDepth 100000 in
theorem arrearsref2_lenOf.calls (a0 : Int) (a1 : Int) (r : Int) (w : World) (h : arrearsref2_lenOf.f a0 a1 = some r) :
    Calls Tryd.prog 50 #[.int .i64 a0, .int .i64 a1] w fun e w' => e = .returned (.int .i64 r) ∧ Drawn0 w w' := by
  have H : (if a1 = 2 then ((arrearsref2_divides.f a0).bind fun t117 => (if t117 = true then (some 29) else (some 28))) else (if a1 = 4 then (some 30) else (if a1 = 6 then (some 30) else (if a1 = 9 then (some 30) else (if a1 = 11 then (some 30) else (some 31)))))) = some r := h
  clear h
  by_cases c3 : a1 = 2
  · rw [if_pos c3] at H
    have c3b0 : (a1 == 2) = true := beq_iff_eq.mpr c3
    have c3b1 : (a1 != 2) = false := bne_eq_false_iff_eq.mpr c3
    clear c3
    replace H := Option.bind_eq_some_iff.mp H
    obtain ⟨t117, A40, H⟩ := H
    replace H : (if t117 = true then (some 29) else (some 28)) = some r := H
    have A4 := Aside0.mk A40
    clear A40
    by_cases c5 : t117 = true
    · subst c5
      have H1 : (some 29) = some r := by rw [if_pos rfl] at H; exact H
      clear H
      have H := H1
      clear H1
      obtain rfl := Option.some.inj H
      go_enter Tryd.func50, Tryd.ntmps50
      go_wp2_with (first | ((with_reducible refine gate_callee (f := 63) rfl ?_); refine goesL_ (some 9) rfl rfl Tryd.func63 (by kernel_rfl) rfl #[.int .i64 a0] rfl (by (try simp only [List.map_toArray, List.map_cons, List.map_nil]); first | done | rfl | (simp only [List.length_drop, List.length_take]; rfl)) ?_; (with_reducible refine (arrearsref2_divides.calls a0 true _ A4.out).mono ?_); rintro e w' ⟨rfl, ⟨nd, rfl⟩⟩; refine ⟨_, rfl, ?_⟩))
      go_ret
      exact ⟨by first | rfl | (simp; done) | (simp [*]; done), by repeat (first | exact Drawn0.refl _ | apply Drawn0.step)⟩
    · replace c5 := Bool.eq_false_iff.mpr c5
      subst c5
      have H1 : (some 28) = some r := by rw [if_neg (show ¬ (false = true) by decide)] at H; exact H
      clear H
      have H := H1
      clear H1
      obtain rfl := Option.some.inj H
      go_enter Tryd.func50, Tryd.ntmps50
      go_wp2_with (first | ((with_reducible refine gate_callee (f := 63) rfl ?_); refine goesL_ (some 9) rfl rfl Tryd.func63 (by kernel_rfl) rfl #[.int .i64 a0] rfl (by (try simp only [List.map_toArray, List.map_cons, List.map_nil]); first | done | rfl | (simp only [List.length_drop, List.length_take]; rfl)) ?_; (with_reducible refine (arrearsref2_divides.calls a0 false _ A4.out).mono ?_); rintro e w' ⟨rfl, ⟨nd, rfl⟩⟩; refine ⟨_, rfl, ?_⟩))
      go_ret
      exact ⟨by first | rfl | (simp; done) | (simp [*]; done), by repeat (first | exact Drawn0.refl _ | apply Drawn0.step)⟩
  · rw [if_neg c3] at H
    have c3b0 : (a1 == 2) = false := beq_eq_false_iff_ne.mpr c3
    have c3b1 : (a1 != 2) = true := bne_iff_ne.mpr c3
    by_cases c6 : a1 = 4
    · rw [if_pos c6] at H
      have c6b0 : (a1 == 4) = true := beq_iff_eq.mpr c6
      have c6b1 : (a1 != 4) = false := bne_eq_false_iff_eq.mpr c6
      clear c6
      obtain rfl := Option.some.inj H
      go_enter Tryd.func50, Tryd.ntmps50
      go_wp2
      go_ret
      exact ⟨by first | rfl | (simp; done) | (simp [*]; done), by repeat (first | exact Drawn0.refl _ | apply Drawn0.step)⟩
    · rw [if_neg c6] at H
      have c6b0 : (a1 == 4) = false := beq_eq_false_iff_ne.mpr c6
      have c6b1 : (a1 != 4) = true := bne_iff_ne.mpr c6
      by_cases c7 : a1 = 6
      · rw [if_pos c7] at H
        have c7b0 : (a1 == 6) = true := beq_iff_eq.mpr c7
        have c7b1 : (a1 != 6) = false := bne_eq_false_iff_eq.mpr c7
        clear c7
        obtain rfl := Option.some.inj H
        go_enter Tryd.func50, Tryd.ntmps50
        go_wp2
        go_ret
        exact ⟨by first | rfl | (simp; done) | (simp [*]; done), by repeat (first | exact Drawn0.refl _ | apply Drawn0.step)⟩
      · rw [if_neg c7] at H
        have c7b0 : (a1 == 6) = false := beq_eq_false_iff_ne.mpr c7
        have c7b1 : (a1 != 6) = true := bne_iff_ne.mpr c7
        by_cases c8 : a1 = 9
        · rw [if_pos c8] at H
          have c8b0 : (a1 == 9) = true := beq_iff_eq.mpr c8
          have c8b1 : (a1 != 9) = false := bne_eq_false_iff_eq.mpr c8
          clear c8
          obtain rfl := Option.some.inj H
          go_enter Tryd.func50, Tryd.ntmps50
          go_wp2
          go_ret
          exact ⟨by first | rfl | (simp; done) | (simp [*]; done), by repeat (first | exact Drawn0.refl _ | apply Drawn0.step)⟩
        · rw [if_neg c8] at H
          have c8b0 : (a1 == 9) = false := beq_eq_false_iff_ne.mpr c8
          have c8b1 : (a1 != 9) = true := bne_iff_ne.mpr c8
          by_cases c9 : a1 = 11
          · rw [if_pos c9] at H
            have c9b0 : (a1 == 11) = true := beq_iff_eq.mpr c9
            have c9b1 : (a1 != 11) = false := bne_eq_false_iff_eq.mpr c9
            clear c9
            obtain rfl := Option.some.inj H
            go_enter Tryd.func50, Tryd.ntmps50
            go_wp2
            go_ret
            exact ⟨by first | rfl | (simp; done) | (simp [*]; done), by repeat (first | exact Drawn0.refl _ | apply Drawn0.step)⟩
          · rw [if_neg c9] at H
            have c9b0 : (a1 == 11) = false := beq_eq_false_iff_ne.mpr c9
            have c9b1 : (a1 != 11) = true := bne_iff_ne.mpr c9
            obtain rfl := Option.some.inj H
            go_enter Tryd.func50, Tryd.ntmps50
            go_wp2
            go_ret
            exact ⟨by first | rfl | (simp; done) | (simp [*]; done), by repeat (first | exact Drawn0.refl _ | apply Drawn0.step)⟩
end Go.Proofs.YtkjdmbbaacjpmaaDoor.D
end
