-- Texts of this claim, joined and cut down to what it uses (a program of this session).
import Derived.Test.YtkjdmbbaacjpmaaDoorY1
import Derived.KernelRfl
import Derived.Shelf.Strconv.Itoa0
import Derived.Shelf.Strconv.Itoa1
import Derived.Shelf.LaysM
import Derived.Shelf.Strconv.Itoa2
import Derived.Shelf.Strconv.Itoa3
import Derived.Shelf.Strconv.Itoa4
import Derived.Shelf.Strconv.ParseIntEmpty
import Derived.Shelf.Strconv.Clone
import Derived.Shelf.Strconv.SyntaxError
import Derived.Shelf.LaysC
import Derived.Shelf.Strconv.ToError
import Derived.Shelf.Strconv.Lower
import Derived.Shelf.Strconv.ParseUint10
import Derived.Shelf.Strconv.ParseUint10Empty
import Derived.Shelf.Strconv.ParseUint10Any
import Derived.Shelf.Strconv.ParseInt10
import Derived.Shelf.Strconv.RangeError
import Derived.Shelf.Strconv.ToErrorRange
import Derived.Shelf.Strconv.ParseUintEmpty
import Derived.Shelf.Strconv.ParseUint10b64
import Derived.Shelf.Strconv.ParseUint10b32
import Derived.Shelf.Strconv.ParseUint10b16
import Derived.Shelf.Strconv.ParseUint10b8
import Derived.Shelf.Strconv.ParseUint10At
import Derived.Shelf.Strconv.ParseInt10At64
import Derived.Shelf.Strconv.ParseInt10At32
import Derived.Shelf.Strconv.ParseInt10At16
import Derived.Shelf.Strconv.ParseInt10At8
import Derived.Shelf.Strconv.ParseInt10All
import Derived.Shelf.Bytes.IndexByte
import Derived.Test.YtkjdmbbaacjpmaaDoorProg
import Derived.Lib.ItoaNum
import Derived.Below
import Derived.Deep.Draws
import Derived.Deep.AppendLies
import Derived.Maps.AppendAt
import Derived.OwnWalk
import Derived.Laws.BytesArg
import Derived.Laws.MakeOwn
import Derived.Laws.OwnMore
import Derived.Deep.OwnRows
import Derived.Tactics
import Derived.Lib.ConvBytes
import Derived.Laws.Slices
import Derived.WalkKit
import Derived.RowKit3
import Derived.Deep.LoopGhost
import Derived.Deep.QuietTactic
import Derived.BigQuiet
import Derived.WideLaws
import Derived.Deep.DeepCutAuto
import Derived.Deep.CutBlock
import Derived.Deep.RegionHeld3
import Derived.Laws.Rows
import Derived.Lib.AppendStr
import Derived.ArgAppend
import Derived.Laws.IdiomCopy
import Derived.OrdersHeld
import Derived.Laws.BitsLemmas
import Derived.RowKit
import Derived.Lib.AppendIntMem
import Derived.Test.YtkjdmbbaacjpmaaDoorRows
import Derived.LaidSub
import Derived.LaidLaws
import Derived.LaidHandle
import Derived.Stop.Joined
import Derived.Lib.LaidTab
import Derived.Lay
import Derived.ChangeSlices
section
namespace Go.Proofs.YtkjdmbbaacjpmaaDoor.Cal
def lp (y : Int) : Int := if y % 4 = 0 ∧ (y % 100 ≠ 0 ∨ y % 400 = 0) then 1 else 0
theorem lp_01 (y : Int) : lp y = 0 ∨ lp y = 1 := by unfold lp; split <;> simp
def dby (y : Int) : Int := 365 * (y - 1) + (y - 1) / 4 - (y - 1) / 100 + (y - 1) / 400
theorem dby_succ (y : Int) : dby (y + 1) = dby y + 365 + lp y := by
  unfold dby lp
  split <;> omega
theorem dby_le (n : Nat) : ∀ y : Int, dby y + 365 * n ≤ dby (y + n) := by
  induction n with
  | zero => intro y; simp
  | succ n ih =>
    intro y
    have h1 := ih (y + 1)
    have h2 := dby_succ y
    have h3 := lp_01 y
    rw [show y + ((n + 1 : Nat) : Int) = y + 1 + (n : Int) by omega]
    omega
def A (m : Int) : Int := if m ≤ 1 then 0 else if m = 2 then 31 else if m = 3 then 59 else if m = 4 then 90 else if m = 5 then 120 else if m = 6 then 151 else if m = 7 then 181 else if m = 8 then 212 else if m = 9 then 243 else if m = 10 then 273 else if m = 11 then 304 else if m = 12 then 334 else 365
def cum (y m : Int) : Int := A m + (if 2 < m then lp y else 0)
def mlen (y m : Int) : Int := if m = 2 then 28 + lp y else if m = 4 ∨ m = 6 ∨ m = 9 ∨ m = 11 then 30 else 31
theorem months {m : Int} (h : 1 ≤ m) (h' : m ≤ 12) : m = 1 ∨ m = 2 ∨ m = 3 ∨ m = 4 ∨ m = 5 ∨ m = 6 ∨ m = 7 ∨ m = 8 ∨ m = 9 ∨ m = 10 ∨ m = 11 ∨ m = 12 := by omega
theorem cum_succ (y : Int) {m : Int} (h : 1 ≤ m) (h' : m ≤ 12) : cum y (m + 1) = cum y m + mlen y m := by
  rcases months h h' with rfl | rfl | rfl | rfl | rfl | rfl | rfl | rfl | rfl | rfl | rfl | rfl <;> simp [cum, A, mlen] <;> omega
theorem cum_one (y : Int) : cum y 1 = 0 := by simp [cum, A]
theorem cum_end (y : Int) : cum y 13 = 365 + lp y := by simp [cum, A]
theorem mlen_range (y m : Int) : 28 ≤ mlen y m ∧ mlen y m ≤ 31 := by
  have := lp_01 y
  unfold mlen; split
  · omega
  · split <;> omega
theorem cum_le (y : Int) (n : Nat) : ∀ m : Int, 1 ≤ m → m + n ≤ 13 → cum y m + 28 * n ≤ cum y (m + n) := by
  induction n with
  | zero => intro m _ _; simp
  | succ n ih =>
    intro m h h'
    have h1 := ih (m + 1) (by omega) (by omega)
    have h2 := cum_succ y h (by omega)
    have h3 := mlen_range y m
    rw [show m + ((n + 1 : Nat) : Int) = m + 1 + (n : Int) by omega]
    omega
theorem cum_range (y : Int) {m : Int} (h : 1 ≤ m) (h' : m ≤ 13) : 0 ≤ cum y m ∧ cum y m ≤ 366 := by
  have a := cum_le y (m - 1).toNat 1 (by omega) (by omega)
  rw [cum_one, show (1 : Int) + ((m - 1).toNat : Int) = m by omega] at a
  have b := cum_le y (13 - m).toNat m (by omega) (by omega)
  rw [show m + ((13 - m).toNat : Int) = 13 by omega, cum_end] at b
  have := lp_01 y
  omega
structure IsDate (day y m d : Int) : Prop where
  y1 : 1 ≤ y
  y2 : y ≤ 9999
  m1 : 1 ≤ m
  m2 : m ≤ 12
  d1 : 1 ≤ d
  d2 : d ≤ mlen y m
  num : dby y + cum y m + d = day
theorem IsDate.inyear {day y m d : Int} (h : IsDate day y m d) : dby y < day ∧ day ≤ dby (y + 1) := by
  have a := cum_range y h.m1 (by have := h.m2; omega)
  have b := cum_succ y h.m1 h.m2
  have c := cum_le y (12 - m).toNat (m + 1) (by have := h.m1; omega) (by have := h.m2; omega)
  rw [show m + 1 + ((12 - m).toNat : Int) = 13 by have := h.m2; omega, cum_end] at c
  have e := dby_succ y
  have := h.d1; have := h.d2; have := h.num
  omega
theorem IsDate.one {day y m d y' m' d' : Int} (h : IsDate day y m d) (k : IsDate day y' m' d') : y = y' ∧ m = m' ∧ d = d' := by
  have hy := h.inyear
  have ky := k.inyear
  have e : y = y' := by
    rcases Int.lt_trichotomy y y' with c | c | c
    · have a := dby_le (y' - (y + 1)).toNat (y + 1)
      rw [show y + 1 + ((y' - (y + 1)).toNat : Int) = y' by omega] at a
      omega
    · exact c
    · have a := dby_le (y - (y' + 1)).toNat (y' + 1)
      rw [show y' + 1 + ((y - (y' + 1)).toNat : Int) = y by omega] at a
      omega
  subst e
  have hm := h.num; have km := k.num; have h1 := h.d1; have h2 := h.d2; have k1 := k.d1; have k2 := k.d2
  have hs := cum_succ y h.m1 h.m2
  have ks := cum_succ y k.m1 k.m2
  have e : m = m' := by
    rcases Int.lt_trichotomy m m' with c | c | c
    · have a := cum_le y (m' - (m + 1)).toNat (m + 1) (by have := h.m1; omega) (by have := k.m2; omega)
      rw [show m + 1 + ((m' - (m + 1)).toNat : Int) = m' by omega] at a
      omega
    · exact c
    · have a := cum_le y (m - (m' + 1)).toNat (m' + 1) (by have := k.m1; omega) (by have := h.m2; omega)
      rw [show m' + 1 + ((m - (m' + 1)).toNat : Int) = m by omega] at a
      omega
  subst e
  exact ⟨rfl, rfl, by omega⟩
theorem lp_last {q h f o : Int} (h03 : 0 ≤ h ∧ h ≤ 3) (f24 : 0 ≤ f ∧ f ≤ 24) (o3 : o = 3) (hh : f = 24 → h = 3) : lp (400 * q + 1 + (100 * h + 4 * f + o)) = 1 := by
  subst o3
  have e4 : (400 * q + 1 + (100 * h + 4 * f + 3)) % 4 = 0 := by omega
  unfold lp
  rw [if_pos]
  refine ⟨e4, ?_⟩
  by_cases f24' : f = 24
  · have h3 := hh f24'
    subst h3; subst f24'
    exact Or.inr (by omega)
  · have : (400 * q + 1 + (100 * h + 4 * f + 3)) % 100 = 4 * f + 4 := by omega
    exact Or.inl (by omega)
set_option maxHeartbeats 1000000 in
theorem year_of {day q r h r1 f r2 o l : Int} (hd : 1 ≤ day) (hd' : day ≤ 3652059) (hq : q = (day - 1) / 146097) (hr : r = (day - 1) % 146097)
    (hh : h = if r / 36524 < 3 then r / 36524 else 3) (hr1 : r1 = r - h * 36524) (hf : f = r1 / 1461) (hr2 : r2 = r1 % 1461) (ho : o = if r2 / 365 < 3 then r2 / 365 else 3) (hl : l = r2 - o * 365) :
    0 ≤ l ∧ l < 365 + lp (400 * q + 1 + (100 * h + 4 * f + o)) ∧ dby (400 * q + 1 + (100 * h + 4 * f + o)) + l + 1 = day ∧ 1 ≤ 400 * q + 1 + (100 * h + 4 * f + o) ∧ 400 * q + 1 + (100 * h + 4 * f + o) ≤ 9999 ∧ 0 ≤ h ∧ h ≤ 3 ∧ 0 ≤ f ∧ f ≤ 24 ∧ 0 ≤ o ∧ o ≤ 3 ∧ 0 ≤ q ∧ q ≤ 24 ∧ 0 ≤ r ∧ 0 ≤ r1 ∧ 0 ≤ r2 := by
  have q0 : 0 ≤ q := by omega
  have q24 : q ≤ 24 := by omega
  have r0 : 0 ≤ r := by omega
  have r9 : r ≤ 146096 := by omega
  have day_ : day - 1 = 146097 * q + r := by omega
  have h03 : 0 ≤ h ∧ h ≤ 3 := by rw [hh]; split <;> omega
  have r1r : 0 ≤ r1 ∧ r1 ≤ 36524 ∧ (h < 3 → r1 ≤ 36523) := by
    rw [hh] at hr1 ⊢
    split at hr1 <;> omega
  have f24 : 0 ≤ f ∧ f ≤ 24 := by omega
  have r2r : 0 ≤ r2 ∧ r2 ≤ 1460 := by omega
  have r1_ : r1 = 1461 * f + r2 := by omega
  have o03 : 0 ≤ o ∧ o ≤ 3 := by rw [ho]; split <;> omega
  have lr : 0 ≤ l ∧ l ≤ 365 ∧ (o < 3 → l ≤ 364) := by
    rw [ho] at hl ⊢
    split at hl <;> omega
  have r2_ : r2 = 365 * o + l := by omega
  have hlast : r = 36524 * h + r1 := by omega
  clear hh hq hr hf hr2 ho hl hr1
  have Y4 : (400 * q + 1 + (100 * h + 4 * f + o) - 1) / 4 = 100 * q + 25 * h + f := by omega
  have Y100 : (400 * q + 1 + (100 * h + 4 * f + o) - 1) / 100 = 4 * q + h := by omega
  have Y400 : (400 * q + 1 + (100 * h + 4 * f + o) - 1) / 400 = q := by omega
  have hdby : dby (400 * q + 1 + (100 * h + 4 * f + o)) = 146097 * q + 36524 * h + 1461 * f + 365 * o := by
    unfold dby; rw [Y4, Y100, Y400]; omega
  refine ⟨lr.1, ?_, by rw [hdby]; omega, by omega, ?_, h03.1, h03.2, f24.1, f24.2, o03.1, o03.2, q0, q24, r0, r1r.1, r2r.1⟩
  · have h01 := lp_01 (400 * q + 1 + (100 * h + 4 * f + o))
    generalize hz : lp (400 * q + 1 + (100 * h + 4 * f + o)) = z at h01
    clear Y4 Y100 Y400 hdby
    by_cases hl5 : l ≤ 364
    · clear r1_ r2_ hlast day_; omega
    · have o3 : o = 3 := by
        by_cases ho3 : o < 3
        · exact absurd (lr.2.2 ho3) hl5
        · clear r1_ r2_ hlast day_; omega
      have hh3 : f = 24 → h = 3 := fun e => by
        by_cases h3 : h < 3
        · have := r1r.2.2 h3
          clear day_ hlast
          omega
        · clear r1_ r2_ hlast day_; omega
      have hz1 := lp_last (q := q) h03 f24 o3 hh3
      rw [hz] at hz1
      clear r1_ r2_ hlast day_ hz; omega
  · clear Y4 Y100 Y400 hdby
    by_cases q24' : q = 24
    · subst q24'; omega
    · clear r1_ r2_ hlast day_; omega
end Go.Proofs.YtkjdmbbaacjpmaaDoor.Cal
end
section
namespace Go.Proofs
open Go.Shelf
def Tryd.laysM171_ren : Go.Shelf.Ren := ⟨fun | 171 => 28 | 243 => 45 | 246 => 61 | 283 => 71 | 284 => 72 | 285 => 73 | 286 => 74 | 129 => 79 | 317 => 78 | 318 => 80 | 319 => 81 | 320 => 82 | 337 => 86 | 338 => 87 | n => n, fun | 3 => 3 | 9 => 9 | 2 => 2 | 4 => 4 | 171 => 132 | 0 => 0 | 53 => 133 | 37 => 26 | 5 => 5 | 173 => 136 | 212 => 142 | 51 => 143 | 20 => 20 | 213 => 144 | 46 => 145 | 232 => 155 | 233 => 156 | n => n, fun | 17 => 2 | 18 => 4 | 19 => 5 | n => n⟩
theorem Tryd.laysM171 : Go.Proofs.LaysM.n171 Tryd.prog Tryd.laysM171_ren := {
  mixed := by kernel_rfl
  f129 := Tryd.func79.trans (congrArg some (by kernel_rfl))
  f171 := Tryd.func28.trans (congrArg some (by kernel_rfl))
  f243 := Tryd.func45.trans (congrArg some (by kernel_rfl))
  f246 := Tryd.func61.trans (congrArg some (by kernel_rfl))
  f283 := Tryd.func71.trans (congrArg some (by kernel_rfl))
  f284 := Tryd.func72.trans (congrArg some (by kernel_rfl))
  f285 := Tryd.func73.trans (congrArg some (by kernel_rfl))
  f286 := Tryd.func74.trans (congrArg some (by kernel_rfl))
  f317 := Tryd.func78.trans (congrArg some (by kernel_rfl))
  f318 := Tryd.func80.trans (congrArg some (by kernel_rfl))
  f319 := Tryd.func81.trans (congrArg some (by kernel_rfl))
  f320 := Tryd.func82.trans (congrArg some (by kernel_rfl))
  f337 := Tryd.func86.trans (congrArg some (by kernel_rfl))
  f338 := Tryd.func87.trans (congrArg some (by kernel_rfl))
  t0 := Tryd.underlying0
  a0 := Tryd.isAgg0
  z0 := Tryd.sizeOf0
  v0 := Tryd.zeroValue0
  t2 := Tryd.underlying2
  a2 := Tryd.isAgg2
  z2 := Tryd.sizeOf2
  v2 := Tryd.zeroValue2
  t3 := Tryd.underlying3
  a3 := Tryd.isAgg3
  z3 := Tryd.sizeOf3
  v3 := Tryd.zeroValue3
  t4 := Tryd.underlying4
  a4 := Tryd.isAgg4
  z4 := Tryd.sizeOf4
  v4 := Tryd.zeroValue4
  t5 := Tryd.underlying5
  a5 := Tryd.isAgg5
  z5 := Tryd.sizeOf5
  v5 := Tryd.zeroValue5
  t9 := Tryd.underlying9
  a9 := Tryd.isAgg9
  z9 := Tryd.sizeOf9
  v9 := Tryd.zeroValue9
  t20 := Tryd.underlying20
  a20 := Tryd.isAgg20
  z20 := Tryd.sizeOf20
  v20 := Tryd.zeroValue20
  t37 := Tryd.underlying26
  a37 := Tryd.isAgg26
  z37 := Tryd.sizeOf26
  v37 := Tryd.zeroValue26
  t46 := Tryd.underlying145
  a46 := Tryd.isAgg145
  z46 := Tryd.sizeOf145
  v46 := Tryd.zeroValue145
  t51 := Tryd.underlying143
  a51 := Tryd.isAgg143
  z51 := Tryd.sizeOf143
  v51 := Tryd.zeroValue143
  t53 := Tryd.underlying133
  a53 := Tryd.isAgg133
  z53 := Tryd.sizeOf133
  v53 := Tryd.zeroValue133
  t171 := Tryd.underlying132
  a171 := Tryd.isAgg132
  z171 := Tryd.sizeOf132
  v171 := Tryd.zeroValue132
  t173 := Tryd.underlying136
  a173 := Tryd.isAgg136
  z173 := Tryd.sizeOf136
  v173 := Tryd.zeroValue136
  t212 := Tryd.underlying142
  a212 := Tryd.isAgg142
  z212 := Tryd.sizeOf142
  v212 := Tryd.zeroValue142
  t213 := Tryd.underlying144
  a213 := Tryd.isAgg144
  z213 := Tryd.sizeOf144
  t232 := Tryd.underlying155
  a232 := Tryd.isAgg155
  z232 := Tryd.sizeOf155
  v232 := Tryd.zeroValue155
  t233 := Tryd.underlying156
  a233 := Tryd.isAgg156
  z233 := Tryd.sizeOf156
  v233 := Tryd.zeroValue156
  g17 := by kernel_rfl
  g18 := by kernel_rfl
  g19 := by kernel_rfl
  i0 := by kernel_rfl
  i2 := by kernel_rfl
  i3 := by kernel_rfl
  i4 := by kernel_rfl
  i5 := by kernel_rfl
  i9 := by kernel_rfl
  i20 := by kernel_rfl
  i37 := by kernel_rfl
  i46 := by kernel_rfl
  i51 := by kernel_rfl
  i53 := by kernel_rfl
  i171 := by kernel_rfl
  i173 := by kernel_rfl
  i212 := by kernel_rfl
  i232 := by kernel_rfl
  i233 := by kernel_rfl
  m17 := by kernel_rfl
  m18 := by kernel_rfl
  m19 := by kernel_rfl }
open Go.RowKit Go.Sort Go.Lib in
theorem Tryd.strconv_Itoa (n : Int) (h0 : -9223372036854775808 ≤ n) (h1 : n ≤ 9223372036854775807) (w : World) (htab : Lib.TabIs Tryd.prog w "internal/strconv.uint64pow10" .u64 Lib.pow10Tab) :
    Calls Tryd.prog 28 #[.int .i64 n] w fun e w' => e = .returned (.string ⟨(Lib.itoa n).toArray⟩) ∧ ∃ k os, w' = grow (w.drewN k) os := Any.strconv_Itoa Tryd.laysM171 n h0 h1 w htab
def Tryd.laysM173_ren : Go.Shelf.Ren := ⟨fun | 173 => 47 | 246 => 61 | 283 => 71 | 284 => 72 | 285 => 73 | 286 => 74 | 129 => 79 | 317 => 78 | 318 => 80 | 319 => 81 | 320 => 82 | 337 => 86 | 338 => 87 | n => n, fun | 2 => 2 | 3 => 3 | 9 => 9 | 4 => 4 | 171 => 132 | 0 => 0 | 53 => 133 | 37 => 26 | 5 => 5 | 173 => 136 | 212 => 142 | 51 => 143 | 20 => 20 | 213 => 144 | 46 => 145 | 232 => 155 | 233 => 156 | n => n, fun | 17 => 2 | 18 => 4 | 19 => 5 | n => n⟩
theorem Tryd.laysM173 : Go.Proofs.LaysM.n173 Tryd.prog Tryd.laysM173_ren := {
  mixed := by kernel_rfl
  f129 := Tryd.func79.trans (congrArg some (by kernel_rfl))
  f173 := Tryd.func47.trans (congrArg some (by kernel_rfl))
  f246 := Tryd.func61.trans (congrArg some (by kernel_rfl))
  f283 := Tryd.func71.trans (congrArg some (by kernel_rfl))
  f284 := Tryd.func72.trans (congrArg some (by kernel_rfl))
  f285 := Tryd.func73.trans (congrArg some (by kernel_rfl))
  f286 := Tryd.func74.trans (congrArg some (by kernel_rfl))
  f317 := Tryd.func78.trans (congrArg some (by kernel_rfl))
  f318 := Tryd.func80.trans (congrArg some (by kernel_rfl))
  f319 := Tryd.func81.trans (congrArg some (by kernel_rfl))
  f320 := Tryd.func82.trans (congrArg some (by kernel_rfl))
  f337 := Tryd.func86.trans (congrArg some (by kernel_rfl))
  f338 := Tryd.func87.trans (congrArg some (by kernel_rfl))
  t0 := Tryd.underlying0
  a0 := Tryd.isAgg0
  z0 := Tryd.sizeOf0
  v0 := Tryd.zeroValue0
  t2 := Tryd.underlying2
  a2 := Tryd.isAgg2
  z2 := Tryd.sizeOf2
  v2 := Tryd.zeroValue2
  t3 := Tryd.underlying3
  a3 := Tryd.isAgg3
  z3 := Tryd.sizeOf3
  v3 := Tryd.zeroValue3
  t4 := Tryd.underlying4
  a4 := Tryd.isAgg4
  z4 := Tryd.sizeOf4
  v4 := Tryd.zeroValue4
  t5 := Tryd.underlying5
  a5 := Tryd.isAgg5
  z5 := Tryd.sizeOf5
  v5 := Tryd.zeroValue5
  t9 := Tryd.underlying9
  a9 := Tryd.isAgg9
  z9 := Tryd.sizeOf9
  v9 := Tryd.zeroValue9
  t20 := Tryd.underlying20
  a20 := Tryd.isAgg20
  z20 := Tryd.sizeOf20
  v20 := Tryd.zeroValue20
  t37 := Tryd.underlying26
  a37 := Tryd.isAgg26
  z37 := Tryd.sizeOf26
  v37 := Tryd.zeroValue26
  t46 := Tryd.underlying145
  a46 := Tryd.isAgg145
  z46 := Tryd.sizeOf145
  v46 := Tryd.zeroValue145
  t51 := Tryd.underlying143
  a51 := Tryd.isAgg143
  z51 := Tryd.sizeOf143
  v51 := Tryd.zeroValue143
  t53 := Tryd.underlying133
  a53 := Tryd.isAgg133
  z53 := Tryd.sizeOf133
  v53 := Tryd.zeroValue133
  t171 := Tryd.underlying132
  a171 := Tryd.isAgg132
  z171 := Tryd.sizeOf132
  v171 := Tryd.zeroValue132
  t173 := Tryd.underlying136
  a173 := Tryd.isAgg136
  z173 := Tryd.sizeOf136
  v173 := Tryd.zeroValue136
  t212 := Tryd.underlying142
  a212 := Tryd.isAgg142
  z212 := Tryd.sizeOf142
  v212 := Tryd.zeroValue142
  t213 := Tryd.underlying144
  a213 := Tryd.isAgg144
  z213 := Tryd.sizeOf144
  t232 := Tryd.underlying155
  a232 := Tryd.isAgg155
  z232 := Tryd.sizeOf155
  v232 := Tryd.zeroValue155
  t233 := Tryd.underlying156
  a233 := Tryd.isAgg156
  z233 := Tryd.sizeOf156
  v233 := Tryd.zeroValue156
  g17 := by kernel_rfl
  g18 := by kernel_rfl
  g19 := by kernel_rfl
  i0 := by kernel_rfl
  i2 := by kernel_rfl
  i3 := by kernel_rfl
  i4 := by kernel_rfl
  i5 := by kernel_rfl
  i9 := by kernel_rfl
  i20 := by kernel_rfl
  i37 := by kernel_rfl
  i46 := by kernel_rfl
  i51 := by kernel_rfl
  i53 := by kernel_rfl
  i171 := by kernel_rfl
  i173 := by kernel_rfl
  i212 := by kernel_rfl
  i232 := by kernel_rfl
  i233 := by kernel_rfl
  m17 := by kernel_rfl
  m18 := by kernel_rfl
  m19 := by kernel_rfl }
open Go.RowKit Go.Sort Go.Lib in
theorem Tryd.strconv_FormatInt_10 (n : Int) (h0 : -9223372036854775808 ≤ n) (h1 : n ≤ 9223372036854775807) (w : World) (htab : Lib.TabIs Tryd.prog w "internal/strconv.uint64pow10" .u64 Lib.pow10Tab) :
    Calls Tryd.prog 47 #[.int .i64 n, .int .i64 10] w fun e w' => e = .returned (.string ⟨(Lib.itoa n).toArray⟩) ∧ ∃ k os, w' = grow (w.drewN k) os := Any.strconv_FormatInt_10 Tryd.laysM173 n h0 h1 w htab
def Tryd.lays187_ren : Go.Shelf.Ren := ⟨fun | 187 => 75 | 255 => 83 | n => n, fun | 37 => 26 | 5 => 5 | 3 => 3 | n => n, fun | n => n⟩
theorem Tryd.lays187 : Go.Proofs.Lays.n187 Tryd.prog Tryd.lays187_ren := {
  mixed := by kernel_rfl
  f187 := Tryd.func75.trans (congrArg some (by kernel_rfl))
  f255 := Tryd.func83.trans (congrArg some (by kernel_rfl))
  t3 := Tryd.underlying3
  a3 := Tryd.isAgg3
  z3 := Tryd.sizeOf3
  v3 := Tryd.zeroValue3
  t5 := Tryd.underlying5
  a5 := Tryd.isAgg5
  z5 := Tryd.sizeOf5
  v5 := Tryd.zeroValue5
  t37 := Tryd.underlying26
  a37 := Tryd.isAgg26
  z37 := Tryd.sizeOf26
  v37 := Tryd.zeroValue26 }
theorem Tryd.bytes_IndexByte (b o n c : Nat) (xs : List Int) (cv : Int) (w : World) (hx : xs.length = n) (hc : ∀ i, i < n → w.cell? ⟨b, o + i, none⟩ = some (.int .u8 (xs.getD i 0))) :
    Calls Tryd.prog 75 #[.slice (some ⟨b, o, none⟩) n c, .int .u8 cv] w fun e w' => e = .returned (.int .i64 (Lib.indexByte (Lib.bytesOf xs) cv.toNat.toUInt8)) ∧ w' = w := Any.bytes_IndexByte Tryd.lays187 b o n c xs cv w hx hc
theorem Tryd.bytes_IndexByte_nil (cv : Int) (w : World) :
    Calls Tryd.prog 75 #[.slice none 0 0, .int .u8 cv] w fun e w' => e = .returned (.int .i64 (-1)) ∧ w' = w := Any.bytes_IndexByte_nil Tryd.lays187 cv w
end Go.Proofs
end
section
namespace Go.Proofs.YtkjdmbbaacjpmaaDoor.Num
def dbl (d : Int) : Int := if 2 * d > 9 then 2 * d - 9 else 2 * d
def lsum : List Int → Bool → Int
  | [], _ => 0
  | d :: t, b => (if b then dbl d else d) + lsum t (!b)
def Dig (l : List Int) : Prop := ∀ d ∈ l, 0 ≤ d ∧ d ≤ 9
theorem dbl_eq {d : Int} (h : 0 ≤ d) (h' : d ≤ 9) : d * 2 % 10 + d / 5 = dbl d := by unfold dbl; split <;> omega
theorem dbl_range {d : Int} (h : 0 ≤ d) (h' : d ≤ 9) : 0 ≤ dbl d ∧ dbl d ≤ 9 := by unfold dbl; split <;> omega
theorem lsum_range : ∀ (l : List Int) (b : Bool), Dig l → 0 ≤ lsum l b ∧ lsum l b ≤ 9 * l.length
  | [], _, _ => by simp [lsum]
  | d :: t, b, h => by
    have h1 := lsum_range t (!b) (fun x hx => h x (by simp [hx]))
    have h2 := h d (by simp)
    have h3 := dbl_range h2.1 h2.2
    simp only [lsum, List.length_cons]
    split <;> omega
def rdig : Nat → Nat → List Int
  | 0, _ => []
  | k + 1, n => ((n % 10 : Nat) : Int) :: rdig k (n / 10)
theorem rdig_length : ∀ (k n : Nat), (rdig k n).length = k
  | 0, _ => rfl
  | k + 1, n => by simp [rdig, rdig_length k]
theorem rdig_dig : ∀ (k n : Nat), Dig (rdig k n)
  | 0, _ => by intro d hd; simp [rdig] at hd
  | k + 1, n => by
    intro d hd
    simp only [rdig, List.mem_cons] at hd
    rcases hd with rfl | hd
    · omega
    · exact rdig_dig k _ d hd
theorem rdig_zero : ∀ (k : Nat) (b : Bool), lsum (rdig k 0) b = 0
  | 0, _ => rfl
  | k + 1, b => by
    simp only [rdig, lsum, Nat.zero_mod, Nat.zero_div, rdig_zero k]
    cases b <;> simp [dbl]
def dec : Nat → Int → List Int
  | 0, _ => []
  | k + 1, x => dec k (x / 10) ++ [48 + x % 10]
theorem dec_length : ∀ (k : Nat) (x : Int), (dec k x).length = k
  | 0, _ => rfl
  | k + 1, x => by simp [dec, dec_length k]
def behind (l : List Int) : List Int := (l.map fun c => c - 48).reverse
theorem behind_length (l : List Int) : (behind l).length = l.length := by simp [behind]
def short (n : Nat) : List Int := (Lib.decDigits n).map fun c => (c.toNat : Int)
theorem short_small {n : Nat} (h : n < 10) : short n = [48 + (n : Int)] := by
  have e : (UInt8.ofNat (48 + n)).toNat = 48 + n := by simp [UInt8.toNat_ofNat']; omega
  unfold short
  rw [Lib.decDigits, dif_pos h]
  simp only [List.map_cons, List.map_nil, e]
  congr 1
theorem short_big {n : Nat} (h : ¬ n < 10) : short n = short (n / 10) ++ [48 + ((n % 10 : Nat) : Int)] := by
  have e : (UInt8.ofNat (48 + n % 10)).toNat = 48 + n % 10 := by simp [UInt8.toNat_ofNat']; omega
  unfold short
  rw [Lib.decDigits, dif_neg h]
  simp only [List.map_append, List.map_cons, List.map_nil, e]
  congr 1
theorem behind_append (l : List Int) (c : Int) : behind (l ++ [c]) = (c - 48) :: behind l := by simp [behind]
theorem short_lsum : ∀ (k n : Nat) (b : Bool), n < 10 ^ (k + 1) → lsum (behind (short n)) b = lsum (rdig (k + 1) n) b
  | k, n, b, h => by
    by_cases hn : n < 10
    · rw [short_small hn]
      have e : n % 10 = n := by omega
      have e0 : n / 10 = 0 := by omega
      have e2 : (48 + (n : Int) - 48) = (n : Int) := by omega
      simp only [behind, List.map_cons, List.map_nil, List.reverse_cons, List.reverse_nil, List.nil_append, rdig, lsum, e, e0, rdig_zero, e2]
    · match k with
      | 0 => omega
      | k + 1 =>
        have h' : n / 10 < 10 ^ (k + 1) := by rw [Nat.pow_succ] at h; omega
        have ih := short_lsum k (n / 10) (!b) h'
        have e2 : (48 + ((n % 10 : Nat) : Int) - 48) = ((n % 10 : Nat) : Int) := by omega
        rw [short_big hn, behind_append, e2]
        simp only [lsum, ih, rdig]
theorem short_dig : ∀ (n : Nat), Dig (behind (short n)) := by
  intro n
  induction n using Nat.strongRecOn with
  | _ n ih =>
    by_cases hn : n < 10
    · rw [short_small hn]
      intro d hd
      simp [behind] at hd
      omega
    · rw [short_big hn, behind_append]
      intro d hd
      simp only [List.mem_cons] at hd
      rcases hd with rfl | hd
      · omega
      · exact ih (n / 10) (by omega) d hd
theorem short_length (n : Nat) : ∀ k, n < 10 ^ (k + 1) → (short n).length ≤ k + 1 := by
  induction n using Nat.strongRecOn with
  | _ n ih =>
    intro k h
    by_cases hn : n < 10
    · rw [short_small hn]; simp
    · match k with
      | 0 => omega
      | k + 1 =>
        rw [short_big hn]
        have := ih (n / 10) (by omega) k (by rw [Nat.pow_succ] at h; omega)
        simp only [List.length_append, List.length_cons, List.length_nil]; omega
end Go.Proofs.YtkjdmbbaacjpmaaDoor.Num
end
section
namespace Go.Proofs.YtkjdmbbaacjpmaaDoor.D
open Go.RowKit Go.Proofs.YtkjdmbbaacjpmaaDoorW.PrintWords Go.Proofs.YtkjdmbbaacjpmaaDoorW.PrintLast Go.Proofs.YtkjdmbbaacjpmaaDoorW.PrintMore
attribute [local go_sem] max2_int min2_int max_two min_two max_three min_three max_four min_four
set_option linter.unusedVariables false
set_option linter.unusedSimpArgs false
def errW : Option Int → Value
  | none => .nilIface
  | some c => .iface 0 (.int .i64 c)
theorem errW_none : errW none = .nilIface := rfl
theorem errW_some (c : Int) : errW (some c) = .iface 0 (.int .i64 c) := rfl
theorem info5 : (Tryd.prog.info? 5).map (fun i => (i.zero, i.size, i.bytes)) = some (some (.int .u8 0), 1, 1) := by kernel_rfl
end Go.Proofs.YtkjdmbbaacjpmaaDoor.D
end
section
namespace Go.Proofs.YtkjdmbbaacjpmaaDoor.D
open Go.RowKit Go.Proofs.YtkjdmbbaacjpmaaDoorW.PrintWords Go.Proofs.YtkjdmbbaacjpmaaDoorW.PrintLast Go.Proofs.YtkjdmbbaacjpmaaDoorW.PrintMore
attribute [local go_sem] max2_int min2_int max_two min_two max_three min_three max_four min_four
set_option linter.unusedVariables false
set_option linter.unusedSimpArgs false
end Go.Proofs.YtkjdmbbaacjpmaaDoor.D
end
section
namespace Go.Proofs.YtkjdmbbaacjpmaaDoor.D
open Go.RowKit Go.Proofs.YtkjdmbbaacjpmaaDoorW.PrintWords Go.Proofs.YtkjdmbbaacjpmaaDoorW.PrintLast Go.Proofs.YtkjdmbbaacjpmaaDoorW.PrintMore
attribute [local go_sem] max2_int min2_int max_two min_two max_three min_three max_four min_four
set_option linter.unusedVariables false
set_option linter.unusedSimpArgs false
end Go.Proofs.YtkjdmbbaacjpmaaDoor.D
end
section
namespace Go.Proofs.YtkjdmbbaacjpmaaDoor.D
open Go.RowKit Go.Proofs.YtkjdmbbaacjpmaaDoorW.PrintWords Go.Proofs.YtkjdmbbaacjpmaaDoorW.PrintLast Go.Proofs.YtkjdmbbaacjpmaaDoorW.PrintMore
attribute [local go_sem] max2_int min2_int max_two min_two max_three min_three max_four min_four
set_option linter.unusedVariables false
set_option linter.unusedSimpArgs false
end Go.Proofs.YtkjdmbbaacjpmaaDoor.D
end
section
namespace Go.Proofs.YtkjdmbbaacjpmaaDoor.D
open Go.RowKit Go.Proofs.YtkjdmbbaacjpmaaDoorW.PrintWords Go.Proofs.YtkjdmbbaacjpmaaDoorW.PrintLast Go.Proofs.YtkjdmbbaacjpmaaDoorW.PrintMore
attribute [local go_sem] max2_int min2_int max_two min_two max_three min_three max_four min_four
set_option linter.unusedVariables false
set_option linter.unusedSimpArgs false
end Go.Proofs.YtkjdmbbaacjpmaaDoor.D
end
section
namespace Go.Proofs.YtkjdmbbaacjpmaaDoor.D
open Go.RowKit Go.Proofs.YtkjdmbbaacjpmaaDoorW.PrintWords Go.Proofs.YtkjdmbbaacjpmaaDoorW.PrintLast Go.Proofs.YtkjdmbbaacjpmaaDoorW.PrintMore
attribute [local go_sem] max2_int min2_int max_two min_two max_three min_three max_four min_four
set_option linter.unusedVariables false
set_option linter.unusedSimpArgs false
def lockbox_luhn.l0 : Nat → ByteArray → Bool → Int → Int → Int → Option (Int)
  | 0, _, _, _, _, _ => none
  | k + 1, x0, x1, x5, x9, x10 => if x10 < x9 then (if 0 ≤ (wrap64 ((wrap64 ((x0.size : Int) - 1)) - x10)) then (if (wrap64 ((wrap64 ((x0.size : Int) - 1)) - x10)) < (x0.size : Int) then (if x1 = true then (lockbox_luhn.l0 k x0 (!x1) (wrap64 (x5 + ((((((bt x0 (wrap64 ((wrap64 ((x0.size : Int) - 1)) - x10))) - 48) % 256) * 2) % 10) + ((((bt x0 (wrap64 ((wrap64 ((x0.size : Int) - 1)) - x10))) - 48) % 256) / 5)))) x9 (wrap64 (x10 + 1))) else (lockbox_luhn.l0 k x0 (!x1) (wrap64 (x5 + (((bt x0 (wrap64 ((wrap64 ((x0.size : Int) - 1)) - x10))) - 48) % 256))) x9 (wrap64 (x10 + 1)))) else (none)) else (none)) else (some x5)
def lockbox_luhn.f (k : Nat) (a0 : ByteArray) (a1 : Bool) : Option (Int) := lockbox_luhn.l0 k a0 a1 0 (a0.size : Int) 0
theorem lockbox_luhn.mono_l : ∀ k, (∀ y0 y1 y2 y3 y4, LeO (lockbox_luhn.l0 k y0 y1 y2 y3 y4) (lockbox_luhn.l0 (k + 1) y0 y1 y2 y3 y4))
  | 0 => fun _ _ _ _ _ r h => by simp [lockbox_luhn.l0] at h
  | k + 1 => by
    have ih0 := lockbox_luhn.mono_l k
    · intro y0 y1 y2 y3 y4
      unfold lockbox_luhn.l0
      repeat' first
      | (with_reducible exact ih0 _ _ _ _ _)
      | (with_reducible exact LeO.refl _)
      | (with_reducible exact LeO.none _)
      | (with_reducible refine LeO.ite ?_ ?_)
      | (with_reducible refine LeO.bind ?_ (fun _ => ?_))
      | exact ih0 _ _ _ _ _
      | exact LeO.none _
      | refine LeO.ite ?_ ?_
      | refine LeO.bind ?_ (fun _ => ?_)
theorem lockbox_luhn.mono : ∀ a0 a1 k, LeO (lockbox_luhn.f k a0 a1) (lockbox_luhn.f (k + 1) a0 a1) := by
  intro a0 a1 k
  have ih0 := lockbox_luhn.mono_l k
  unfold lockbox_luhn.f
  repeat' first
      | (with_reducible exact ih0 _ _ _ _ _)
      | (with_reducible exact LeO.refl _)
      | (with_reducible exact LeO.none _)
      | (with_reducible refine LeO.ite ?_ ?_)
      | (with_reducible refine LeO.bind ?_ (fun _ => ?_))
      | exact ih0 _ _ _ _ _
      | exact LeO.none _
      | refine LeO.ite ?_ ?_
      | refine LeO.bind ?_ (fun _ => ?_)
set_option maxHeartbeats 8000000 in
set_option maxRecDepth 100000 in
theorem lockbox_luhn.calls (k : Nat) (a0 : ByteArray) (a1 : Bool) (r : Int) (w : World) (h : lockbox_luhn.f k a0 a1 = some r) :
    Calls Tryd.prog 27 #[.string a0, .bool a1] w fun e w' => e = .returned (.int .i64 r) ∧ Drawn0 w w' := by
  have H : (lockbox_luhn.l0 k a0 a1 0 (a0.size : Int) 0) = some r := h
  clear h
  have H' := Aside0.mk H
  clear H
  go_enter Tryd.func27, Tryd.ntmps27
  go_wp2
  go_loopg [1, 5, 10] k (fun kq v1 v5 v10 w' => ∃ (x1_1 : Bool) (x5_1 : Int) (x10_1 : Int), v1 = .bool x1_1 ∧ v5 = .int .i64 x5_1 ∧ v10 = .int .i64 x10_1 ∧ Aside0 (lockbox_luhn.l0 kq a0 x1_1 x5_1 (a0.size : Int) x10_1 = some r) ∧ Aside0 (kq ≤ k) ∧ Drawn0 w w')
  case atStart => exact ⟨(a1), (0), (0), (by first | rfl | (simp; done) | (simp [*]; done)), (by first | rfl | (simp; done) | (simp [*]; done)), (by first | rfl | (simp; done) | (simp [*]; done)), H', ⟨Nat.le_refl _⟩, by repeat (first | exact Drawn0.refl _ | apply Drawn0.step)⟩
  case round =>
    clear H'
    try clear c2
    try clear p2
    obtain ⟨x1_1, x5_1, x10_1, rfl, rfl, rfl, HA, HK1, ⟨m1, rfl⟩⟩ := hrel
    cases gk with
    | zero => exact absurd HA.out (by simp [lockbox_luhn.l0])
    | succ k1 =>
      have H := HA.out
      clear HA
      simp only [lockbox_luhn.l0] at H
      by_cases c3 : x10_1 < (a0.size : Int)
      · rw [if_pos c3] at H
        have c3b0 : decide (x10_1 < (a0.size : Int)) = true := decide_eq_true c3
        clear c3
        obtain ⟨ji4, hji4⟩ : ∃ j_ : Int, (wrap64 ((wrap64 ((a0.size : Int) - 1)) - x10_1)) = j_ := ⟨_, rfl⟩
        replace H : (if 0 ≤ (ji4) then (if (ji4) < (a0.size : Int) then (if x1_1 = true then (lockbox_luhn.l0 k1 a0 (!x1_1) (wrap64 (x5_1 + ((((((bt a0 (ji4)) - 48) % 256) * 2) % 10) + ((((bt a0 (ji4)) - 48) % 256) / 5)))) (a0.size : Int) (wrap64 (x10_1 + 1))) else (lockbox_luhn.l0 k1 a0 (!x1_1) (wrap64 (x5_1 + (((bt a0 (ji4)) - 48) % 256))) (a0.size : Int) (wrap64 (x10_1 + 1)))) else (none)) else (none)) = some r := by first | (rw [hji4] at H; exact H) | (simp only [hji4] at H ⊢; exact H)
        have hji4w : (IntKind.i64.wrap ((wrap64 ((a0.size : Int) - 1)) - x10_1)) = ji4 := (i64_w _).trans hji4
        by_cases c5 : 0 ≤ (ji4)
        · rw [if_pos c5] at H
          have c5b0 : decide (0 ≤ (ji4)) = true := decide_eq_true c5
          clear c5
          by_cases c6 : (ji4) < (a0.size : Int)
          · rw [if_pos c6] at H
            have c6b0 : decide ((ji4) < (a0.size : Int)) = true := decide_eq_true c6
            clear c6
            by_cases c8 : x1_1 = true
            · subst c8
              have H1 : (lockbox_luhn.l0 k1 a0 (!true) (wrap64 (x5_1 + ((((((bt a0 (ji4)) - 48) % 256) * 2) % 10) + ((((bt a0 (ji4)) - 48) % 256) / 5)))) (a0.size : Int) (wrap64 (x10_1 + 1))) = some r := by rw [if_pos rfl] at H; exact H
              clear H
              have H := H1
              clear H1
              have H' := Aside0.mk H
              clear H
              have p7 : 0 ≤ ((ji4) : Int) := of_decide_eq_true (by first | (with_reducible assumption) | assumption)
              have q7 : (ji4) < (a0.size : Int) := of_decide_eq_true (by first | (with_reducible assumption) | assumption)
              have hx7 := bt_at a0 (ji4)
              replace p7 := eq_true p7
              replace q7 := eq_true q7
              go_wp2
              go_roundg k1
              case measure => have := HK1.out; omega
              case rel => exact ⟨(!true), (wrap64 (x5_1 + ((((((bt a0 (ji4)) - 48) % 256) * 2) % 10) + ((((bt a0 (ji4)) - 48) % 256) / 5)))), (wrap64 (x10_1 + 1)), (by first | rfl | (simp; done) | (simp [*]; done)), (by first | rfl | (simp; done) | (simp only [← hji4] <;> (first | rfl | simp)) | (simp [*]; done)), (by first | rfl | (simp; done) | (simp [*]; done)), H', ⟨by have := HK1.out; omega⟩, by repeat (first | exact Drawn0.refl _ | apply Drawn0.step)⟩
            · replace c8 := Bool.eq_false_iff.mpr c8
              subst c8
              have H1 : (lockbox_luhn.l0 k1 a0 (!false) (wrap64 (x5_1 + (((bt a0 (ji4)) - 48) % 256))) (a0.size : Int) (wrap64 (x10_1 + 1))) = some r := by rw [if_neg (show ¬ (false = true) by decide)] at H; exact H
              clear H
              have H := H1
              clear H1
              have H' := Aside0.mk H
              clear H
              have p7 : 0 ≤ ((ji4) : Int) := of_decide_eq_true (by first | (with_reducible assumption) | assumption)
              have q7 : (ji4) < (a0.size : Int) := of_decide_eq_true (by first | (with_reducible assumption) | assumption)
              have hx7 := bt_at a0 (ji4)
              replace p7 := eq_true p7
              replace q7 := eq_true q7
              go_wp2
              go_roundg k1
              case measure => have := HK1.out; omega
              case rel => exact ⟨(!false), (wrap64 (x5_1 + (((bt a0 (ji4)) - 48) % 256))), (wrap64 (x10_1 + 1)), (by first | rfl | (simp; done) | (simp [*]; done)), (by first | rfl | (simp; done) | (simp only [← hji4] <;> (first | rfl | simp)) | (simp [*]; done)), (by first | rfl | (simp; done) | (simp [*]; done)), H', ⟨by have := HK1.out; omega⟩, by repeat (first | exact Drawn0.refl _ | apply Drawn0.step)⟩
          · rw [if_neg c6] at H
            exact absurd H (by simp)
        · rw [if_neg c5] at H
          exact absurd H (by simp)
      · rw [if_neg c3] at H
        have c3b0 : decide (x10_1 < (a0.size : Int)) = false := decide_eq_false c3
        clear c3
        obtain rfl := Option.some.inj H
        go_wp2
        go_ret
        exact ⟨by first | rfl | (simp; done) | (simp [*]; done), by repeat (first | exact Drawn0.refl _ | apply Drawn0.step)⟩
end Go.Proofs.YtkjdmbbaacjpmaaDoor.D
end
section
namespace Go.Proofs.YtkjdmbbaacjpmaaDoor.D
open Go.RowKit Go.Proofs.YtkjdmbbaacjpmaaDoorW.PrintWords Go.Proofs.YtkjdmbbaacjpmaaDoorW.PrintLast Go.Proofs.YtkjdmbbaacjpmaaDoorW.PrintMore
attribute [local go_sem] max2_int min2_int max_two min_two max_three min_three max_four min_four
set_option linter.unusedVariables false
set_option linter.unusedSimpArgs false
def lockbox_allDigits.l0 : Nat → ByteArray → Int → Int → Option (Bool)
  | 0, _, _, _ => none
  | k + 1, x0, x5, x6 => if x6 < x5 then (if 0 ≤ x6 then (if x6 < (x0.size : Int) then (if (bt x0 x6) < 48 then (some false) else (if (bt x0 x6) > 57 then (some false) else (lockbox_allDigits.l0 k x0 x5 (wrap64 (x6 + 1))))) else (none)) else (none)) else (some true)
def lockbox_allDigits.f (k : Nat) (a0 : ByteArray) : Option (Bool) := lockbox_allDigits.l0 k a0 (a0.size : Int) 0
theorem lockbox_allDigits.mono_l : ∀ k, (∀ y0 y1 y2, LeO (lockbox_allDigits.l0 k y0 y1 y2) (lockbox_allDigits.l0 (k + 1) y0 y1 y2))
  | 0 => fun _ _ _ r h => by simp [lockbox_allDigits.l0] at h
  | k + 1 => by
    have ih0 := lockbox_allDigits.mono_l k
    · intro y0 y1 y2
      unfold lockbox_allDigits.l0
      repeat' first
      | (with_reducible exact ih0 _ _ _)
      | (with_reducible exact LeO.refl _)
      | (with_reducible exact LeO.none _)
      | (with_reducible refine LeO.ite ?_ ?_)
      | (with_reducible refine LeO.bind ?_ (fun _ => ?_))
      | exact ih0 _ _ _
      | exact LeO.none _
      | refine LeO.ite ?_ ?_
      | refine LeO.bind ?_ (fun _ => ?_)
theorem lockbox_allDigits.mono : ∀ a0 k, LeO (lockbox_allDigits.f k a0) (lockbox_allDigits.f (k + 1) a0) := by
  intro a0 k
  have ih0 := lockbox_allDigits.mono_l k
  unfold lockbox_allDigits.f
  repeat' first
      | (with_reducible exact ih0 _ _ _)
      | (with_reducible exact LeO.refl _)
      | (with_reducible exact LeO.none _)
      | (with_reducible refine LeO.ite ?_ ?_)
      | (with_reducible refine LeO.bind ?_ (fun _ => ?_))
      | exact ih0 _ _ _
      | exact LeO.none _
      | refine LeO.ite ?_ ?_
      | refine LeO.bind ?_ (fun _ => ?_)
set_option maxHeartbeats 8000000 in
set_option maxRecDepth 100000 in
theorem lockbox_allDigits.calls (k : Nat) (a0 : ByteArray) (r : Bool) (w : World) (h : lockbox_allDigits.f k a0 = some r) :
    Calls Tryd.prog 31 #[.string a0] w fun e w' => e = .returned (.bool r) ∧ Drawn0 w w' := by
  have H : (lockbox_allDigits.l0 k a0 (a0.size : Int) 0) = some r := h
  clear h
  have H' := Aside0.mk H
  clear H
  go_enter Tryd.func31, Tryd.ntmps31
  go_wp2
  go_loopg [6] k (fun kq v6 w' => ∃ (x6_1 : Int), v6 = .int .i64 x6_1 ∧ Aside0 (lockbox_allDigits.l0 kq a0 (a0.size : Int) x6_1 = some r) ∧ Aside0 (kq ≤ k) ∧ Drawn0 w w')
  case atStart => exact ⟨(0), (by first | rfl | (simp; done) | (simp [*]; done)), H', ⟨Nat.le_refl _⟩, by repeat (first | exact Drawn0.refl _ | apply Drawn0.step)⟩
  case round =>
    clear H'
    obtain ⟨x6_1, rfl, HA, HK1, ⟨m1, rfl⟩⟩ := hrel
    cases gk with
    | zero => exact absurd HA.out (by simp [lockbox_allDigits.l0])
    | succ k1 =>
      have H := HA.out
      clear HA
      simp only [lockbox_allDigits.l0] at H
      by_cases c2 : x6_1 < (a0.size : Int)
      · rw [if_pos c2] at H
        have c2b0 : decide (x6_1 < (a0.size : Int)) = true := decide_eq_true c2
        clear c2
        by_cases c3 : 0 ≤ x6_1
        · rw [if_pos c3] at H
          have c3b0 : decide (0 ≤ x6_1) = true := decide_eq_true c3
          clear c3
          by_cases c4 : x6_1 < (a0.size : Int)
          · rw [if_pos c4] at H
            have c4b0 : decide (x6_1 < (a0.size : Int)) = true := decide_eq_true c4
            clear c4
            by_cases c6 : (bt a0 x6_1) < 48
            · rw [if_pos c6] at H
              have c6b0 : decide ((bt a0 x6_1) < 48) = true := decide_eq_true c6
              clear c6
              obtain rfl := Option.some.inj H
              have p5 : 0 ≤ (x6_1 : Int) := of_decide_eq_true (by first | (with_reducible assumption) | assumption)
              have q5 : x6_1 < (a0.size : Int) := of_decide_eq_true (by first | (with_reducible assumption) | assumption)
              have hx5 := bt_at a0 x6_1
              replace p5 := eq_true p5
              replace q5 := eq_true q5
              go_wp2
              go_ret
              exact ⟨by first | rfl | (simp; done) | (simp [*]; done), by repeat (first | exact Drawn0.refl _ | apply Drawn0.step)⟩
            · rw [if_neg c6] at H
              have c6b0 : decide ((bt a0 x6_1) < 48) = false := decide_eq_false c6
              clear c6
              by_cases c8 : (bt a0 x6_1) > 57
              · rw [if_pos c8] at H
                have c8b0 : decide (57 < (bt a0 x6_1)) = true := decide_eq_true c8
                clear c8
                obtain rfl := Option.some.inj H
                have p5 : 0 ≤ (x6_1 : Int) := of_decide_eq_true (by first | (with_reducible assumption) | assumption)
                have q5 : x6_1 < (a0.size : Int) := of_decide_eq_true (by first | (with_reducible assumption) | assumption)
                have hx5 := bt_at a0 x6_1
                replace p5 := eq_true p5
                replace q5 := eq_true q5
                have p7 : 0 ≤ (x6_1 : Int) := of_decide_eq_true (by first | (with_reducible assumption) | assumption)
                have q7 : x6_1 < (a0.size : Int) := of_decide_eq_true (by first | (with_reducible assumption) | assumption)
                have hx7 := bt_at a0 x6_1
                replace p7 := eq_true p7
                replace q7 := eq_true q7
                go_wp2
                go_ret
                exact ⟨by first | rfl | (simp; done) | (simp [*]; done), by repeat (first | exact Drawn0.refl _ | apply Drawn0.step)⟩
              · rw [if_neg c8] at H
                have c8b0 : decide (57 < (bt a0 x6_1)) = false := decide_eq_false c8
                clear c8
                have H' := Aside0.mk H
                clear H
                have p5 : 0 ≤ (x6_1 : Int) := of_decide_eq_true (by first | (with_reducible assumption) | assumption)
                have q5 : x6_1 < (a0.size : Int) := of_decide_eq_true (by first | (with_reducible assumption) | assumption)
                have hx5 := bt_at a0 x6_1
                replace p5 := eq_true p5
                replace q5 := eq_true q5
                have p7 : 0 ≤ (x6_1 : Int) := of_decide_eq_true (by first | (with_reducible assumption) | assumption)
                have q7 : x6_1 < (a0.size : Int) := of_decide_eq_true (by first | (with_reducible assumption) | assumption)
                have hx7 := bt_at a0 x6_1
                replace p7 := eq_true p7
                replace q7 := eq_true q7
                go_wp2
                go_roundg k1
                case measure => have := HK1.out; omega
                case rel => exact ⟨(wrap64 (x6_1 + 1)), (by first | rfl | (simp; done) | (simp [*]; done)), H', ⟨by have := HK1.out; omega⟩, by repeat (first | exact Drawn0.refl _ | apply Drawn0.step)⟩
          · rw [if_neg c4] at H
            exact absurd H (by simp)
        · rw [if_neg c3] at H
          exact absurd H (by simp)
      · rw [if_neg c2] at H
        have c2b0 : decide (x6_1 < (a0.size : Int)) = false := decide_eq_false c2
        clear c2
        obtain rfl := Option.some.inj H
        go_wp2
        go_ret
        exact ⟨by first | rfl | (simp; done) | (simp [*]; done), by repeat (first | exact Drawn0.refl _ | apply Drawn0.step)⟩
end Go.Proofs.YtkjdmbbaacjpmaaDoor.D
end
section
namespace Go.Proofs.YtkjdmbbaacjpmaaDoor.D
open Go.RowKit Go.Proofs.YtkjdmbbaacjpmaaDoorW.PrintWords Go.Proofs.YtkjdmbbaacjpmaaDoorW.PrintLast Go.Proofs.YtkjdmbbaacjpmaaDoorW.PrintMore
attribute [local go_sem] max2_int min2_int max_two min_two max_three min_three max_four min_four
set_option linter.unusedVariables false
set_option linter.unusedSimpArgs false
def lockbox_Valid.f (k : Nat) (a0 : ByteArray) : Option (Bool) := if (a0.size : Int) > 1 then ((lockbox_allDigits.f k a0).bind fun t114 => (if t114 = true then ((lockbox_luhn.f k a0 false).bind fun t115 => (some ((Int.tmod t115 10) == 0))) else (some false))) else (some false)
theorem lockbox_Valid.mono : ∀ a0 k, LeO (lockbox_Valid.f k a0) (lockbox_Valid.f (k + 1) a0) := by
  intro a0 k
  unfold lockbox_Valid.f
  repeat' first
      | (with_reducible exact lockbox_allDigits.mono _ _)
      | (with_reducible exact lockbox_luhn.mono _ _ _)
      | (with_reducible exact LeO.refl _)
      | (with_reducible exact LeO.none _)
      | (with_reducible refine LeO.ite ?_ ?_)
      | (with_reducible refine LeO.bind ?_ (fun _ => ?_))
      | exact lockbox_allDigits.mono _ _
      | exact lockbox_luhn.mono _ _ _
      | exact LeO.none _
      | refine LeO.ite ?_ ?_
      | refine LeO.bind ?_ (fun _ => ?_)
set_option maxHeartbeats 8000000 in
set_option maxRecDepth 100000 in
theorem lockbox_Valid.calls (k : Nat) (a0 : ByteArray) (r : Bool) (w : World) (h : lockbox_Valid.f k a0 = some r) :
    Calls Tryd.prog 11 #[.string a0] w fun e w' => e = .returned (.bool r) ∧ Drawn0 w w' := by
  have H : (if (a0.size : Int) > 1 then ((lockbox_allDigits.f k a0).bind fun t114 => (if t114 = true then ((lockbox_luhn.f k a0 false).bind fun t115 => (some ((Int.tmod t115 10) == 0))) else (some false))) else (some false)) = some r := h
  clear h
  by_cases c2 : (a0.size : Int) > 1
  · rw [if_pos c2] at H
    have c2b0 : decide (1 < (a0.size : Int)) = true := decide_eq_true c2
    have c2b1 : decide (1 < a0.size) = true := decide_eq_true (by omega)
    clear c2
    replace H := Option.bind_eq_some_iff.mp H
    obtain ⟨t114, A30, H⟩ := H
    replace H : (if t114 = true then ((lockbox_luhn.f k a0 false).bind fun t115 => (some ((Int.tmod t115 10) == 0))) else (some false)) = some r := H
    have A3 := Aside0.mk A30
    clear A30
    by_cases c4 : t114 = true
    · subst c4
      have H1 : ((lockbox_luhn.f k a0 false).bind fun t115 => (some ((Int.tmod t115 10) == 0))) = some r := by rw [if_pos rfl] at H; exact H
      clear H
      have H := H1
      clear H1
      replace H := Option.bind_eq_some_iff.mp H
      obtain ⟨t115, A50, H⟩ := H
      replace H : (some ((Int.tmod t115 10) == 0)) = some r := H
      have A5 := Aside0.mk A50
      clear A50
      obtain rfl := Option.some.inj H
      go_enter Tryd.func11, Tryd.ntmps11
      go_wp2_with (first | (go_at_call 31; (with_reducible refine (lockbox_allDigits.calls k a0 true _ A3.out).mono ?_); rintro e w' ⟨rfl, ⟨nd, rfl⟩⟩) | (go_at_call 27; (with_reducible refine (lockbox_luhn.calls k a0 false t115 _ A5.out).mono ?_); rintro e w' ⟨rfl, ⟨nd, rfl⟩⟩))
      go_ret
      exact ⟨by first | rfl | (simp; done) | (simp [*]; done), by repeat (first | exact Drawn0.refl _ | apply Drawn0.step)⟩
    · replace c4 := Bool.eq_false_iff.mpr c4
      subst c4
      have H1 : (some false) = some r := by rw [if_neg (show ¬ (false = true) by decide)] at H; exact H
      clear H
      have H := H1
      clear H1
      obtain rfl := Option.some.inj H
      go_enter Tryd.func11, Tryd.ntmps11
      go_wp2_with (first | (go_at_call 31; (with_reducible refine (lockbox_allDigits.calls k a0 false _ A3.out).mono ?_); rintro e w' ⟨rfl, ⟨nd, rfl⟩⟩))
      go_ret
      exact ⟨by first | rfl | (simp; done) | (simp [*]; done), by repeat (first | exact Drawn0.refl _ | apply Drawn0.step)⟩
  · rw [if_neg c2] at H
    have c2b0 : decide (1 < (a0.size : Int)) = false := decide_eq_false c2
    have c2b1 : decide (1 < a0.size) = false := decide_eq_false (by omega)
    clear c2
    obtain rfl := Option.some.inj H
    go_enter Tryd.func11, Tryd.ntmps11
    go_wp2
    go_ret
    exact ⟨by first | rfl | (simp; done) | (simp [*]; done), by repeat (first | exact Drawn0.refl _ | apply Drawn0.step)⟩
end Go.Proofs.YtkjdmbbaacjpmaaDoor.D
end
section
namespace Go.Proofs.YtkjdmbbaacjpmaaDoor.DDigits
open Go.RowKit Go.Proofs.YtkjdmbbaacjpmaaDoor.D Go.Proofs.YtkjdmbbaacjpmaaDoor.Num Go.Proofs.YtkjdmbbaacjpmaaDoorW.PrintWords
theorem wrN (j : Nat) (h : j ≤ 1000000000000000) : wrap64 ((j : Int) + 1) = ((j + 1 : Nat) : Int) := by unfold wrap64; omega
theorem wrI {i : Int} (h0 : -1000000000000000000 ≤ i) (h : i ≤ 1000000000000000000) : wrap64 i = i := by unfold wrap64; omega
theorem rd_nat (l : List Int) (j : Nat) : rd l (j : Int) = l.getD j 0 := by unfold rd; simp
theorem getD_at (l : List Int) (j : Nat) (h : j < l.length) : l.getD j 0 = l[j] := by
  rw [List.getD_eq_getElem?_getD, List.getElem?_eq_getElem h]; rfl
theorem bytes_length (s : ByteArray) : (bytesOf s).length = s.size := by simp [bytesOf]
theorem bt_bytes (s : ByteArray) (j : Nat) (h : j < (bytesOf s).length) : bt s (j : Int) = (bytesOf s)[j] := by
  rw [← rd_bytesOf, rd_nat, getD_at _ _ h]
theorem behind_at (l : List Int) (i : Nat) (h : i < (behind l).length) : (behind l)[i] = l[l.length - 1 - i]'(by rw [behind_length] at h; omega) - 48 := by
  simp [behind]
theorem luhn_loop (s : ByteArray) (hs : s.size ≤ 140737488351232) (hd : Dig (behind (bytesOf s))) (d : Nat) :
    ∀ (i : Nat) (b : Bool) (acc : Int), i + d = s.size → 0 ≤ acc → acc ≤ 9 * i →
      Ev (fun k => lockbox_luhn.l0 k s b acc s.size i) (acc + lsum ((behind (bytesOf s)).drop i) b) := by
  have hn := bytes_length s
  have hb := behind_length (bytesOf s)
  induction d with
  | zero =>
    intro i b acc h h0 h1
    rw [List.drop_of_length_le (by omega)]
    simp only [lsum, Int.add_zero]
    refine Ev.step (fun k => ?_) (Ev.now acc)
    simp only [lockbox_luhn.l0]
    rw [if_neg (by omega)]
  | succ d ih =>
    intro i b acc h h0 h1
    have hi : i < (behind (bytesOf s)).length := by omega
    have hdg := hd _ (List.getElem_mem hi)
    have hx := behind_at (bytesOf s) i hi
    have hx2 := bt_bytes s ((bytesOf s).length - 1 - i) (by omega)
    rw [hx, ← hx2] at hdg
    have e1 : wrap64 (wrap64 ((s.size : Int) - 1) - (i : Int)) = (((bytesOf s).length - 1 - i : Nat) : Int) := by
      rw [wrI (i := (s.size : Int) - 1) (by omega) (by omega), wrI (by omega) (by omega)]; omega
    rw [List.drop_eq_getElem_cons hi, hx, ← hx2]
    simp only [lsum]
    rw [← Int.add_assoc]
    generalize hv : bt s (((bytesOf s).length - 1 - i : Nat) : Int) = v at hdg
    have e2 : (v - 48) % 256 = v - 48 := by omega
    have hr := dbl_range hdg.1 hdg.2
    refine Ev.step (fun k => ?_) (ih (i + 1) (!b) (acc + if b = true then dbl (v - 48) else v - 48) (by omega) (by split <;> omega) (by split <;> omega))
    have g1 : (i : Int) < (s.size : Int) := by omega
    have g2 : 0 ≤ (((bytesOf s).length - 1 - i : Nat) : Int) := by omega
    have g3 : (((bytesOf s).length - 1 - i : Nat) : Int) < (s.size : Int) := by omega
    simp only [lockbox_luhn.l0]
    rw [if_pos g1, e1, if_pos g2, if_pos g3, hv, e2, wrN i (by omega)]
    cases b with
    | true =>
      rw [if_pos rfl, if_pos rfl, dbl_eq hdg.1 hdg.2, wrI (by omega) (by omega)]
    | false =>
      rw [if_neg (by simp), if_neg (by simp), wrI (by omega) (by omega)]
theorem luhn_ev (s : ByteArray) (hs : s.size ≤ 140737488351232) (hd : Dig (behind (bytesOf s))) (b : Bool) :
    Ev (fun k => lockbox_luhn.f k s b) (lsum (behind (bytesOf s)) b) := by
  have := luhn_loop s hs hd s.size 0 b 0 (by omega) (by omega) (by omega)
  rw [List.drop_zero, Int.zero_add] at this
  exact Ev.congr (fun k => rfl) this
def chk (n : Int) : Int := (10 - lsum (rdig 6 n.toNat) true % 10) % 10
def okN (n : Int) : Bool := decide (0 ≤ n ∧ n ≤ 999999)
theorem luhn_number (n : Nat) (hn : n ≤ 999999) : Ev (fun k => lockbox_luhn.f k ⟨(Lib.decDigits n).toArray⟩ true) (lsum (rdig 6 n) true) := by
  have e : bytesOf ⟨(Lib.decDigits n).toArray⟩ = short n := by simp [bytesOf, short]
  have h1 := short_length n 5 (by omega)
  have hl : (⟨(Lib.decDigits n).toArray⟩ : ByteArray).size ≤ 140737488351232 := by rw [← bytes_length, e]; omega
  have h := luhn_ev ⟨(Lib.decDigits n).toArray⟩ hl (by rw [e]; exact short_dig n) true
  rw [e, short_lsum 5 n true (by omega)] at h
  exact h
def digitsB (s : ByteArray) : Bool := (bytesOf s).all fun c => decide (48 ≤ c ∧ c ≤ 57)
def validB (s : ByteArray) : Bool := decide (1 < s.size) && digitsB s && (lsum (behind (bytesOf s)) false % 10 == 0)
theorem digitsB_dig {s : ByteArray} (h : digitsB s = true) : Dig (behind (bytesOf s)) := by
  intro d hd
  simp only [behind, List.mem_reverse, List.mem_map] at hd
  obtain ⟨c, hc, rfl⟩ := hd
  have := List.all_eq_true.1 h c hc
  simp only [decide_eq_true_eq] at this
  omega
theorem all_loop (s : ByteArray) (hs : s.size ≤ 140737488351232) (d : Nat) : ∀ i : Nat, i + d = s.size →
    Ev (fun k => lockbox_allDigits.l0 k s s.size i) (((bytesOf s).drop i).all fun c => decide (48 ≤ c ∧ c ≤ 57)) := by
  have hn := bytes_length s
  induction d with
  | zero =>
    intro i h
    rw [List.drop_of_length_le (by omega), List.all_nil]
    refine Ev.step (fun k => ?_) (Ev.now true)
    simp only [lockbox_allDigits.l0]
    rw [if_neg (by omega)]
  | succ d ih =>
    intro i h
    have hi : i < (bytesOf s).length := by omega
    have e := bt_bytes s i hi
    rw [List.drop_eq_getElem_cons hi, List.all_cons, ← e]
    generalize hv : bt s (i : Int) = v
    by_cases c1 : v < 48
    · rw [show decide (48 ≤ v ∧ v ≤ 57) = false by simp; omega, Bool.false_and]
      refine Ev.step (fun k => ?_) (Ev.now false)
      simp only [lockbox_allDigits.l0]
      rw [if_pos (by omega), if_pos (by omega), if_pos (by omega), hv, if_pos c1]
    · by_cases c2 : v > 57
      · rw [show decide (48 ≤ v ∧ v ≤ 57) = false by simp; omega, Bool.false_and]
        refine Ev.step (fun k => ?_) (Ev.now false)
        simp only [lockbox_allDigits.l0]
        rw [if_pos (by omega), if_pos (by omega), if_pos (by omega), hv, if_neg c1, if_pos c2]
      · rw [show decide (48 ≤ v ∧ v ≤ 57) = true by simp; omega, Bool.true_and]
        refine Ev.step (fun k => ?_) (ih (i + 1) (by omega))
        simp only [lockbox_allDigits.l0]
        rw [if_pos (by omega), if_pos (by omega), if_pos (by omega), hv, if_neg c1, if_neg c2, wrN i (by omega)]
theorem valid_ev (s : ByteArray) (hs : s.size ≤ 140737488351232) : Ev (fun k => lockbox_Valid.f k s) (validB s) := by
  unfold validB
  by_cases h1 : 1 < s.size
  · rw [decide_eq_true h1, Bool.true_and]
    have ha : Ev (fun k => lockbox_allDigits.f k s) (digitsB s) := Ev.congr (fun k => rfl) (all_loop s hs s.size 0 (by omega))
    refine Ev.congr (f := fun k => (lockbox_allDigits.f k s).bind fun t129 => (if t129 = true then ((lockbox_luhn.f k s false).bind fun t130 => (some ((Int.tmod t130 10) == 0))) else (some false))) (fun k => ?_) (Ev.bind ha (f := fun k t129 => (if t129 = true then ((lockbox_luhn.f k s false).bind fun t130 => (some ((Int.tmod t130 10) == 0))) else (some false))) ?_)
    · show lockbox_Valid.f k s = _
      unfold lockbox_Valid.f
      rw [if_pos (by omega)]
    · cases hb : digitsB s with
      | false => simpa using Ev.now false
      | true =>
        have hd := digitsB_dig hb
        have hr := lsum_range _ false hd
        simp only [if_true, Bool.true_and]
        refine Ev.bind (luhn_ev s hs hd false) (f := fun k t130 => (some ((Int.tmod t130 10) == 0))) ?_
        rw [Int.tmod_eq_emod_of_nonneg hr.1]
        exact Ev.now _
  · rw [decide_eq_false h1, Bool.false_and]
    refine Ev.congr (fun k => ?_) (Ev.now false)
    show lockbox_Valid.f k s = _
    unfold lockbox_Valid.f
    rw [if_neg (by omega)]
end Go.Proofs.YtkjdmbbaacjpmaaDoor.DDigits
end
section
namespace Go.Proofs.YtkjdmbbaacjpmaaDoor.DDigits
open Go.RowKit Go.Proofs.YtkjdmbbaacjpmaaDoor.D Go.Proofs.YtkjdmbbaacjpmaaDoor.Num Go.Proofs.YtkjdmbbaacjpmaaDoorW.PrintWords Go.Proofs.YtkjdmbbaacjpmaaDoorW.PrintLast
def Tab (w : World) : Prop := Lib.TabIs Tryd.prog w "internal/strconv.uint64pow10" .u64 Lib.pow10Tab
theorem itoa_calls (n : Nat) (hn : n ≤ 999999) (w : World) (htab : Tab w) :
    Calls Tryd.prog 28 #[.int .i64 n] w fun e w' => e = .returned (.string ⟨(Lib.decDigits n).toArray⟩) ∧ Below w.heap.size w w' := by
  refine (Tryd.strconv_Itoa n (by omega) (by omega) w htab).mono ?_
  rintro e w' ⟨rfl, k, os, rfl⟩
  refine ⟨?_, Lib.below_grow _ _ (Nat.le_refl _) _ _⟩
  rw [Lib.itoa, if_neg (by omega), Int.toNat_natCast]
set_option maxRecDepth 100000 in
theorem check_in (n : Nat) (hn : n ≤ 999999) (w : World) (htab : Tab w) :
    Calls Tryd.prog 9 #[.int .i64 n] w fun e w' => e = .returned (.tuple #[.int .i64 (chk n), .bool true]) ∧ Below w.heap.size w w' := by
  obtain ⟨k, hk⟩ := (luhn_number n hn).rounds
  have hr := lsum_range (rdig 6 n) true (rdig_dig 6 n)
  rw [rdig_length] at hr
  have hc : chk (n : Int) = (10 - lsum (rdig 6 n) true % 10) % 10 := rfl
  rw [hc]
  generalize lsum (rdig 6 n) true = W at hk hr
  clear hc
  have HK := Aside0.mk hk
  have HT := Aside0.mk htab
  clear hk htab
  have b1 : decide ((n : Int) < 0) = false := decide_eq_false (by omega)
  have b2 : decide (999999 < (n : Int)) = false := decide_eq_false (by omega)
  have b3 : decide (999999 < n) = false := decide_eq_false (by omega)
  go_enter Tryd.func9, Tryd.ntmps9
  go_wp2_with (first | (go_at_call 28; (with_reducible refine (itoa_calls n hn _ HT.out).mono ?_); rintro e w1 ⟨rfl, hb⟩; have HB := Aside0.mk hb; clear hb) | (go_at_call 27; (with_reducible refine (lockbox_luhn.calls k _ true W _ HK.out).mono ?_); rintro e w' ⟨rfl, ⟨nd, rfl⟩⟩))
  go_ret2
  exact ⟨by first | rfl | (simp; done), by repeat (first | exact HB.out | apply pw_below_drewN)⟩
set_option maxRecDepth 100000 in
theorem check_low (n : Int) (h : n < 0) (w : World) :
    Calls Tryd.prog 9 #[.int .i64 n] w fun e w' => e = .returned (.tuple #[.int .i64 0, .bool false]) ∧ Below w.heap.size w w' := by
  have b1 : decide (n < 0) = true := by simp; omega
  go_enter Tryd.func9, Tryd.ntmps9
  go_wp2
  go_ret2
  exact ⟨rfl, Below.refl _ _⟩
set_option maxRecDepth 100000 in
theorem check_high (n : Int) (h : 999999 < n) (w : World) :
    Calls Tryd.prog 9 #[.int .i64 n] w fun e w' => e = .returned (.tuple #[.int .i64 0, .bool false]) ∧ Below w.heap.size w w' := by
  have b1 : decide (n < 0) = false := by simp; omega
  have b2 : decide (999999 < n) = true := by simp; omega
  go_enter Tryd.func9, Tryd.ntmps9
  go_wp2
  go_ret2
  exact ⟨rfl, Below.refl _ _⟩
def digitOf (n : Int) : Int := if okN n then chk n else 0
theorem check_calls (n : Int) (w : World) (htab : Tab w) :
    Calls Tryd.prog 9 #[.int .i64 n] w fun e w' => e = .returned (.tuple #[.int .i64 (digitOf n), .bool (okN n)]) ∧ Below w.heap.size w w' := by
  by_cases h0 : n < 0
  · have e : okN n = false := by unfold okN; simp; omega
    unfold digitOf; rw [e]; exact check_low n h0 w
  · by_cases h1 : 999999 < n
    · have e : okN n = false := by unfold okN; simp; omega
      unfold digitOf; rw [e]; exact check_high n h1 w
    · have e : okN n = true := by unfold okN; simp; omega
      obtain ⟨m, rfl⟩ : ∃ m : Nat, n = m := ⟨n.toNat, by omega⟩
      unfold digitOf; rw [e, if_pos rfl]
      exact check_in m (by omega) w htab
theorem valid_calls (s : ByteArray) (hs : s.size ≤ 140737488351232) (w : World) :
    Calls Tryd.prog 11 #[.string s] w fun e w' => e = .returned (.bool (validB s)) ∧ Drawn0 w w' := by
  obtain ⟨k, hk⟩ := (valid_ev s hs).rounds
  exact lockbox_Valid.calls k s _ w hk
end Go.Proofs.YtkjdmbbaacjpmaaDoor.DDigits
end
section
namespace Go.Proofs.YtkjdmbbaacjpmaaDoor.D
open Go.RowKit Go.Proofs.YtkjdmbbaacjpmaaDoorW.PrintWords Go.Proofs.YtkjdmbbaacjpmaaDoorW.PrintLast Go.Proofs.YtkjdmbbaacjpmaaDoorW.PrintMore
attribute [local go_sem] max2_int min2_int max_two min_two max_three min_three max_four min_four
set_option linter.unusedVariables false
set_option linter.unusedSimpArgs false
def calendar_Leap.f (a0 : Int) : Option (Bool) := if a0 < 1 then (some false) else (if a0 > 9999 then (some false) else (if (Int.tmod a0 4) = 0 then (if (Int.tmod a0 100) = 0 then (some ((Int.tmod a0 400) == 0)) else (some true)) else (some false)))
set_option maxHeartbeats 8000000 in
set_option maxRecDepth 100000 in
theorem calendar_Leap.calls (a0 : Int) (r : Bool) (w : World) (h : calendar_Leap.f a0 = some r) :
    Calls Tryd.prog 62 #[.int .i64 a0] w fun e w' => e = .returned (.bool r) ∧ Drawn0 w w' := by
  have H : (if a0 < 1 then (some false) else (if a0 > 9999 then (some false) else (if (Int.tmod a0 4) = 0 then (if (Int.tmod a0 100) = 0 then (some ((Int.tmod a0 400) == 0)) else (some true)) else (some false)))) = some r := h
  clear h
  by_cases c2 : a0 < 1
  · rw [if_pos c2] at H
    have c2b0 : decide (a0 < 1) = true := decide_eq_true c2
    clear c2
    obtain rfl := Option.some.inj H
    go_enter Tryd.func62, Tryd.ntmps62
    go_wp2
    go_ret
    exact ⟨by first | rfl | (simp; done) | (simp [*]; done), by repeat (first | exact Drawn0.refl _ | apply Drawn0.step)⟩
  · rw [if_neg c2] at H
    have c2b0 : decide (a0 < 1) = false := decide_eq_false c2
    clear c2
    by_cases c3 : a0 > 9999
    · rw [if_pos c3] at H
      have c3b0 : decide (9999 < a0) = true := decide_eq_true c3
      clear c3
      obtain rfl := Option.some.inj H
      go_enter Tryd.func62, Tryd.ntmps62
      go_wp2
      go_ret
      exact ⟨by first | rfl | (simp; done) | (simp [*]; done), by repeat (first | exact Drawn0.refl _ | apply Drawn0.step)⟩
    · rw [if_neg c3] at H
      have c3b0 : decide (9999 < a0) = false := decide_eq_false c3
      clear c3
      by_cases c4 : (Int.tmod a0 4) = 0
      · rw [if_pos c4] at H
        have c4b0 : ((Int.tmod a0 4) == 0) = true := beq_iff_eq.mpr c4
        have c4b1 : ((Int.tmod a0 4) != 0) = false := bne_eq_false_iff_eq.mpr c4
        clear c4
        by_cases c5 : (Int.tmod a0 100) = 0
        · rw [if_pos c5] at H
          have c5b0 : ((Int.tmod a0 100) == 0) = true := beq_iff_eq.mpr c5
          have c5b1 : ((Int.tmod a0 100) != 0) = false := bne_eq_false_iff_eq.mpr c5
          clear c5
          obtain rfl := Option.some.inj H
          go_enter Tryd.func62, Tryd.ntmps62
          go_wp2
          go_ret
          exact ⟨by first | rfl | (simp; done) | (simp [*]; done), by repeat (first | exact Drawn0.refl _ | apply Drawn0.step)⟩
        · rw [if_neg c5] at H
          have c5b0 : ((Int.tmod a0 100) == 0) = false := beq_eq_false_iff_ne.mpr c5
          have c5b1 : ((Int.tmod a0 100) != 0) = true := bne_iff_ne.mpr c5
          obtain rfl := Option.some.inj H
          go_enter Tryd.func62, Tryd.ntmps62
          go_wp2
          go_ret
          exact ⟨by first | rfl | (simp; done) | (simp [*]; done), by repeat (first | exact Drawn0.refl _ | apply Drawn0.step)⟩
      · rw [if_neg c4] at H
        have c4b0 : ((Int.tmod a0 4) == 0) = false := beq_eq_false_iff_ne.mpr c4
        have c4b1 : ((Int.tmod a0 4) != 0) = true := bne_iff_ne.mpr c4
        obtain rfl := Option.some.inj H
        go_enter Tryd.func62, Tryd.ntmps62
        go_wp2
        go_ret
        exact ⟨by first | rfl | (simp; done) | (simp [*]; done), by repeat (first | exact Drawn0.refl _ | apply Drawn0.step)⟩
end Go.Proofs.YtkjdmbbaacjpmaaDoor.D
end
section
namespace Go.Proofs.YtkjdmbbaacjpmaaDoor.C
open Go.RowKit Go.Proofs.YtkjdmbbaacjpmaaDoorW.PrintWords Go.Proofs.YtkjdmbbaacjpmaaDoorW.PrintLast
def aheadTab : List Int := [0, 31, 59, 90, 120, 151, 181, 212, 243, 273, 304, 334, 365]
structure Tab (w : World) : Prop where
  pow : DDigits.Tab w
  ahead : Lib.TabIs Tryd.prog w "arrears/calendar.ahead" .i64 aheadTab
theorem var_below {P : Program} {name : String} {w W : World} {cs : Array Value} (h : w.var? P name = some cs) (hb : Below w.heap.size w W) : W.var? P name = some cs := by
  unfold World.var? at h ⊢
  cases hg : P.globalNamed name with
  | none => rw [hg] at h; exact h
  | some g =>
    simp only [hg, Option.bind_some] at h ⊢
    have hl : g < w.heap.size := by
      rcases Nat.lt_or_ge g w.heap.size with hl | hl
      · exact hl
      · simp [Array.getElem?_eq_none hl] at h
    rw [hb.block g hl]
    exact h
theorem tab_below {w W : World} (h : Tab w) (hb : Below w.heap.size w W) : Tab W := ⟨var_below h.pow hb, var_below h.ahead hb⟩
theorem tab_auto {w W : World} (h : Aside0 (Tab w)) (hb : Below w.heap.size w W) : Aside0 (Tab W) := ⟨tab_below h.out hb⟩
theorem tab_drawn {w : World} (h : Aside0 (Tab w)) (n : Nat) : Aside0 (Tab (w.drewN n)) := ⟨tab_below h.out ⟨rfl, rfl, rfl, Nat.le_refl _, fun _ _ => rfl⟩⟩
def leapB (y : Int) : Bool := decide (1 ≤ y ∧ y ≤ 9999 ∧ y % 4 = 0 ∧ (y % 100 ≠ 0 ∨ y % 400 = 0))
theorem leap_f (y : Int) : D.calendar_Leap.f y = some (leapB y) := by
  unfold D.calendar_Leap.f leapB
  by_cases h1 : y < 1
  · rw [if_pos h1, decide_eq_false (by omega)]
  · rw [if_neg h1]
    by_cases h2 : y > 9999
    · rw [if_pos h2, decide_eq_false (by omega)]
    · rw [if_neg h2]
      have e4 : Int.tmod y 4 = y % 4 := Int.tmod_eq_emod_of_nonneg (by omega)
      have e100 : Int.tmod y 100 = y % 100 := Int.tmod_eq_emod_of_nonneg (by omega)
      have e400 : Int.tmod y 400 = y % 400 := Int.tmod_eq_emod_of_nonneg (by omega)
      rw [e4, e100, e400]
      by_cases h3 : y % 4 = 0
      · rw [if_pos h3]
        by_cases h4 : y % 100 = 0
        · rw [if_pos h4]
          congr 1
          rw [Bool.eq_iff_iff, beq_iff_eq, decide_eq_true_eq]; omega
        · rw [if_neg h4, decide_eq_true (by omega)]
      · rw [if_neg h3, decide_eq_false (by omega)]
theorem leap_calls (y : Int) (w : World) : Calls Tryd.prog 62 #[.int .i64 y] w fun e w' => e = .returned (.bool (leapB y)) ∧ Drawn0 w w' :=
  D.calendar_Leap.calls y _ w (leap_f y)
def startOf (y m : Int) : Int := aheadTab.getD (m - 1).toNat 0 + (if 2 < m ∧ leapB y = true then 1 else 0)
def calendar_start.f (a0 a1 : Int) : Option Int := if 1 ≤ a1 ∧ a1 ≤ 13 then some (startOf a0 a1) else none
theorem aheadTab_range (j : Nat) : 0 ≤ aheadTab.getD j 0 ∧ aheadTab.getD j 0 ≤ 365 := by
  rcases Nat.lt_or_ge j 13 with h | h
  · have : j = 0 ∨ j = 1 ∨ j = 2 ∨ j = 3 ∨ j = 4 ∨ j = 5 ∨ j = 6 ∨ j = 7 ∨ j = 8 ∨ j = 9 ∨ j = 10 ∨ j = 11 ∨ j = 12 := by omega
    rcases this with rfl | rfl | rfl | rfl | rfl | rfl | rfl | rfl | rfl | rfl | rfl | rfl | rfl <;> decide
  · rw [List.getD_eq_getElem?_getD, List.getElem?_eq_none (by exact h)]; decide
set_option maxRecDepth 100000 in
theorem start_lo (y : Int) (j : Nat) (hj : j < 2) (v : Int) (w : World) (hc : w.cell? ⟨1, j, none⟩ = some (.int .i64 v)) :
    Calls Tryd.prog 46 #[.int .i64 y, .int .i64 ((j : Int) + 1)] w fun e w' => e = .returned (.int .i64 v) ∧ Drawn0 w w' := by
  have b1 : decide (2 < (j : Int) + 1) = false := decide_eq_false (by omega)
  have e1 : (j : Int) + 1 - 1 = j := by omega
  go_enter Tryd.func46, Tryd.ntmps46
  go_wp2
  go_ret
  exact ⟨rfl, Drawn0.refl _⟩
set_option maxRecDepth 100000 in
theorem start_hi (y : Int) (j : Nat) (hj : 2 ≤ j) (hj' : j < 13) (v : Int) (hv : 0 ≤ v) (hv2 : v ≤ 365) (w : World) (hc : w.cell? ⟨1, j, none⟩ = some (.int .i64 v)) (b : Bool) (hb : leapB y = b) :
    Calls Tryd.prog 46 #[.int .i64 y, .int .i64 ((j : Int) + 1)] w fun e w' => e = .returned (.int .i64 (v + (if b = true then 1 else 0))) ∧ Drawn0 w w' := by
  have b1 : decide (2 < (j : Int) + 1) = true := decide_eq_true (by omega)
  have e1 : (j : Int) + 1 - 1 = j := by omega
  have HL := leap_calls y
  rw [hb] at HL
  have HL := Aside0.mk HL
  clear hb
  cases b
  all_goals
    go_enter Tryd.func46, Tryd.ntmps46
    go_wp2_with (go_at_call 62; (with_reducible refine (HL.out _).mono ?_); rintro e w' ⟨rfl, ⟨nd, rfl⟩⟩)
    go_ret
    exact ⟨by first | rfl | simp, ⟨⟨_, rfl⟩⟩⟩
theorem calendar_start.calls (a0 a1 r : Int) (w : World) (h : calendar_start.f a0 a1 = some r) (HT : Aside0 (Tab w) := by first | assumption | exact tab_auto (by assumption) (by repeat (first | (with_reducible first | (with_reducible exact Aside0.out (by assumption)) | apply below_alloc | apply pw_below_drewN | apply below_drew1) | (refine below_set ?_ (Aside0.out (by assumption))))) | exact tab_drawn (by assumption) _) :
    Calls Tryd.prog 46 #[.int .i64 a0, .int .i64 a1] w fun e w' => e = .returned (.int .i64 r) ∧ Drawn0 w w' := by
  unfold calendar_start.f at h
  split at h
  case isFalse => cases h
  case isTrue hc =>
    obtain rfl := Option.some.inj h
    obtain ⟨j, rfl⟩ : ∃ j : Nat, a1 = (j : Int) + 1 := ⟨(a1 - 1).toNat, by omega⟩
    have hj : j < 13 := by omega
    have hcell := HT.out.ahead.cell (g := 1) (by kernel_rfl) j hj
    have hr := aheadTab_range j
    unfold startOf
    rw [show ((j : Int) + 1 - 1).toNat = j by omega]
    by_cases h2 : j < 2
    · rw [if_neg (by omega), Int.add_zero]
      exact start_lo a0 j h2 _ w hcell
    · have := start_hi a0 j (by omega) hj _ hr.1 hr.2 w hcell _ rfl
      rw [show (if 2 < (j : Int) + 1 ∧ leapB a0 = true then (1 : Int) else 0) = (if leapB a0 = true then 1 else 0) by
        by_cases hb : leapB a0 = true
        · rw [if_pos ⟨by omega, hb⟩, if_pos hb]
        · rw [if_neg (fun hc => hb hc.2), if_neg hb]]
      exact this
end Go.Proofs.YtkjdmbbaacjpmaaDoor.C
end
section
namespace Go.Proofs.YtkjdmbbaacjpmaaDoor.C
open Go.RowKit Go.Proofs.YtkjdmbbaacjpmaaDoorW.PrintWords Go.Proofs.YtkjdmbbaacjpmaaDoorW.PrintLast Go.Proofs.YtkjdmbbaacjpmaaDoorW.PrintMore
attribute [local go_sem] max2_int min2_int max_two min_two max_three min_three max_four min_four
set_option linter.unusedVariables false
set_option linter.unusedSimpArgs false
def errW : Option Int → Value
  | none => .nilIface
  | some c => .iface 0 (.int .i64 c)
theorem errW_none : errW none = .nilIface := rfl
theorem errW_some (c : Int) : errW (some c) = .iface 0 (.int .i64 c) := rfl
end Go.Proofs.YtkjdmbbaacjpmaaDoor.C
end
section
namespace Go.Proofs.YtkjdmbbaacjpmaaDoor.C
open Go.RowKit Go.Proofs.YtkjdmbbaacjpmaaDoorW.PrintWords Go.Proofs.YtkjdmbbaacjpmaaDoorW.PrintLast Go.Proofs.YtkjdmbbaacjpmaaDoorW.PrintMore
attribute [local go_sem] max2_int min2_int max_two min_two max_three min_three max_four min_four
set_option linter.unusedVariables false
set_option linter.unusedSimpArgs false
mutual
def calendar_Civil.j0 : Nat → Int → Bool → Option (Int × Int × Int × Bool)
  | 0, _, _ => none
  | k + 1, x0, x15 => if x15 = true then (some (0, 0, 0, false)) else (calendar_Civil.l0 k (wrap64 ((Int.tmod (wrap64 ((Int.tmod (wrap64 (x0 - 1)) 146097) - (wrap64 ((mn (wrap64 (Int.tdiv (Int.tmod (wrap64 (x0 - 1)) 146097) 36524)) 3) * 36524)))) 1461) - (wrap64 ((mn (wrap64 (Int.tdiv (Int.tmod (wrap64 ((Int.tmod (wrap64 (x0 - 1)) 146097) - (wrap64 ((mn (wrap64 (Int.tdiv (Int.tmod (wrap64 (x0 - 1)) 146097) 36524)) 3) * 36524)))) 1461) 365)) 3) * 365)))) (wrap64 ((wrap64 ((wrap64 (400 * (wrap64 (Int.tdiv (wrap64 (x0 - 1)) 146097)))) + 1)) + (wrap64 ((wrap64 ((wrap64 (100 * (mn (wrap64 (Int.tdiv (Int.tmod (wrap64 (x0 - 1)) 146097) 36524)) 3))) + (wrap64 (4 * (wrap64 (Int.tdiv (wrap64 ((Int.tmod (wrap64 (x0 - 1)) 146097) - (wrap64 ((mn (wrap64 (Int.tdiv (Int.tmod (wrap64 (x0 - 1)) 146097) 36524)) 3) * 36524)))) 1461)))))) + (mn (wrap64 (Int.tdiv (Int.tmod (wrap64 ((Int.tmod (wrap64 (x0 - 1)) 146097) - (wrap64 ((mn (wrap64 (Int.tdiv (Int.tmod (wrap64 (x0 - 1)) 146097) 36524)) 3) * 36524)))) 1461) 365)) 3))))) 1)
def calendar_Civil.l0 : Nat → Int → Int → Int → Option (Int × Int × Int × Bool)
  | 0, _, _, _ => none
  | k + 1, x4, x5, x9 => if x9 < 12 then ((calendar_start.f x5 (wrap64 (x9 + 1))).bind fun t102 => (if x4 ≥ t102 then (calendar_Civil.l0 k x4 x5 (wrap64 (x9 + 1))) else ((calendar_start.f x5 x9).bind fun t103 => (some (x5, x9, wrap64 ((wrap64 (x4 - t103)) + 1), true))))) else ((calendar_start.f x5 x9).bind fun t104 => (some (x5, x9, wrap64 ((wrap64 (x4 - t104)) + 1), true)))
end
def calendar_Civil.f (k : Nat) (a0 : Int) : Option (Int × Int × Int × Bool) := if a0 < 1 then (calendar_Civil.j0 k a0 true) else (calendar_Civil.j0 k a0 (decide (a0 > 3652059)))
theorem calendar_Civil.mono_l : ∀ k, (∀ y0 y1, LeO (calendar_Civil.j0 k y0 y1) (calendar_Civil.j0 (k + 1) y0 y1)) ∧ (∀ y0 y1 y2, LeO (calendar_Civil.l0 k y0 y1 y2) (calendar_Civil.l0 (k + 1) y0 y1 y2))
  | 0 => ⟨fun _ _ r h => by simp [calendar_Civil.j0] at h, fun _ _ _ r h => by simp [calendar_Civil.l0] at h⟩
  | k + 1 => by
    obtain ⟨ih0, ih1⟩ := calendar_Civil.mono_l k
    refine ⟨?_, ?_⟩
    · intro y0 y1
      unfold calendar_Civil.j0
      repeat' first
      | (with_reducible exact ih0 _ _)
      | (with_reducible exact ih1 _ _ _)
      | (with_reducible exact LeO.refl _)
      | (with_reducible exact LeO.none _)
      | (with_reducible refine LeO.ite ?_ ?_)
      | (with_reducible refine LeO.bind ?_ (fun _ => ?_))
      | exact ih0 _ _
      | exact ih1 _ _ _
      | exact LeO.none _
      | refine LeO.ite ?_ ?_
      | refine LeO.bind ?_ (fun _ => ?_)
    · intro y0 y1 y2
      unfold calendar_Civil.l0
      repeat' first
      | (with_reducible exact ih0 _ _)
      | (with_reducible exact ih1 _ _ _)
      | (with_reducible exact LeO.refl _)
      | (with_reducible exact LeO.none _)
      | (with_reducible refine LeO.ite ?_ ?_)
      | (with_reducible refine LeO.bind ?_ (fun _ => ?_))
      | exact ih0 _ _
      | exact ih1 _ _ _
      | exact LeO.none _
      | refine LeO.ite ?_ ?_
      | refine LeO.bind ?_ (fun _ => ?_)
theorem calendar_Civil.mono : ∀ a0 k, LeO (calendar_Civil.f k a0) (calendar_Civil.f (k + 1) a0) := by
  intro a0 k
  obtain ⟨ih0, ih1⟩ := calendar_Civil.mono_l k
  unfold calendar_Civil.f
  repeat' first
      | (with_reducible exact ih0 _ _)
      | (with_reducible exact ih1 _ _ _)
      | (with_reducible exact LeO.refl _)
      | (with_reducible exact LeO.none _)
      | (with_reducible refine LeO.ite ?_ ?_)
      | (with_reducible refine LeO.bind ?_ (fun _ => ?_))
      | exact ih0 _ _
      | exact ih1 _ _ _
      | exact LeO.none _
      | refine LeO.ite ?_ ?_
      | refine LeO.bind ?_ (fun _ => ?_)
set_option maxHeartbeats 8000000 in
set_option maxRecDepth 100000 in
theorem calendar_Civil.calls (k : Nat) (a0 : Int) (r1 : Int) (r2 : Int) (r3 : Int) (r4 : Bool) (w : World) (h : calendar_Civil.f k a0 = some (r1, r2, r3, r4)) (HT : Aside0 (Tab w) := by first | assumption | exact tab_auto (by assumption) (by repeat (first | (with_reducible first | (with_reducible exact Aside0.out (by assumption)) | apply below_alloc | apply pw_below_drewN | apply below_drew1) | (refine below_set ?_ (Aside0.out (by assumption))))) | exact tab_drawn (by assumption) _) :
    Calls Tryd.prog 33 #[.int .i64 a0] w fun e w' => e = .returned (.tuple #[.agg #[.int .i64 r1, .int .i64 r2, .int .i64 r3], .bool r4]) ∧ Below w.heap.size w w' := by
  have hu59 := Tryd.underlying59
  have HB := Aside0.mk (Below.refl w.heap.size w)
  have H : (if a0 < 1 then (calendar_Civil.j0 k a0 true) else (calendar_Civil.j0 k a0 (decide (a0 > 3652059)))) = some (r1, r2, r3, r4) := h
  clear h
  have HC2 := Aside0.mk H
  clear H
  go_enter Tryd.func33, Tryd.ntmps33
  go_upto_region 1 with (first | ((with_reducible refine gate_dst (N := 2) rfl ?_); refine box_event ?hg (N := 2) ?hd (cs := #[.int .i64 0, .int .i64 0, .int .i64 0]) (t := 59) ?hr ?_; (case hd => rfl); (case hg => rfl); (case hr => first | (go_simp; done) | (go_simp; rfl)); intro gb101 hg w3 hbox hb; have n0_ := Aside0.mk (below_step (by repeat (first | (with_reducible first | exact HB.out | apply below_alloc | apply pw_below_drewN | apply below_drew1) | exact HB.out)) hb); have n1_ := Aside0.mk (hbox); have n2_ := Aside0.mk ((by rw [hg]; exact (below_size (by repeat (first | (with_reducible first | exact HB.out | apply below_alloc | apply pw_below_drewN | apply below_drew1) | exact HB.out))) : w.heap.size ≤ gb101)); have n3_ := Aside0.mk ((by rw [hg]; exact (below_size (by repeat (first | (with_reducible first | exact HB.out | apply below_alloc | apply pw_below_drewN | apply below_drew1) | exact HB.out))) : w.heap.size ≤ gb101)); clear HB; have HB := n0_; have BK101 := n1_; have GW101 := n2_; have GE101 := n3_; clear n0_ n1_ n2_ n3_; clear hb hbox hg))
  (try simp only [Act.put, List.setIfInBounds_toArray, List.set_cons_zero, List.set_cons_succ])
  go_cut [15] (fun v15 wc => ∃ (kq : Nat) (x15_1 : Bool), v15 = .bool x15_1 ∧ Aside0 (calendar_Civil.j0 kq a0 x15_1 = some (r1, r2, r3, r4)) ∧ Aside0 (kq ≤ k) ∧ Aside0 (wc.heap[gb101]? = some (.cells #[.int .i64 0, .int .i64 0, .int .i64 0] 59 (0, 0))) ∧ Aside0 (Below w.heap.size w wc))
  case first =>
    have H := HC2.out
    clear HC2
    by_cases c4 : a0 < 1
    · rw [if_pos c4] at H
      have c4b0 : decide (a0 < 1) = true := decide_eq_true c4
      clear c4
      (first | rw [c4b0] | (simp only [i64_w, i32_w]; rw [c4b0]) | skip)
      have H' := Aside0.mk H
      clear H
      go_wp2
      go_meet
      case rel => exact ⟨_, (true), (by first | rfl | (simp; done) | (simp [*]; done)), H', ⟨by first | omega | exact Nat.le_refl _⟩, ⟨by (with_reducible repeat (first | refine blk_drewN ?_ _ | refine blk_drew ?_ | refine blk_alloc ?_ _)); exact BK101.out⟩, ⟨by repeat (first | (with_reducible first | exact HB.out | apply below_alloc | apply pw_below_drewN | apply below_drew1 | refine below_set ?_ GE101.out) | exact HB.out)⟩⟩
    · rw [if_neg c4] at H
      have c4b0 : decide (a0 < 1) = false := decide_eq_false c4
      clear c4
      (first | rw [c4b0] | (simp only [i64_w, i32_w]; rw [c4b0]) | skip)
      have H' := Aside0.mk H
      clear H
      go_wp2
      go_meet
      case rel => exact ⟨_, (decide (a0 > 3652059)), (by first | rfl | (simp; done) | (simp [*]; done)), H', ⟨by first | omega | exact Nat.le_refl _⟩, ⟨by (with_reducible repeat (first | refine blk_drewN ?_ _ | refine blk_drew ?_ | refine blk_alloc ?_ _)); exact BK101.out⟩, ⟨by repeat (first | (with_reducible first | exact HB.out | apply below_alloc | apply pw_below_drewN | apply below_drew1 | refine below_set ?_ GE101.out) | exact HB.out)⟩⟩
  case rest =>
    clear HC2
    try clear p2
    try clear c3
    try clear c4
    try clear c4b0
    obtain ⟨kq, x15_1, rfl, HA, HJ1, BK101, HB⟩ := hcut
    cases kq with
    | zero => exact absurd HA.out (by simp [calendar_Civil.j0])
    | succ kj1 =>
      have H := HA.out
      clear HA
      simp only [calendar_Civil.j0] at H
      by_cases c5 : x15_1 = true
      · subst c5
        have H1 : (some (0, 0, 0, false)) = some (r1, r2, r3, r4) := by rw [if_pos rfl] at H; exact H
        clear H
        have H := H1
        clear H1
        simp only [Option.some.injEq, Prod.mk.injEq] at H
        obtain ⟨rfl, rfl, rfl, rfl⟩ := H
        have hcz6_0 : wc.cell? ⟨gb101, 0, none⟩ = some (.int .i64 0) := (blk_cell BK101.out 0).trans rfl
        have hcz6_1 : wc.cell? ⟨gb101, 1, none⟩ = some (.int .i64 0) := (blk_cell BK101.out 1).trans rfl
        have hcz6_2 : wc.cell? ⟨gb101, 2, none⟩ = some (.int .i64 0) := (blk_cell BK101.out 2).trans rfl
        have hfz6_0 := blk_frozen BK101.out 0
        have hfz6_1 := blk_frozen BK101.out 1
        have hfz6_2 := blk_frozen BK101.out 2
        go_wp2
        refine bodyPost_ret (results_ct rfl _ _ gb101 59 #[.int .i64 0, .int .i64 0, .int .i64 0] (0, 0) _ rfl (by (with_reducible repeat (first | refine blk_drewN ?_ _ | refine blk_drew ?_ | refine blk_alloc ?_ _)); refine blk_put (cs := #[.int .i64 0, .int .i64 0, .int .i64 0]) ?_ 2 _ rfl; (with_reducible repeat (first | refine blk_drewN ?_ _ | refine blk_drew ?_ | refine blk_alloc ?_ _)); refine blk_put (cs := #[.int .i64 0, .int .i64 0, .int .i64 0]) ?_ 1 _ rfl; (with_reducible repeat (first | refine blk_drewN ?_ _ | refine blk_drew ?_ | refine blk_alloc ?_ _)); refine blk_put (cs := #[.int .i64 0, .int .i64 0, .int .i64 0]) ?_ 0 _ rfl; (with_reducible repeat (first | refine blk_drewN ?_ _ | refine blk_drew ?_ | refine blk_alloc ?_ _)); exact BK101.out) Tryd.underlying59 rfl (by kernel_rfl)) rfl ?_
        exact ⟨by first | rfl | (simp [errW_none, errW_some] <;> rfl) | (simp [*, errW_none, errW_some] <;> rfl), by repeat (first | (with_reducible first | exact HB.out | apply below_alloc | apply pw_below_drewN | apply below_drew1 | refine below_set ?_ GE101.out) | exact HB.out)⟩
      · replace c5 := Bool.eq_false_iff.mpr c5
        subst c5
        have H1 : (calendar_Civil.l0 kj1 (wrap64 ((Int.tmod (wrap64 ((Int.tmod (wrap64 (a0 - 1)) 146097) - (wrap64 ((mn (wrap64 (Int.tdiv (Int.tmod (wrap64 (a0 - 1)) 146097) 36524)) 3) * 36524)))) 1461) - (wrap64 ((mn (wrap64 (Int.tdiv (Int.tmod (wrap64 ((Int.tmod (wrap64 (a0 - 1)) 146097) - (wrap64 ((mn (wrap64 (Int.tdiv (Int.tmod (wrap64 (a0 - 1)) 146097) 36524)) 3) * 36524)))) 1461) 365)) 3) * 365)))) (wrap64 ((wrap64 ((wrap64 (400 * (wrap64 (Int.tdiv (wrap64 (a0 - 1)) 146097)))) + 1)) + (wrap64 ((wrap64 ((wrap64 (100 * (mn (wrap64 (Int.tdiv (Int.tmod (wrap64 (a0 - 1)) 146097) 36524)) 3))) + (wrap64 (4 * (wrap64 (Int.tdiv (wrap64 ((Int.tmod (wrap64 (a0 - 1)) 146097) - (wrap64 ((mn (wrap64 (Int.tdiv (Int.tmod (wrap64 (a0 - 1)) 146097) 36524)) 3) * 36524)))) 1461)))))) + (mn (wrap64 (Int.tdiv (Int.tmod (wrap64 ((Int.tmod (wrap64 (a0 - 1)) 146097) - (wrap64 ((mn (wrap64 (Int.tdiv (Int.tmod (wrap64 (a0 - 1)) 146097) 36524)) 3) * 36524)))) 1461) 365)) 3))))) 1) = some (r1, r2, r3, r4) := by rw [if_neg (show ¬ (false = true) by decide)] at H; exact H
        clear H
        have H := H1
        clear H1
        obtain ⟨ji7, hji7⟩ : ∃ j_ : Int, (mn (wrap64 (Int.tdiv (Int.tmod (wrap64 (a0 - 1)) 146097) 36524)) 3) = j_ := ⟨_, rfl⟩
        replace H : (calendar_Civil.l0 kj1 (wrap64 ((Int.tmod (wrap64 ((Int.tmod (wrap64 (a0 - 1)) 146097) - (wrap64 ((ji7) * 36524)))) 1461) - (wrap64 ((mn (wrap64 (Int.tdiv (Int.tmod (wrap64 ((Int.tmod (wrap64 (a0 - 1)) 146097) - (wrap64 ((ji7) * 36524)))) 1461) 365)) 3) * 365)))) (wrap64 ((wrap64 ((wrap64 (400 * (wrap64 (Int.tdiv (wrap64 (a0 - 1)) 146097)))) + 1)) + (wrap64 ((wrap64 ((wrap64 (100 * (ji7))) + (wrap64 (4 * (wrap64 (Int.tdiv (wrap64 ((Int.tmod (wrap64 (a0 - 1)) 146097) - (wrap64 ((ji7) * 36524)))) 1461)))))) + (mn (wrap64 (Int.tdiv (Int.tmod (wrap64 ((Int.tmod (wrap64 (a0 - 1)) 146097) - (wrap64 ((ji7) * 36524)))) 1461) 365)) 3))))) 1) = some (r1, r2, r3, r4) := by first | (rw [hji7] at H; exact H) | (simp only [hji7] at H ⊢; exact H)
        have hji7_ : (if 3 < (wrap64 (Int.tdiv (Int.tmod (wrap64 (a0 - 1)) 146097) 36524)) then 3 else (wrap64 (Int.tdiv (Int.tmod (wrap64 (a0 - 1)) 146097) 36524))) = ji7 := hji7
        obtain ⟨ji8, hji8⟩ : ∃ j_ : Int, (mn (wrap64 (Int.tdiv (Int.tmod (wrap64 ((Int.tmod (wrap64 (a0 - 1)) 146097) - (wrap64 ((ji7) * 36524)))) 1461) 365)) 3) = j_ := ⟨_, rfl⟩
        replace H : (calendar_Civil.l0 kj1 (wrap64 ((Int.tmod (wrap64 ((Int.tmod (wrap64 (a0 - 1)) 146097) - (wrap64 ((ji7) * 36524)))) 1461) - (wrap64 ((ji8) * 365)))) (wrap64 ((wrap64 ((wrap64 (400 * (wrap64 (Int.tdiv (wrap64 (a0 - 1)) 146097)))) + 1)) + (wrap64 ((wrap64 ((wrap64 (100 * (ji7))) + (wrap64 (4 * (wrap64 (Int.tdiv (wrap64 ((Int.tmod (wrap64 (a0 - 1)) 146097) - (wrap64 ((ji7) * 36524)))) 1461)))))) + (ji8))))) 1) = some (r1, r2, r3, r4) := by first | (rw [hji8] at H; exact H) | (simp only [hji8] at H ⊢; exact H)
        have hji8_ : (if 3 < (wrap64 (Int.tdiv (Int.tmod (wrap64 ((Int.tmod (wrap64 (a0 - 1)) 146097) - (wrap64 ((ji7) * 36524)))) 1461) 365)) then 3 else (wrap64 (Int.tdiv (Int.tmod (wrap64 ((Int.tmod (wrap64 (a0 - 1)) 146097) - (wrap64 ((ji7) * 36524)))) 1461) 365))) = ji8 := hji8
        have H' := Aside0.mk H
        clear H
        go_wp2
        go_loopg [9] kj1 (fun kq v9 w' => ∃ (x9_2 : Int), v9 = .int .i64 x9_2 ∧ Aside0 (calendar_Civil.l0 kq (wrap64 ((Int.tmod (wrap64 ((Int.tmod (wrap64 (a0 - 1)) 146097) - (wrap64 ((ji7) * 36524)))) 1461) - (wrap64 ((ji8) * 365)))) (wrap64 ((wrap64 ((wrap64 (400 * (wrap64 (Int.tdiv (wrap64 (a0 - 1)) 146097)))) + 1)) + (wrap64 ((wrap64 ((wrap64 (100 * (ji7))) + (wrap64 (4 * (wrap64 (Int.tdiv (wrap64 ((Int.tmod (wrap64 (a0 - 1)) 146097) - (wrap64 ((ji7) * 36524)))) 1461)))))) + (ji8))))) x9_2 = some (r1, r2, r3, r4)) ∧ Aside0 (kq ≤ kj1) ∧ Aside0 (w'.heap[gb101]? = some (.cells #[.int .i64 0, .int .i64 0, .int .i64 0] 59 (0, 0))) ∧ Aside0 (Below w.heap.size w w'))
        case atStart => exact ⟨(1), (by first | rfl | (simp; done) | (simp [*]; done)), H', ⟨Nat.le_refl _⟩, ⟨by (with_reducible repeat (first | refine blk_drewN ?_ _ | refine blk_drew ?_ | refine blk_alloc ?_ _)); exact BK101.out⟩, ⟨by repeat (first | (with_reducible first | exact HB.out | apply below_alloc | apply pw_below_drewN | apply below_drew1 | refine below_set ?_ GE101.out) | exact HB.out)⟩⟩
        case round =>
          clear H'
          try clear p2
          try clear c3
          try clear c4
          try clear c4b0
          try clear c5
          try clear p6
          try clear hcz6_0
          try clear hcz6_1
          try clear hcz6_2
          try clear hfz6_0
          try clear hfz6_1
          try clear hfz6_2
          try clear p2
          obtain ⟨x9_2, rfl, HA, HK2, BK101, HB⟩ := hrel
          cases gk with
          | zero => exact absurd HA.out (by simp [calendar_Civil.l0])
          | succ k2 =>
            have H := HA.out
            clear HA
            simp only [calendar_Civil.l0] at H
            by_cases c9 : x9_2 < 12
            · rw [if_pos c9] at H
              have c9b0 : decide (x9_2 < 12) = true := decide_eq_true c9
              clear c9
              replace H := Option.bind_eq_some_iff.mp H
              obtain ⟨t102, A100, H⟩ := H
              replace H : (if (wrap64 ((Int.tmod (wrap64 ((Int.tmod (wrap64 (a0 - 1)) 146097) - (wrap64 ((ji7) * 36524)))) 1461) - (wrap64 ((ji8) * 365)))) ≥ t102 then (calendar_Civil.l0 k2 (wrap64 ((Int.tmod (wrap64 ((Int.tmod (wrap64 (a0 - 1)) 146097) - (wrap64 ((ji7) * 36524)))) 1461) - (wrap64 ((ji8) * 365)))) (wrap64 ((wrap64 ((wrap64 (400 * (wrap64 (Int.tdiv (wrap64 (a0 - 1)) 146097)))) + 1)) + (wrap64 ((wrap64 ((wrap64 (100 * (ji7))) + (wrap64 (4 * (wrap64 (Int.tdiv (wrap64 ((Int.tmod (wrap64 (a0 - 1)) 146097) - (wrap64 ((ji7) * 36524)))) 1461)))))) + (ji8))))) (wrap64 (x9_2 + 1))) else ((calendar_start.f (wrap64 ((wrap64 ((wrap64 (400 * (wrap64 (Int.tdiv (wrap64 (a0 - 1)) 146097)))) + 1)) + (wrap64 ((wrap64 ((wrap64 (100 * (ji7))) + (wrap64 (4 * (wrap64 (Int.tdiv (wrap64 ((Int.tmod (wrap64 (a0 - 1)) 146097) - (wrap64 ((ji7) * 36524)))) 1461)))))) + (ji8))))) x9_2).bind fun t103 => (some ((wrap64 ((wrap64 ((wrap64 (400 * (wrap64 (Int.tdiv (wrap64 (a0 - 1)) 146097)))) + 1)) + (wrap64 ((wrap64 ((wrap64 (100 * (ji7))) + (wrap64 (4 * (wrap64 (Int.tdiv (wrap64 ((Int.tmod (wrap64 (a0 - 1)) 146097) - (wrap64 ((ji7) * 36524)))) 1461)))))) + (ji8))))), x9_2, wrap64 ((wrap64 ((wrap64 ((Int.tmod (wrap64 ((Int.tmod (wrap64 (a0 - 1)) 146097) - (wrap64 ((ji7) * 36524)))) 1461) - (wrap64 ((ji8) * 365)))) - t103)) + 1), true)))) = some (r1, r2, r3, r4) := H
              have A10 := Aside0.mk A100
              clear A100
              by_cases c11 : (wrap64 ((Int.tmod (wrap64 ((Int.tmod (wrap64 (a0 - 1)) 146097) - (wrap64 ((ji7) * 36524)))) 1461) - (wrap64 ((ji8) * 365)))) ≥ t102
              · rw [if_pos c11] at H
                have c11b0 : decide (t102 ≤ (wrap64 ((Int.tmod (wrap64 ((Int.tmod (wrap64 (a0 - 1)) 146097) - (wrap64 ((ji7) * 36524)))) 1461) - (wrap64 ((ji8) * 365))))) = true := decide_eq_true c11
                clear c11
                have H' := Aside0.mk H
                clear H
                go_wp2_with (first | (go_at_call 46; (with_reducible refine (calendar_start.calls (wrap64 ((wrap64 ((wrap64 (400 * (wrap64 (Int.tdiv (wrap64 (a0 - 1)) 146097)))) + 1)) + (wrap64 ((wrap64 ((wrap64 (100 * (ji7))) + (wrap64 (4 * (wrap64 (Int.tdiv (wrap64 ((Int.tmod (wrap64 (a0 - 1)) 146097) - (wrap64 ((ji7) * 36524)))) 1461)))))) + (ji8))))) (wrap64 (x9_2 + 1)) t102 _ A10.out).mono ?_); rintro e w' ⟨rfl, ⟨nd, rfl⟩⟩))
                go_roundg k2
                case measure => have := HJ1.out; have := HK2.out; omega
                case rel => exact ⟨(wrap64 (x9_2 + 1)), (by first | rfl | (simp; done) | (simp [*]; done)), H', ⟨by have := HJ1.out; have := HK2.out; omega⟩, ⟨by (with_reducible repeat (first | refine blk_drewN ?_ _ | refine blk_drew ?_ | refine blk_alloc ?_ _)); exact BK101.out⟩, ⟨by repeat (first | (with_reducible first | exact HB.out | apply below_alloc | apply pw_below_drewN | apply below_drew1 | refine below_set ?_ GE101.out) | exact HB.out)⟩⟩
              · rw [if_neg c11] at H
                have c11b0 : decide (t102 ≤ (wrap64 ((Int.tmod (wrap64 ((Int.tmod (wrap64 (a0 - 1)) 146097) - (wrap64 ((ji7) * 36524)))) 1461) - (wrap64 ((ji8) * 365))))) = false := decide_eq_false c11
                clear c11
                replace H := Option.bind_eq_some_iff.mp H
                obtain ⟨t103, A120, H⟩ := H
                replace H : (some ((wrap64 ((wrap64 ((wrap64 (400 * (wrap64 (Int.tdiv (wrap64 (a0 - 1)) 146097)))) + 1)) + (wrap64 ((wrap64 ((wrap64 (100 * (ji7))) + (wrap64 (4 * (wrap64 (Int.tdiv (wrap64 ((Int.tmod (wrap64 (a0 - 1)) 146097) - (wrap64 ((ji7) * 36524)))) 1461)))))) + (ji8))))), x9_2, wrap64 ((wrap64 ((wrap64 ((Int.tmod (wrap64 ((Int.tmod (wrap64 (a0 - 1)) 146097) - (wrap64 ((ji7) * 36524)))) 1461) - (wrap64 ((ji8) * 365)))) - t103)) + 1), true)) = some (r1, r2, r3, r4) := H
                have A12 := Aside0.mk A120
                clear A120
                simp only [Option.some.injEq, Prod.mk.injEq] at H
                obtain ⟨rfl, rfl, rfl, rfl⟩ := H
                go_wp2_with (first | (go_at_call 46; (with_reducible refine (calendar_start.calls (wrap64 ((wrap64 ((wrap64 (400 * (wrap64 (Int.tdiv (wrap64 (a0 - 1)) 146097)))) + 1)) + (wrap64 ((wrap64 ((wrap64 (100 * (ji7))) + (wrap64 (4 * (wrap64 (Int.tdiv (wrap64 ((Int.tmod (wrap64 (a0 - 1)) 146097) - (wrap64 ((ji7) * 36524)))) 1461)))))) + (ji8))))) (wrap64 (x9_2 + 1)) t102 _ A10.out).mono ?_); rintro e w' ⟨rfl, ⟨nd, rfl⟩⟩; (try (rw [drewN_self wr]; generalize hq_ : World.drewN wr _ = wr; have n0_ : Aside0 (wr.heap[gb101]? = some (.cells #[.int .i64 0, .int .i64 0, .int .i64 0] 59 (0, 0))) := ⟨by rw [← hq_]; exact (by (with_reducible repeat (first | refine blk_drewN ?_ _ | refine blk_drew ?_ | refine blk_alloc ?_ _)); exact BK101.out)⟩; have n1_ : Aside0 (Below w.heap.size w wr) := ⟨by rw [← hq_]; exact (by repeat (first | (with_reducible first | exact HB.out | apply below_alloc | apply pw_below_drewN | apply below_drew1 | refine below_set ?_ GE101.out) | exact HB.out))⟩; clear BK101 HB hq_; have BK101 := n0_; have HB := n1_; clear n0_ n1_))) | ((with_reducible refine gate_callee (f := 46) rfl ?_); refine goesL_ (some 69) rfl rfl Tryd.func46 (by kernel_rfl) rfl #[.int .i64 (wrap64 ((wrap64 ((wrap64 (400 * (wrap64 (Int.tdiv (wrap64 (a0 - 1)) 146097)))) + 1)) + (wrap64 ((wrap64 ((wrap64 (100 * (ji7))) + (wrap64 (4 * (wrap64 (Int.tdiv (wrap64 ((Int.tmod (wrap64 (a0 - 1)) 146097) - (wrap64 ((ji7) * 36524)))) 1461)))))) + (ji8))))), .int .i64 x9_2] rfl (by (try simp only [List.map_toArray, List.map_cons, List.map_nil]); first | done | (simp only [hji7, hji8]; rfl) | rfl | (simp only [List.length_drop, List.length_take]; rfl)) ?_; (with_reducible refine (calendar_start.calls (wrap64 ((wrap64 ((wrap64 (400 * (wrap64 (Int.tdiv (wrap64 (a0 - 1)) 146097)))) + 1)) + (wrap64 ((wrap64 ((wrap64 (100 * (ji7))) + (wrap64 (4 * (wrap64 (Int.tdiv (wrap64 ((Int.tmod (wrap64 (a0 - 1)) 146097) - (wrap64 ((ji7) * 36524)))) 1461)))))) + (ji8))))) x9_2 t103 _ A12.out).mono ?_); rintro e w' ⟨rfl, ⟨nd, rfl⟩⟩; refine ⟨_, rfl, ?_⟩; (try (rw [drewN_self wr]; generalize hq_ : World.drewN wr _ = wr; have n0_ : Aside0 (wr.heap[gb101]? = some (.cells #[.int .i64 0, .int .i64 0, .int .i64 0] 59 (0, 0))) := ⟨by rw [← hq_]; exact (by (with_reducible repeat (first | refine blk_drewN ?_ _ | refine blk_drew ?_ | refine blk_alloc ?_ _)); exact BK101.out)⟩; have n1_ : Aside0 (Below w.heap.size w wr) := ⟨by rw [← hq_]; exact (by repeat (first | (with_reducible first | exact HB.out | apply below_alloc | apply pw_below_drewN | apply below_drew1 | refine below_set ?_ GE101.out) | exact HB.out))⟩; clear BK101 HB hq_; have BK101 := n0_; have HB := n1_; clear n0_ n1_)); have hcz13_0 : wr.cell? ⟨gb101, 0, none⟩ = some (.int .i64 0) := (blk_cell BK101.out 0).trans rfl; have hcz13_1 : wr.cell? ⟨gb101, 1, none⟩ = some (.int .i64 0) := (blk_cell BK101.out 1).trans rfl; have hcz13_2 : wr.cell? ⟨gb101, 2, none⟩ = some (.int .i64 0) := (blk_cell BK101.out 2).trans rfl; have hfz13_0 := blk_frozen BK101.out 0; have hfz13_1 := blk_frozen BK101.out 1; have hfz13_2 := blk_frozen BK101.out 2))
                refine bodyPost_ret (results_ct rfl _ _ gb101 59 #[.int .i64 (wrap64 ((wrap64 ((wrap64 (400 * (wrap64 (Int.tdiv (wrap64 (a0 - 1)) 146097)))) + 1)) + (wrap64 ((wrap64 ((wrap64 (100 * (ji7))) + (wrap64 (4 * (wrap64 (Int.tdiv (wrap64 ((Int.tmod (wrap64 (a0 - 1)) 146097) - (wrap64 ((ji7) * 36524)))) 1461)))))) + (ji8))))), .int .i64 x9_2, .int .i64 (wrap64 ((wrap64 ((wrap64 ((Int.tmod (wrap64 ((Int.tmod (wrap64 (a0 - 1)) 146097) - (wrap64 ((ji7) * 36524)))) 1461) - (wrap64 ((ji8) * 365)))) - t103)) + 1))] (0, 0) _ rfl (by (with_reducible repeat (first | refine blk_drewN ?_ _ | refine blk_drew ?_ | refine blk_alloc ?_ _)); refine blk_put (cs := #[.int .i64 (wrap64 ((wrap64 ((wrap64 (400 * (wrap64 (Int.tdiv (wrap64 (a0 - 1)) 146097)))) + 1)) + (wrap64 ((wrap64 ((wrap64 (100 * (ji7))) + (wrap64 (4 * (wrap64 (Int.tdiv (wrap64 ((Int.tmod (wrap64 (a0 - 1)) 146097) - (wrap64 ((ji7) * 36524)))) 1461)))))) + (ji8))))), .int .i64 x9_2, .int .i64 0]) ?_ 2 _ rfl; (with_reducible repeat (first | refine blk_drewN ?_ _ | refine blk_drew ?_ | refine blk_alloc ?_ _)); refine blk_put (cs := #[.int .i64 (wrap64 ((wrap64 ((wrap64 (400 * (wrap64 (Int.tdiv (wrap64 (a0 - 1)) 146097)))) + 1)) + (wrap64 ((wrap64 ((wrap64 (100 * (ji7))) + (wrap64 (4 * (wrap64 (Int.tdiv (wrap64 ((Int.tmod (wrap64 (a0 - 1)) 146097) - (wrap64 ((ji7) * 36524)))) 1461)))))) + (ji8))))), .int .i64 0, .int .i64 0]) ?_ 1 _ rfl; (with_reducible repeat (first | refine blk_drewN ?_ _ | refine blk_drew ?_ | refine blk_alloc ?_ _)); refine blk_put (cs := #[.int .i64 0, .int .i64 0, .int .i64 0]) ?_ 0 _ rfl; (with_reducible repeat (first | refine blk_drewN ?_ _ | refine blk_drew ?_ | refine blk_alloc ?_ _)); exact BK101.out) Tryd.underlying59 rfl (by kernel_rfl)) rfl ?_
                exact ⟨by first | rfl | (simp [errW_none, errW_some] <;> rfl) | (simp only [← hji7, ← hji8]; first | rfl | (simp [errW_none, errW_some] <;> rfl)) | (simp [*, errW_none, errW_some] <;> rfl), by repeat (first | (with_reducible first | exact HB.out | apply below_alloc | apply pw_below_drewN | apply below_drew1 | refine below_set ?_ GE101.out) | exact HB.out)⟩
            · rw [if_neg c9] at H
              have c9b0 : decide (x9_2 < 12) = false := decide_eq_false c9
              clear c9
              replace H := Option.bind_eq_some_iff.mp H
              obtain ⟨t104, A140, H⟩ := H
              replace H : (some ((wrap64 ((wrap64 ((wrap64 (400 * (wrap64 (Int.tdiv (wrap64 (a0 - 1)) 146097)))) + 1)) + (wrap64 ((wrap64 ((wrap64 (100 * (ji7))) + (wrap64 (4 * (wrap64 (Int.tdiv (wrap64 ((Int.tmod (wrap64 (a0 - 1)) 146097) - (wrap64 ((ji7) * 36524)))) 1461)))))) + (ji8))))), x9_2, wrap64 ((wrap64 ((wrap64 ((Int.tmod (wrap64 ((Int.tmod (wrap64 (a0 - 1)) 146097) - (wrap64 ((ji7) * 36524)))) 1461) - (wrap64 ((ji8) * 365)))) - t104)) + 1), true)) = some (r1, r2, r3, r4) := H
              have A14 := Aside0.mk A140
              clear A140
              simp only [Option.some.injEq, Prod.mk.injEq] at H
              obtain ⟨rfl, rfl, rfl, rfl⟩ := H
              go_wp2_with (first | ((with_reducible refine gate_callee (f := 46) rfl ?_); refine goesL_ (some 69) rfl rfl Tryd.func46 (by kernel_rfl) rfl #[.int .i64 (wrap64 ((wrap64 ((wrap64 (400 * (wrap64 (Int.tdiv (wrap64 (a0 - 1)) 146097)))) + 1)) + (wrap64 ((wrap64 ((wrap64 (100 * (ji7))) + (wrap64 (4 * (wrap64 (Int.tdiv (wrap64 ((Int.tmod (wrap64 (a0 - 1)) 146097) - (wrap64 ((ji7) * 36524)))) 1461)))))) + (ji8))))), .int .i64 x9_2] rfl (by (try simp only [List.map_toArray, List.map_cons, List.map_nil]); first | done | (simp only [hji7, hji8]; rfl) | rfl | (simp only [List.length_drop, List.length_take]; rfl)) ?_; (with_reducible refine (calendar_start.calls (wrap64 ((wrap64 ((wrap64 (400 * (wrap64 (Int.tdiv (wrap64 (a0 - 1)) 146097)))) + 1)) + (wrap64 ((wrap64 ((wrap64 (100 * (ji7))) + (wrap64 (4 * (wrap64 (Int.tdiv (wrap64 ((Int.tmod (wrap64 (a0 - 1)) 146097) - (wrap64 ((ji7) * 36524)))) 1461)))))) + (ji8))))) x9_2 t104 _ A14.out).mono ?_); rintro e w' ⟨rfl, ⟨nd, rfl⟩⟩; refine ⟨_, rfl, ?_⟩; (try (rw [drewN_self wr]; generalize hq_ : World.drewN wr _ = wr; have n0_ : Aside0 (wr.heap[gb101]? = some (.cells #[.int .i64 0, .int .i64 0, .int .i64 0] 59 (0, 0))) := ⟨by rw [← hq_]; exact (by (with_reducible repeat (first | refine blk_drewN ?_ _ | refine blk_drew ?_ | refine blk_alloc ?_ _)); exact BK101.out)⟩; have n1_ : Aside0 (Below w.heap.size w wr) := ⟨by rw [← hq_]; exact (by repeat (first | (with_reducible first | exact HB.out | apply below_alloc | apply pw_below_drewN | apply below_drew1 | refine below_set ?_ GE101.out) | exact HB.out))⟩; clear BK101 HB hq_; have BK101 := n0_; have HB := n1_; clear n0_ n1_)); have hcz15_0 : wr.cell? ⟨gb101, 0, none⟩ = some (.int .i64 0) := (blk_cell BK101.out 0).trans rfl; have hcz15_1 : wr.cell? ⟨gb101, 1, none⟩ = some (.int .i64 0) := (blk_cell BK101.out 1).trans rfl; have hcz15_2 : wr.cell? ⟨gb101, 2, none⟩ = some (.int .i64 0) := (blk_cell BK101.out 2).trans rfl; have hfz15_0 := blk_frozen BK101.out 0; have hfz15_1 := blk_frozen BK101.out 1; have hfz15_2 := blk_frozen BK101.out 2))
              refine bodyPost_ret (results_ct rfl _ _ gb101 59 #[.int .i64 (wrap64 ((wrap64 ((wrap64 (400 * (wrap64 (Int.tdiv (wrap64 (a0 - 1)) 146097)))) + 1)) + (wrap64 ((wrap64 ((wrap64 (100 * (ji7))) + (wrap64 (4 * (wrap64 (Int.tdiv (wrap64 ((Int.tmod (wrap64 (a0 - 1)) 146097) - (wrap64 ((ji7) * 36524)))) 1461)))))) + (ji8))))), .int .i64 x9_2, .int .i64 (wrap64 ((wrap64 ((wrap64 ((Int.tmod (wrap64 ((Int.tmod (wrap64 (a0 - 1)) 146097) - (wrap64 ((ji7) * 36524)))) 1461) - (wrap64 ((ji8) * 365)))) - t104)) + 1))] (0, 0) _ rfl (by (with_reducible repeat (first | refine blk_drewN ?_ _ | refine blk_drew ?_ | refine blk_alloc ?_ _)); refine blk_put (cs := #[.int .i64 (wrap64 ((wrap64 ((wrap64 (400 * (wrap64 (Int.tdiv (wrap64 (a0 - 1)) 146097)))) + 1)) + (wrap64 ((wrap64 ((wrap64 (100 * (ji7))) + (wrap64 (4 * (wrap64 (Int.tdiv (wrap64 ((Int.tmod (wrap64 (a0 - 1)) 146097) - (wrap64 ((ji7) * 36524)))) 1461)))))) + (ji8))))), .int .i64 x9_2, .int .i64 0]) ?_ 2 _ rfl; (with_reducible repeat (first | refine blk_drewN ?_ _ | refine blk_drew ?_ | refine blk_alloc ?_ _)); refine blk_put (cs := #[.int .i64 (wrap64 ((wrap64 ((wrap64 (400 * (wrap64 (Int.tdiv (wrap64 (a0 - 1)) 146097)))) + 1)) + (wrap64 ((wrap64 ((wrap64 (100 * (ji7))) + (wrap64 (4 * (wrap64 (Int.tdiv (wrap64 ((Int.tmod (wrap64 (a0 - 1)) 146097) - (wrap64 ((ji7) * 36524)))) 1461)))))) + (ji8))))), .int .i64 0, .int .i64 0]) ?_ 1 _ rfl; (with_reducible repeat (first | refine blk_drewN ?_ _ | refine blk_drew ?_ | refine blk_alloc ?_ _)); refine blk_put (cs := #[.int .i64 0, .int .i64 0, .int .i64 0]) ?_ 0 _ rfl; (with_reducible repeat (first | refine blk_drewN ?_ _ | refine blk_drew ?_ | refine blk_alloc ?_ _)); exact BK101.out) Tryd.underlying59 rfl (by kernel_rfl)) rfl ?_
              exact ⟨by first | rfl | (simp [errW_none, errW_some] <;> rfl) | (simp only [← hji7, ← hji8]; first | rfl | (simp [errW_none, errW_some] <;> rfl)) | (simp [*, errW_none, errW_some] <;> rfl), by repeat (first | (with_reducible first | exact HB.out | apply below_alloc | apply pw_below_drewN | apply below_drew1 | refine below_set ?_ GE101.out) | exact HB.out)⟩
end Go.Proofs.YtkjdmbbaacjpmaaDoor.C
end
section
namespace Go.Proofs.YtkjdmbbaacjpmaaDoor.D
open Go.RowKit Go.Proofs.YtkjdmbbaacjpmaaDoorW.PrintWords Go.Proofs.YtkjdmbbaacjpmaaDoorW.PrintLast Go.Proofs.YtkjdmbbaacjpmaaDoorW.PrintMore
attribute [local go_sem] max2_int min2_int max_two min_two max_three min_three max_four min_four
set_option linter.unusedVariables false
set_option linter.unusedSimpArgs false
end Go.Proofs.YtkjdmbbaacjpmaaDoor.D
end
section
namespace Go.Proofs.YtkjdmbbaacjpmaaDoor.D
open Go.RowKit Go.Proofs.YtkjdmbbaacjpmaaDoorW.PrintWords Go.Proofs.YtkjdmbbaacjpmaaDoorW.PrintLast Go.Proofs.YtkjdmbbaacjpmaaDoorW.PrintMore
attribute [local go_sem] max2_int min2_int max_two min_two max_three min_three max_four min_four
set_option linter.unusedVariables false
set_option linter.unusedSimpArgs false
end Go.Proofs.YtkjdmbbaacjpmaaDoor.D
end
section
namespace Go.Proofs.YtkjdmbbaacjpmaaDoor.D
open Go.RowKit Go.Proofs.YtkjdmbbaacjpmaaDoorW.PrintWords Go.Proofs.YtkjdmbbaacjpmaaDoorW.PrintLast Go.Proofs.YtkjdmbbaacjpmaaDoorW.PrintMore
attribute [local go_sem] max2_int min2_int max_two min_two max_three min_three max_four min_four
set_option linter.unusedVariables false
set_option linter.unusedSimpArgs false
end Go.Proofs.YtkjdmbbaacjpmaaDoor.D
end
section
namespace Go.Proofs.YtkjdmbbaacjpmaaDoor.D
open Go.RowKit Go.Proofs.YtkjdmbbaacjpmaaDoorW.PrintWords Go.Proofs.YtkjdmbbaacjpmaaDoorW.PrintLast Go.Proofs.YtkjdmbbaacjpmaaDoorW.PrintMore
attribute [local go_sem] max2_int min2_int max_two min_two max_three min_three max_four min_four
set_option linter.unusedVariables false
set_option linter.unusedSimpArgs false
end Go.Proofs.YtkjdmbbaacjpmaaDoor.D
end
section
namespace Go.Proofs.YtkjdmbbaacjpmaaDoor.D
open Go.RowKit Go.Proofs.YtkjdmbbaacjpmaaDoorW.PrintWords Go.Proofs.YtkjdmbbaacjpmaaDoorW.PrintLast Go.Proofs.YtkjdmbbaacjpmaaDoorW.PrintMore
attribute [local go_sem] max2_int min2_int max_two min_two max_three min_three max_four min_four
set_option linter.unusedVariables false
set_option linter.unusedSimpArgs false
end Go.Proofs.YtkjdmbbaacjpmaaDoor.D
end
section
namespace Go.Proofs.YtkjdmbbaacjpmaaDoor.CivilPure
open Go.RowKit Go.Proofs.YtkjdmbbaacjpmaaDoor.Cal Go.Proofs.YtkjdmbbaacjpmaaDoorW.PrintWords Go.Proofs.YtkjdmbbaacjpmaaDoorW.PrintMore
theorem wrI {i : Int} (h0 : -1000000000000000000 ≤ i) (h : i ≤ 1000000000000000000) : wrap64 i = i := by unfold wrap64; omega
theorem startOf_cum {y m : Int} (hy : 1 ≤ y) (hy' : y ≤ 9999) (hm : 1 ≤ m) (hm' : m ≤ 13) : C.startOf y m = cum y m := by
  have e : (if 2 < m ∧ C.leapB y = true then (1 : Int) else 0) = if 2 < m then lp y else 0 := by
    have hl : C.leapB y = true ↔ (y % 4 = 0 ∧ (y % 100 ≠ 0 ∨ y % 400 = 0)) := by
      unfold C.leapB; rw [decide_eq_true_eq]; omega
    unfold lp
    by_cases h2 : 2 < m
    · rw [if_pos h2]
      by_cases hb : C.leapB y = true
      · rw [if_pos ⟨h2, hb⟩, if_pos (hl.1 hb)]
      · rw [if_neg (fun h => hb h.2), if_neg (fun h => hb (hl.2 h))]
    · rw [if_neg h2, if_neg (fun h => h2 h.1)]
  unfold C.startOf cum
  rw [e]
  congr 1
  have : m = 1 ∨ m = 2 ∨ m = 3 ∨ m = 4 ∨ m = 5 ∨ m = 6 ∨ m = 7 ∨ m = 8 ∨ m = 9 ∨ m = 10 ∨ m = 11 ∨ m = 12 ∨ m = 13 := by omega
  rcases this with rfl | rfl | rfl | rfl | rfl | rfl | rfl | rfl | rfl | rfl | rfl | rfl | rfl <;> rfl
theorem start_f {y m : Int} (hy : 1 ≤ y) (hy' : y ≤ 9999) (hm : 1 ≤ m) (hm' : m ≤ 13) : C.calendar_start.f y m = some (cum y m) := by
  unfold C.calendar_start.f
  rw [if_pos ⟨hm, hm'⟩, startOf_cum hy hy' hm hm']
theorem months_loop {y l : Int} (hy : 1 ≤ y) (hy' : y ≤ 9999) (hl' : l < 365 + lp y) (d : Nat) :
    ∀ m : Int, 1 ≤ m → m + d = 12 → cum y m ≤ l → ∃ m' : Int, 1 ≤ m' ∧ m' ≤ 12 ∧ cum y m' ≤ l ∧ l < cum y (m' + 1) ∧ Ev (fun k => C.calendar_Civil.l0 k l y m) (y, m', l - cum y m' + 1, true) := by
  have h01 := lp_01 y
  induction d with
  | zero =>
    intro m hm hd hc
    obtain rfl : m = 12 := by omega
    have hr := cum_range y (m := 12) (by omega) (by omega)
    refine ⟨12, by omega, by omega, hc, ?_, ?_⟩
    · rw [show (12 : Int) + 1 = 13 by omega, cum_end]; exact hl'
    · refine Ev.step (fun k => ?_) (Ev.now _)
      simp only [C.calendar_Civil.l0]
      rw [if_neg (by omega), start_f hy hy' (by omega) (by omega)]
      simp only [Option.bind_some]
      rw [wrI (i := l - cum y 12) (by omega) (by omega), wrI (by omega) (by omega)]
  | succ d ih =>
    intro m hm hd hc
    have hr := cum_range y (m := m) (by omega) (by omega)
    by_cases c : l ≥ cum y (m + 1)
    · obtain ⟨m', a1, a2, a3, a4, a5⟩ := ih (m + 1) (by omega) (by omega) c
      refine ⟨m', a1, a2, a3, a4, Ev.step (fun k => ?_) a5⟩
      simp only [C.calendar_Civil.l0]
      rw [if_pos (by omega), wrI (i := m + 1) (by omega) (by omega), start_f hy hy' (by omega) (by omega)]
      simp only [Option.bind_some]
      rw [if_pos c]
    · refine ⟨m, hm, by omega, hc, by omega, Ev.step (fun k => ?_) (Ev.now _)⟩
      simp only [C.calendar_Civil.l0]
      rw [if_pos (by omega), wrI (i := m + 1) (by omega) (by omega), start_f hy hy' (by omega) (by omega)]
      simp only [Option.bind_some]
      rw [if_neg c, start_f hy hy' (by omega) (by omega)]
      simp only [Option.bind_some]
      rw [wrI (i := l - cum y m) (by omega) (by omega), wrI (by omega) (by omega)]
theorem mn3 (a : Int) : mn a 3 = if a < 3 then a else 3 := by unfold mn; split <;> split <;> omega
def yOf (day : Int) : Int :=
  let q := (day - 1) / 146097
  let r := (day - 1) % 146097
  let h := if r / 36524 < 3 then r / 36524 else 3
  let r1 := r - h * 36524
  let r2 := r1 % 1461
  let o := if r2 / 365 < 3 then r2 / 365 else 3
  400 * q + 1 + (100 * h + 4 * (r1 / 1461) + o)
theorem prog_in {day : Int} (h1 : 1 ≤ day) (h2 : day ≤ 3652059) : ∃ y m d : Int, IsDate day y m d ∧ yOf day = y ∧ Ev (fun k => C.calendar_Civil.f k day) (y, m, d, true) := by
  obtain ⟨q, hq⟩ : ∃ q, (day - 1) / 146097 = q := ⟨_, rfl⟩
  obtain ⟨r, hr⟩ : ∃ r, (day - 1) % 146097 = r := ⟨_, rfl⟩
  obtain ⟨h, hh⟩ : ∃ h, mn (r / 36524) 3 = h := ⟨_, rfl⟩
  obtain ⟨r1, hr1⟩ : ∃ r1, r - h * 36524 = r1 := ⟨_, rfl⟩
  obtain ⟨f, hf⟩ : ∃ f, r1 / 1461 = f := ⟨_, rfl⟩
  obtain ⟨r2, hr2⟩ : ∃ r2, r1 % 1461 = r2 := ⟨_, rfl⟩
  obtain ⟨o, ho⟩ : ∃ o, mn (r2 / 365) 3 = o := ⟨_, rfl⟩
  obtain ⟨l, hl⟩ : ∃ l, r2 - o * 365 = l := ⟨_, rfl⟩
  obtain ⟨l0, l1, hnum, y1, y2, b1, b2, b3, b4, b5, b6, b7, b8, b9, b10, b11⟩ := year_of (day := day) (q := q) (r := r) (h := h) (r1 := r1) (f := f) (r2 := r2) (o := o) (l := l) h1 h2 hq.symm hr.symm (by rw [← hh, mn3]) hr1.symm hf.symm hr2.symm (by rw [← ho, mn3]) hl.symm
  have h01 := lp_01 (400 * q + 1 + (100 * h + 4 * f + o))
  obtain ⟨m, a1, a2, a3, a4, a5⟩ := months_loop y1 y2 l1 11 1 (by omega) (by omega) (by rw [cum_one]; exact l0)
  refine ⟨_, m, l - cum (400 * q + 1 + (100 * h + 4 * f + o)) m + 1, ⟨y1, y2, a1, a2, ?_, ?_, ?_⟩, ?_, ?_⟩
  · omega
  · rw [cum_succ _ a1 a2] at a4; omega
  · omega
  · have hh' : (if r / 36524 < 3 then r / 36524 else 3) = h := by rw [← mn3]; exact hh
    have ho' : (if r2 / 365 < 3 then r2 / 365 else 3) = o := by rw [← mn3]; exact ho
    unfold yOf
    simp only [hq, hr, hh', hr1, hr2, ho', hf]
  · refine Ev.congr (f := fun k => C.calendar_Civil.j0 k day false) (fun k => ?_) (Ev.step (fun k => ?_) a5)
    · unfold C.calendar_Civil.f
      rw [if_neg (by omega), decide_eq_false (by omega)]
    · have rr : r ≤ 146096 := by omega
      have r2r : r2 ≤ 1460 := by omega
      have r1r : r1 ≤ 146096 := by omega
      clear a1 a2 a3 a4 a5 hnum y1 y2 l1 h01
      simp only [C.calendar_Civil.j0]
      rw [if_neg (by simp), wrI (i := day - 1) (by omega) (by omega), Int.tmod_eq_emod_of_nonneg (a := day - 1) (b := 146097) (by omega), Int.tdiv_eq_ediv_of_nonneg (a := day - 1) (b := 146097) (by omega), hr, hq]
      rw [Int.tdiv_eq_ediv_of_nonneg (a := r) (b := 36524) (by omega), wrI (i := r / 36524) (by omega) (by omega), hh, wrI (i := h * 36524) (by omega) (by omega), hr1, wrI (i := r1) (by omega) (by omega)]
      rw [Int.tmod_eq_emod_of_nonneg (a := r1) (b := 1461) (by omega), Int.tdiv_eq_ediv_of_nonneg (a := r1) (b := 1461) (by omega), hr2, hf, Int.tdiv_eq_ediv_of_nonneg (a := r2) (b := 365) (by omega), wrI (i := r2 / 365) (by omega) (by omega), ho, wrI (i := o * 365) (by omega) (by omega), hl]
      rw [wrI (i := l) (by omega) (by omega), wrI (i := q) (by omega) (by omega), wrI (i := 400 * q) (by omega) (by omega), wrI (i := 400 * q + 1) (by omega) (by omega), wrI (i := f) (by omega) (by omega), wrI (i := 100 * h) (by omega) (by omega), wrI (i := 4 * f) (by omega) (by omega), wrI (i := 100 * h + 4 * f) (by omega) (by omega), wrI (i := 100 * h + 4 * f + o) (by omega) (by omega), wrI (i := 400 * q + 1 + (100 * h + 4 * f + o)) (by omega) (by omega)]
theorem prog_out {day : Int} (h : ¬ (1 ≤ day ∧ day ≤ 3652059)) : Ev (fun k => C.calendar_Civil.f k day) (0, 0, 0, false) := by
  refine Ev.congr (f := fun k => C.calendar_Civil.j0 k day true) (fun k => ?_) (Ev.step (fun k => ?_) (Ev.now _))
  · unfold C.calendar_Civil.f
    by_cases c : day < 1
    · rw [if_pos c]
    · rw [if_neg c, decide_eq_true (by omega)]
  · simp only [C.calendar_Civil.j0]; rfl
def mOf (y l : Int) : Int := if l < cum y 2 then 1 else if l < cum y 3 then 2 else if l < cum y 4 then 3 else if l < cum y 5 then 4 else if l < cum y 6 then 5 else if l < cum y 7 then 6 else if l < cum y 8 then 7 else if l < cum y 9 then 8 else if l < cum y 10 then 9 else if l < cum y 11 then 10 else if l < cum y 12 then 11 else 12
set_option maxHeartbeats 2000000 in
theorem mOf_eq {y l m : Int} (h1 : 1 ≤ m) (h2 : m ≤ 12) (h3 : cum y m ≤ l) (h4 : l < cum y (m + 1)) : mOf y l = m := by
  have h01 := lp_01 y
  have c1 : cum y 1 = 0 := by simp [cum, A]
  have c2 : cum y 2 = 31 := by simp [cum, A]
  have c3 : cum y 3 = 59 + lp y := by simp [cum, A]
  have c4 : cum y 4 = 90 + lp y := by simp [cum, A]
  have c5 : cum y 5 = 120 + lp y := by simp [cum, A]
  have c6 : cum y 6 = 151 + lp y := by simp [cum, A]
  have c7 : cum y 7 = 181 + lp y := by simp [cum, A]
  have c8 : cum y 8 = 212 + lp y := by simp [cum, A]
  have c9 : cum y 9 = 243 + lp y := by simp [cum, A]
  have c10 : cum y 10 = 273 + lp y := by simp [cum, A]
  have c11 : cum y 11 = 304 + lp y := by simp [cum, A]
  have c12 : cum y 12 = 334 + lp y := by simp [cum, A]
  unfold mOf
  rcases months h1 h2 with rfl | rfl | rfl | rfl | rfl | rfl | rfl | rfl | rfl | rfl | rfl | rfl <;> simp only [Int.reduceAdd] at h4 <;> repeat (first | rw [if_pos (by omega)] | rw [if_neg (by omega)])
theorem yOf_eq {day y m d : Int} (h : IsDate day y m d) (h1 : 1 ≤ day) (h2 : day ≤ 3652059) : yOf day = y := by
  obtain ⟨y', m', d', hd, hy, _⟩ := prog_in h1 h2
  exact hy.trans (hd.one h).1
def civ (day : Int) : Int × Int × Int := if 1 ≤ day ∧ day ≤ 3652059 then (yOf day, mOf (yOf day) (day - 1 - dby (yOf day)), day - dby (yOf day) - cum (yOf day) (mOf (yOf day) (day - 1 - dby (yOf day)))) else (0, 0, 0)
theorem civ_of {day y m d : Int} (h : IsDate day y m d) (h1 : 1 ≤ day) (h2 : day ≤ 3652059) : civ day = (y, m, d) := by
  have hy := yOf_eq h h1 h2
  have hn := h.num
  have hs := cum_succ y h.m1 h.m2
  have hm : mOf y (day - 1 - dby y) = m := mOf_eq h.m1 h.m2 (by have := h.d1; omega) (by rw [hs]; have := h.d2; omega)
  unfold civ
  rw [if_pos ⟨h1, h2⟩, hy, hm, show day - dby y - cum y m = d by omega]
def dayB (day : Int) : Bool := decide (1 ≤ day ∧ day ≤ 3652059)
theorem civ_date {day : Int} (h : 1 ≤ day ∧ day ≤ 3652059) : IsDate day (civ day).1 (civ day).2.1 (civ day).2.2 := by
  obtain ⟨y, m, d, hd, _, _⟩ := prog_in h.1 h.2
  rw [civ_of hd h.1 h.2]; exact hd
theorem prog_ev (day : Int) : Ev (fun k => C.calendar_Civil.f k day) ((civ day).1, (civ day).2.1, (civ day).2.2, dayB day) := by
  by_cases h : 1 ≤ day ∧ day ≤ 3652059
  · obtain ⟨y, m, d, hd, _, he⟩ := prog_in h.1 h.2
    unfold dayB; rw [decide_eq_true h, civ_of hd h.1 h.2]; exact he
  · unfold dayB; rw [decide_eq_false h]
    unfold civ; rw [if_neg h]; exact prog_out h
end Go.Proofs.YtkjdmbbaacjpmaaDoor.CivilPure
end
section
namespace Go.Proofs.YtkjdmbbaacjpmaaDoor.D
open Go.RowKit Go.Proofs.YtkjdmbbaacjpmaaDoorW.PrintWords Go.Proofs.YtkjdmbbaacjpmaaDoorW.PrintLast Go.Proofs.YtkjdmbbaacjpmaaDoorW.PrintMore
attribute [local go_sem] max2_int min2_int max_two min_two max_three min_three max_four min_four
set_option linter.unusedVariables false
set_option linter.unusedSimpArgs false
end Go.Proofs.YtkjdmbbaacjpmaaDoor.D
end
section
namespace Go.Proofs.YtkjdmbbaacjpmaaDoorW.PrintWords
open Go.RowKit
namespace Kd
variable {α : Type} {P : Program} {ops : Array Oper} {rest : List Oper} {o : Oper} {a : Act} {Q : Exit → Act → World → Prop}
theorem append_str_own {W : World} (base : Nat) (t u ty e : TypeId) (i : TypeInfo) (ht : P.underlying t = some (.slice e)) (hu : P.underlying u = some .string) (hi : P.info? e = some i) (hz : i.zero = some (.int .u8 0))
    (hsize : i.size = 1) (hby : i.bytes = 1) (v : Value) (n : Nat) (xs : List Value) (hown : W.ownsRow base e 1 v n xs) (s : ByteArray)
    (h63 : n + s.size ≤ maxLen) (hbytes : n + s.size ≤ 140737488355328) (hbase : base ≤ W.heap.size) :
    ∃ v' w', (Builtin.append_ #[t, u] ty #[v, .string s]).run P W = .ok v' w' ∧ w'.ownsRow base e 1 v' (n + s.size) (xs ++ Lib.strCells s) ∧ W.grownBy w' v.ownBlock ∧
      (v'.ownBlock = v.ownBlock ∨ ∃ b, v'.ownBlock = some b ∧ W.heap.size ≤ b) := by
  obtain ⟨v', w', hr, h2, h3, h4⟩ := Lib.run_append_own_string (P := P) W base t u ty e i ht hu hi hz hsize hby v n xs hown s h63 hbytes hbase
  refine ⟨v', w', hr, h2, h3, ?_⟩
  have hsmall : n + s.size ≤ 9223372036854775807 := by simp only [maxLen] at h63; omega
  have hxl : xs.length = n := by simpa using hown.1
  rcases hown.2 with ⟨rfl, rfl⟩ | ⟨g, cap, cur, rfl, hbg, hg, hnc, hcm, hcs, htake⟩
  · by_cases hm : s.size = 0
    · exact .inl (by rw [h4.2 ⟨rfl, hm⟩])
    · have hr2 := run_append_nil_string (P := P) W t u ty e i (.int .u8 0) ht hu hi hz s (by omega) (by omega) (by rw [hby]; omega)
      have e1 := hr.symm.trans hr2
      injection e1 with e1 _
      rw [e1]
      exact .inr ⟨W.heap.size, rfl, Nat.le_refl _⟩
  · by_cases hroom : n + s.size ≤ cap
    · have hcs' : cur.size = cap := by simpa using hcs
      have hr2 := Lib.run_append_room_string (P := P) W t u ty e i ht hu hi hsize g n cap cur hg s hroom (by omega)
      have e1 := hr.symm.trans hr2
      injection e1 with e1 _
      rw [e1]
      exact .inl rfl
    · have holds : ∀ j u, xs[j]? = some u → W.cell? ((⟨g, 0, none⟩ : Addr).add j) = some u := hown.cells (g := g) rfl
      have hr2 := Lib.run_append_grow_string (P := P) W t u ty e i (.int .u8 0) ht hu hi hz ⟨g, 0, none⟩ n cap xs (by rw [hsize]; simpa using hxl) holds s (by omega) (by omega) (by rw [hby]; exact growslice_fits (by omega) (by omega))
      have e1 := hr.symm.trans hr2
      injection e1 with e1 _
      rw [e1]
      exact .inr ⟨W.heap.size, rfl, Nat.le_refl _⟩
theorem R_append_str {w0 W : World} (base : Nat) (hgd : o.guard = none) (s x : Operand) (t u e : TypeId)
    (ho : o.op = .call { callee := .builtin .append, args := #[s, x], argTypes := #[t, u] })
    (ht : P.underlying t = some (.slice e)) (hu : P.underlying u = some .string) (hinfo : (P.info? e).map (fun i => (i.zero, i.size, i.bytes)) = some (some (.int .u8 0), 1, 1))
    (v : Value) (xs : List Int) (y : ByteArray) (ok : Nat → Prop) (hs : a.eval s = v) (hx : a.eval x = .string y)
    (HO : Kd.R (Kd.int .u8) e W base ok v xs) (hfresh : ∀ k, W.heap.size ≤ k → ok k) (HB : Below base w0 W) (hbase : base ≤ W.heap.size) (hl : xs.length + y.size < 140737488355328)
    (h : ∀ v1 w1, Kd.R (Kd.int .u8) e w1 base ok v1 (xs ++ bytesOf y) → Below base w0 w1 → W.grownBy w1 v.ownBlock → (v1.ownBlock = v.ownBlock ∨ ∃ b, v1.ownBlock = some b ∧ W.heap.size ≤ b) → wpList P ops Q rest (a.put o.dst v1) w1) :
    wpList P ops Q (o :: rest) a W := by
  obtain ⟨i0, hi, hzz⟩ := Option.map_eq_some_iff.1 hinfo
  simp only [Prod.mk.injEq] at hzz
  obtain ⟨hz0, hz1, hz2⟩ := hzz
  have hown := Kd.own_of_R HO
  obtain ⟨v1, w1, hr, h2, h3, h4⟩ := append_str_own (P := P) base t u o.type e i0 ht hu hi hz0 hz1 hz2 v xs.length _ hown y (by simp only [maxLen]; omega) (by omega) hbase
  refine wpList_plain hgd fun K hK => ?_
  unfold Oper.wp execOp
  simp only [ho, resolve, invoke, builtin, Sem.run_bind, Sem.run_pure, Result.andThen_ok, List.map_toArray, List.map_cons, List.map_nil, hs, hx, hr]
  have hcells : (nums .u8 xs ++ Lib.strCells y) = nums .u8 (xs ++ bytesOf y) := by
    simp [nums, bytesOf, Lib.strCells]
  have hl2 : (xs ++ bytesOf y).length = xs.length + y.size := by rw [List.length_append, bytesOf_length]
  refine hK _ _ (h v1 w1 (Kd.R_of_own (h1 := fun _ => rfl) ?_ fun k hk => ?_) (HB.grown h3 hbase fun k hk => ?_) h3 h4)
  · rw [hl2]
    have h5 := h2
    rw [show (encs (fun x => Value.int .u8 x) xs ++ Lib.strCells y) = encs (fun x => Value.int .u8 x) (xs ++ bytesOf y) from hcells] at h5
    exact h5
  · rcases h4 with h4 | ⟨b, h4, h5⟩
    · exact HO.1 k (h4.symm.trans hk)
    · rw [h4] at hk
      exact Option.some.inj hk ▸ hfresh b h5
  · rcases hown.2 with ⟨rfl, _⟩ | ⟨g, cap, cur, rfl, hbg, _⟩
    · simp [Value.ownBlock] at hk
    · simp [Value.ownBlock] at hk
      omega
end Kd
end Go.Proofs.YtkjdmbbaacjpmaaDoorW.PrintWords
namespace Go.Proofs.YtkjdmbbaacjpmaaDoor.T
open Go.RowKit Go.Proofs.YtkjdmbbaacjpmaaDoorW.PrintWords Go.Proofs.YtkjdmbbaacjpmaaDoorW.PrintLast
abbrev Tab (w : World) : Prop := C.Tab w
theorem tab_auto {w W : World} (h : Aside0 (Tab w)) (hb : Below w.heap.size w W) : Aside0 (Tab W) := C.tab_auto h hb
theorem tab_drawn {w : World} (h : Aside0 (Tab w)) (n : Nat) : Aside0 (Tab (w.drewN n)) := C.tab_drawn h n
def lockbox_CheckDigit.f (a0 : Int) : Option (Int × Bool) := some (DDigits.digitOf a0, DDigits.okN a0)
theorem lockbox_CheckDigit.calls (a0 : Int) (r1 : Int) (r2 : Bool) (w : World) (h : lockbox_CheckDigit.f a0 = some (r1, r2)) (HT : Aside0 (Tab w) := by first | assumption | exact tab_auto (by assumption) (by repeat (first | (with_reducible first | (with_reducible exact Aside0.out (by assumption)) | apply below_alloc | apply pw_below_drewN | apply below_drew1) | (refine below_set ?_ (Aside0.out (by assumption))))) | exact tab_drawn (by assumption) _) :
    Calls Tryd.prog 9 #[.int .i64 a0] w fun e w' => e = .returned (.tuple #[.int .i64 r1, .bool r2]) ∧ Below w.heap.size w w' := by
  unfold lockbox_CheckDigit.f at h
  simp only [Option.some.injEq, Prod.mk.injEq] at h
  obtain ⟨rfl, rfl⟩ := h
  exact DDigits.check_calls a0 w HT.out.pow
def strconv_FormatInt.f (a0 a1 : Int) : Option ByteArray := if a1 = 10 ∧ 0 ≤ a0 ∧ a0 ≤ 1000000000000000000 then some ⟨(Lib.decDigits a0.toNat).toArray⟩ else none
theorem strconv_FormatInt.calls (a0 a1 : Int) (r : ByteArray) (w : World) (h : strconv_FormatInt.f a0 a1 = some r) (HT : Aside0 (Tab w) := by first | assumption | exact tab_auto (by assumption) (by repeat (first | (with_reducible first | (with_reducible exact Aside0.out (by assumption)) | apply below_alloc | apply pw_below_drewN | apply below_drew1) | (refine below_set ?_ (Aside0.out (by assumption))))) | exact tab_drawn (by assumption) _) :
    Calls Tryd.prog 47 #[.int .i64 a0, .int .i64 a1] w fun e w' => e = .returned (.string r) ∧ Below w.heap.size w w' := by
  unfold strconv_FormatInt.f at h
  split at h
  case isFalse => cases h
  case isTrue hc =>
    obtain ⟨rfl, h0, h1⟩ := hc
    obtain rfl := Option.some.inj h
    refine (Tryd.strconv_FormatInt_10 a0 (by omega) (by omega) w HT.out.pow).mono ?_
    rintro e w' ⟨rfl, k, os, rfl⟩
    refine ⟨?_, Lib.below_grow _ _ (Nat.le_refl _) _ _⟩
    rw [Lib.itoa, if_neg (by omega)]
def calendar_Civil.f (a0 : Int) : Option (Int × Int × Int × Bool) := some ((CivilPure.civ a0).1, (CivilPure.civ a0).2.1, (CivilPure.civ a0).2.2, CivilPure.dayB a0)
theorem calendar_Civil.calls (a0 : Int) (r1 : Int) (r2 : Int) (r3 : Int) (r4 : Bool) (w : World) (h : calendar_Civil.f a0 = some (r1, r2, r3, r4)) (HT : Aside0 (Tab w) := by first | assumption | exact tab_auto (by assumption) (by repeat (first | (with_reducible first | (with_reducible exact Aside0.out (by assumption)) | apply below_alloc | apply pw_below_drewN | apply below_drew1) | (refine below_set ?_ (Aside0.out (by assumption))))) | exact tab_drawn (by assumption) _) :
    Calls Tryd.prog 33 #[.int .i64 a0] w fun e w' => e = .returned (.tuple #[.agg #[.int .i64 r1, .int .i64 r2, .int .i64 r3], .bool r4]) ∧ Below w.heap.size w w' := by
  obtain ⟨k, hk⟩ := (CivilPure.prog_ev a0).rounds
  exact C.calendar_Civil.calls k a0 r1 r2 r3 r4 w (hk.trans h) HT
end Go.Proofs.YtkjdmbbaacjpmaaDoor.T
end
section
namespace Go.Proofs.YtkjdmbbaacjpmaaDoor.R
open Go.RowKit Go.Proofs.YtkjdmbbaacjpmaaDoorW.PrintWords Go.Proofs.YtkjdmbbaacjpmaaDoorW.PrintLast
structure Tab (w : World) : Prop where
  tab : C.Tab w
  ety : w.cell? ⟨0, 0, none⟩ = some (.iface 119 (.agg #[.pointer (some ⟨8, 69, none⟩)]))
theorem tab_below {w W : World} (h : Tab w) (hb : Below w.heap.size w W) : Tab W := ⟨C.tab_below h.tab hb, (hb.cell (p := ⟨0, 0, none⟩) (World.block_lt_of_cell? w _ h.ety)).trans h.ety⟩
theorem tab_auto {w W : World} (h : Aside0 (Tab w)) (hb : Below w.heap.size w W) : Aside0 (Tab W) := ⟨tab_below h.out hb⟩
theorem tab_drawn {w : World} (h : Aside0 (Tab w)) (n : Nat) : Aside0 (Tab (w.drewN n)) := ⟨tab_below h.out ⟨rfl, rfl, rfl, Nat.le_refl _, fun _ _ => rfl⟩⟩
def lockbox_CheckDigit.f (a0 : Int) : Option (Int × Bool) := some (DDigits.digitOf a0, DDigits.okN a0)
theorem lockbox_CheckDigit.calls (a0 : Int) (r1 : Int) (r2 : Bool) (w : World) (h : lockbox_CheckDigit.f a0 = some (r1, r2)) (HT : Aside0 (Tab w) := by first | assumption | exact tab_auto (by assumption) (by repeat (first | (with_reducible first | (with_reducible exact Aside0.out (by assumption)) | apply below_alloc | apply pw_below_drewN | apply below_drew1) | (refine below_set ?_ (Aside0.out (by assumption))))) | exact tab_drawn (by assumption) _) :
    Calls Tryd.prog 9 #[.int .i64 a0] w fun e w' => e = .returned (.tuple #[.int .i64 r1, .bool r2]) ∧ Below w.heap.size w w' := T.lockbox_CheckDigit.calls a0 r1 r2 w h ⟨HT.out.tab⟩
def strconv_FormatInt.f (a0 a1 : Int) : Option ByteArray := if a1 = 10 ∧ 0 ≤ a0 ∧ a0 ≤ 1000000000000000000 then some ⟨(Lib.decDigits a0.toNat).toArray⟩ else none
theorem strconv_FormatInt.calls (a0 a1 : Int) (r : ByteArray) (w : World) (h : strconv_FormatInt.f a0 a1 = some r) (HT : Aside0 (Tab w) := by first | assumption | exact tab_auto (by assumption) (by repeat (first | (with_reducible first | (with_reducible exact Aside0.out (by assumption)) | apply below_alloc | apply pw_below_drewN | apply below_drew1) | (refine below_set ?_ (Aside0.out (by assumption))))) | exact tab_drawn (by assumption) _) :
    Calls Tryd.prog 47 #[.int .i64 a0, .int .i64 a1] w fun e w' => e = .returned (.string r) ∧ Below w.heap.size w w' := T.strconv_FormatInt.calls a0 a1 r w h ⟨HT.out.tab⟩
def calendar_Civil.f (a0 : Int) : Option (Int × Int × Int × Bool) := some ((CivilPure.civ a0).1, (CivilPure.civ a0).2.1, (CivilPure.civ a0).2.2, CivilPure.dayB a0)
theorem calendar_Civil.calls (a0 : Int) (r1 : Int) (r2 : Int) (r3 : Int) (r4 : Bool) (w : World) (h : calendar_Civil.f a0 = some (r1, r2, r3, r4)) (HT : Aside0 (Tab w) := by first | assumption | exact tab_auto (by assumption) (by repeat (first | (with_reducible first | (with_reducible exact Aside0.out (by assumption)) | apply below_alloc | apply pw_below_drewN | apply below_drew1) | (refine below_set ?_ (Aside0.out (by assumption))))) | exact tab_drawn (by assumption) _) :
    Calls Tryd.prog 33 #[.int .i64 a0] w fun e w' => e = .returned (.tuple #[.agg #[.int .i64 r1, .int .i64 r2, .int .i64 r3], .bool r4]) ∧ Below w.heap.size w w' := T.calendar_Civil.calls a0 r1 r2 r3 r4 w h ⟨HT.out.tab⟩
end Go.Proofs.YtkjdmbbaacjpmaaDoor.R
end
section
namespace Go.Proofs.YtkjdmbbaacjpmaaDoor.Laid7
open Go.RowKit Go.ChangeShapes Go.WideShapes Go.Proofs.YtkjdmbbaacjpmaaDoorW.PrintWords
def plain : List (String × DataW Unit) := [("math/bits.deBruijn32tab", Rows.laid_math_bits_deBruijn32tab), ("math/bits.deBruijn64tab", Rows.laid_math_bits_deBruijn64tab), ("internal/strconv.uint64pow10", Rows.laid_internal_strconv_uint64pow10), ("arrears/calendar.ahead", Rows.laid_arrears_calendar_ahead), ("strconv.ErrRange", Rows.laid_strconv_ErrRange), ("strconv.ErrSyntax", Rows.laid_strconv_ErrSyntax)]
def all7 : List (String × DataW Unit) := [("math/bits.deBruijn32tab", Rows.laid_math_bits_deBruijn32tab), ("math/bits.deBruijn64tab", Rows.laid_math_bits_deBruijn64tab), ("internal/strconv.uint64pow10", Rows.laid_internal_strconv_uint64pow10), ("errors.errorType", Rows.laid_errors_errorType), ("arrears/calendar.ahead", Rows.laid_arrears_calendar_ahead), ("strconv.ErrRange", Rows.laid_strconv_ErrRange), ("strconv.ErrSyntax", Rows.laid_strconv_ErrSyntax)]
theorem et : Tryd.prog.globalNamed "errors.errorType" = some 0 := by kernel_rfl
theorem rt : (Tryd.prog.cutTypes.find? (·.1 == "internal/reflectlite.rtype")).map (·.2) = some 119 := by kernel_rfl
theorem oneRow : ((List.range 194).filter fun t => Tryd.prog.rowNamed t [101, 114, 114, 111, 114]) = [69] := by kernel_rfl
theorem size : Tryd.prog.types.size = 194 := by kernel_rfl
theorem parts {W : World} (h : laidMetH Tryd.prog all7 W) : laidMet Tryd.prog plain W ∧ handlesMet Tryd.prog [("errors.errorType", Rows.laid_errors_errorType)] W := h
theorem handle {W : World} (h : laidMetH Tryd.prog all7 W) : W.cell? ⟨0, 0, none⟩ = some (.iface 119 (.agg #[.pointer (some ⟨8, 69, none⟩)])) := by
  obtain ⟨name, u, ty, e1, e2, e3, e4, e5⟩ := (parts h).2 _ (List.mem_singleton.2 rfl)
  have en : name = [101, 114, 114, 111, 114] := (Option.some.inj e1).symm
  subst en
  obtain rfl := Option.some.inj (rt.symm.trans e2)
  have hm : ty ∈ (List.range 194).filter fun t => Tryd.prog.rowNamed t [101, 114, 114, 111, 114] := List.mem_filter.2 ⟨List.mem_range.2 (by rw [← size]; exact e3), e4⟩
  rw [oneRow] at hm
  obtain rfl := List.mem_singleton.1 hm
  have hh : typeHandle Tryd.prog 69 = .pointer (some ⟨8, 69, none⟩) := by kernel_rfl
  rw [hh] at e5
  simpa using World.var?_cell et e5 0
theorem tab {W : World} (h : laidMetH Tryd.prog all7 W) : R.Tab W :=
  ⟨⟨Lib.tabIs_of_head (rest := []) (zs := Lib.pow10Tab) (g := 2) (by kernel_rfl) (by kernel_rfl) Tryd.underlying142 Tryd.underlying133 (by kernel_rfl) (by kernel_rfl) ((parts h).1.filter fun x => x.1 == "internal/strconv.uint64pow10"),
    Lib.tabIs_of_head (rest := []) (zs := C.aheadTab) (g := 1) (by kernel_rfl) (by kernel_rfl) Tryd.underlying114 Tryd.underlying3 (by kernel_rfl) (by kernel_rfl) ((parts h).1.filter fun x => x.1 == "arrears/calendar.ahead")⟩,
   handle h⟩
noncomputable def world0 (os : Os) : World :=
  let w0 := World.holding Tryd.prog os ⟨#[], #[], []⟩
  { w0 with heap := w0.heap.modify 0 fun
      | .cells _ t frozen => .cells #[.iface 119 (.agg #[.pointer (some ⟨8, 69, none⟩)])] t frozen
      | o => o }
noncomputable def world (os : Os) : World := (world0 os).layVars Tryd.prog plain
theorem world_os (os : Os) : (world os).os = os := (World.layVars_os _ _ _).trans rfl
theorem world_plain (os : Os) : laidMet Tryd.prog plain (world os) := by
  have e1 : (plain.filter fun x => (plain.map (·.1)).contains x.1) = plain := List.filter_eq_self.2 fun x hx => List.contains_iff_mem.2 (List.mem_map.2 ⟨x, hx, rfl⟩)
  have e2 : (plain.filter fun x => !(plain.map (·.1)).contains x.1) = [] := List.filter_eq_nil_iff.2 fun x hx => by rw [List.contains_iff_mem.2 (List.mem_map.2 ⟨x, hx, rfl⟩)]; simp
  exact laidMet_layVars (w0 := world0 os) (plain.map (·.1)) [] (by rw [e1]; rfl) (by rw [e1]; kernel_rfl) (by rw [e1]; kernel_rfl) (by rw [e2]; exact LaidIn.none)
theorem world_met (os : Os) (args : Array Value) : laidMetH Tryd.prog all7 ((world os).forCall (fun _ _ => 0) ⟨#[], args, []⟩).memory :=
  laidMetH_of_parts ((world_plain os).of_heap (by simp [World.memory, World.forCall, Input.heap])) (by kernel_rfl)
end Go.Proofs.YtkjdmbbaacjpmaaDoor.Laid7
end
section
namespace Go.Proofs.YtkjdmbbaacjpmaaDoor.R
open Go.RowKit Go.Proofs.YtkjdmbbaacjpmaaDoorW.PrintWords Go.Proofs.YtkjdmbbaacjpmaaDoorW.PrintLast Go.Proofs.YtkjdmbbaacjpmaaDoorW.PrintMore
attribute [local go_sem] max2_int min2_int max_two min_two max_three min_three max_four min_four
set_option linter.unusedVariables false
set_option linter.unusedSimpArgs false
def errW : Option Int → Value
  | none => .nilIface
  | some c => .iface 0 (.int .i64 c)
theorem errW_none : errW none = .nilIface := rfl
theorem errW_some (c : Int) : errW (some c) = .iface 0 (.int .i64 c) := rfl
theorem info5 : (Tryd.prog.info? 5).map (fun i => (i.zero, i.size, i.bytes)) = some (some (.int .u8 0), 1, 1) := by kernel_rfl
theorem info50 : (Tryd.prog.info? 50).map (fun i => (i.zero, i.size, i.bytes)) = some (some (.agg #[(.int .i64 0), (.int .i64 0)]), 2, 16) := by kernel_rfl
structure S50 where
  f0 : Int
  f1 : Int
def z50 : S50 := ⟨(0 : Int), (0 : Int)⟩
def k50 : Kd S50 := Kd.iso (Kd.pair (Kd.int .i64) (Kd.int .i64)) (fun x : S50 => (x.f0, x.f1))
theorem k50_open {w : World} {x : S50} {cs : List Value} (h : k50.K w x cs) : cs = [.int .i64 x.f0, .int .i64 x.f1] := by
  obtain ⟨_, _, rfl, rfl, rfl⟩ := h
  exact rfl
theorem k50_mk (w : World) (x : S50)  : k50.K w x [.int .i64 x.f0, .int .i64 x.f1] := ⟨[.int .i64 x.f0], [.int .i64 x.f1], rfl, rfl, rfl⟩
theorem k50_mkM (w : World) (base : Nat) (ok : Nat → Prop) (x : S50)  : k50.M w base ok x [.int .i64 x.f0, .int .i64 x.f1] := ⟨[.int .i64 x.f0], [.int .i64 x.f1], rfl, rfl, rfl⟩
def rd_T50 (xs : List S50) (i : Int) : S50 := xs.getD i.toNat z50
theorem at_T50 {w : World} {A : Option Addr} {n : Nat} {xs : List S50} (h : Kd.C k50 w A n xs) (i : Int) (h0 : 0 ≤ i) (h1 : i < n) : ∃ ad , A = some ad ∧ w.cell? (ad.add (i.toNat * 2)) = some (.int .i64 (rd_T50 xs i).f0) ∧ w.cell? ⟨(ad.add (i.toNat * 2)).block, (ad.add (i.toNat * 2)).off + 1, none⟩ = some (.int .i64 (rd_T50 xs i).f1) := by
  obtain ⟨ad, c, e, _, hK, hc0⟩ := Kd.C_get h z50 i h0 h1
  have hc : ∀ j u, c[j]? = some u → w.cell? (ad.add (i.toNat * 2 + j)) = some u := hc0
  obtain rfl := k50_open hK
  exact ⟨ad, e, hc 0 _ rfl, by rw [← add_field _ _ 1 (by omega)]; exact hc 1 _ rfl⟩
end Go.Proofs.YtkjdmbbaacjpmaaDoor.R
end
section
namespace Go.Proofs.YtkjdmbbaacjpmaaDoor.R
open Go.RowKit Go.Proofs.YtkjdmbbaacjpmaaDoorW.PrintWords Go.Proofs.YtkjdmbbaacjpmaaDoorW.PrintLast Go.Proofs.YtkjdmbbaacjpmaaDoorW.PrintMore
attribute [local go_sem] max2_int min2_int max_two min_two max_three min_three max_four min_four
set_option linter.unusedVariables false
set_option linter.unusedSimpArgs false
def lockbox_totals.l0 : Nat → Int → Int → List (S50) → Int → Int → Option (Int × Int)
  | 0, _, _, _, _, _ => none
  | k + 1, x4, x5, x8, x9, x10 => if x10 < x9 then (if 0 ≤ x10 then (if x10 < (x8.length : Int) then (lockbox_totals.l0 k (wrap64 (x4 + ((rd_T50 x8 x10).f1))) (Int.tmod (wrap64 (x5 + ((rd_T50 x8 x10).f0))) 10000000000) x8 x9 (wrap64 (x10 + 1))) else (none)) else (none)) else (some (x4, x5))
def lockbox_totals.f (k : Nat) (l0 : List (S50)) : Option (Int × Int) := lockbox_totals.l0 k 0 0 l0 (l0.length : Int) 0
theorem lockbox_totals.mono_l : ∀ k, (∀ y0 y1 y2 y3 y4, LeO (lockbox_totals.l0 k y0 y1 y2 y3 y4) (lockbox_totals.l0 (k + 1) y0 y1 y2 y3 y4))
  | 0 => fun _ _ _ _ _ r h => by simp [lockbox_totals.l0] at h
  | k + 1 => by
    have ih0 := lockbox_totals.mono_l k
    · intro y0 y1 y2 y3 y4
      unfold lockbox_totals.l0
      repeat' first
      | (with_reducible exact ih0 _ _ _ _ _)
      | (with_reducible exact LeO.refl _)
      | (with_reducible exact LeO.none _)
      | (with_reducible refine LeO.ite ?_ ?_)
      | (with_reducible refine LeO.bind ?_ (fun _ => ?_))
      | exact ih0 _ _ _ _ _
      | exact LeO.none _
      | refine LeO.ite ?_ ?_
      | refine LeO.bind ?_ (fun _ => ?_)
theorem lockbox_totals.mono : ∀ a0 k, LeO (lockbox_totals.f k a0) (lockbox_totals.f (k + 1) a0) := by
  intro a0 k
  have ih0 := lockbox_totals.mono_l k
  unfold lockbox_totals.f
  repeat' first
      | (with_reducible exact ih0 _ _ _ _ _)
      | (with_reducible exact LeO.refl _)
      | (with_reducible exact LeO.none _)
      | (with_reducible refine LeO.ite ?_ ?_)
      | (with_reducible refine LeO.bind ?_ (fun _ => ?_))
      | exact ih0 _ _ _ _ _
      | exact LeO.none _
      | refine LeO.ite ?_ ?_
      | refine LeO.bind ?_ (fun _ => ?_)
set_option maxHeartbeats 8000000 in
set_option maxRecDepth 100000 in
theorem lockbox_totals.calls (k : Nat) (A0 : Option Addr) (c0 : Nat) (l0 : List (S50)) (r1 : Int) (r2 : Int) (w : World) (hr0 : Kd.C k50 w A0 l0.length l0) (hc0 : l0.length ≤ c0) (h : lockbox_totals.f k l0 = some (r1, r2)) :
    Calls Tryd.prog 35 #[.slice A0 l0.length c0] w fun e w' => e = .returned (.tuple #[.int .i64 r1, .int .i64 r2]) ∧ Below w.heap.size w w' := by
  have hu50 := Tryd.underlying50
  have HR0 := Aside0.mk hr0
  have HC0 := Aside0.mk hc0
  clear hr0 hc0
  have HB := Aside0.mk (Below.refl w.heap.size w)
  have H : (lockbox_totals.l0 k 0 0 l0 (l0.length : Int) 0) = some (r1, r2) := h
  clear h
  have H' := Aside0.mk H
  clear H
  go_enter Tryd.func35, Tryd.ntmps35
  go_wp2
  go_loopg [4, 5, 10] k (fun kq v4 v5 v10 w' => ∃ (x4_1 : Int) (x5_1 : Int) (x10_1 : Int), v4 = .int .i64 x4_1 ∧ v5 = .int .i64 x5_1 ∧ v10 = .int .i64 x10_1 ∧ Aside0 (lockbox_totals.l0 kq x4_1 x5_1 l0 (l0.length : Int) x10_1 = some (r1, r2)) ∧ Aside0 (kq ≤ k) ∧ Aside0 (Below w.heap.size w w'))
  case atStart => exact ⟨(0), (0), (0), (by first | rfl | (simp; done) | (simp [*]; done)), (by first | rfl | (simp; done) | (simp [*]; done)), (by first | rfl | (simp; done) | (simp [*]; done)), H', ⟨Nat.le_refl _⟩, ⟨by repeat (first | (with_reducible first | exact HB.out | apply below_alloc | apply pw_below_drewN | apply below_drew1) | exact HB.out)⟩⟩
  case round =>
    clear H'
    obtain ⟨x4_1, x5_1, x10_1, rfl, rfl, rfl, HA, HK1, HB⟩ := hrel
    cases gk with
    | zero => exact absurd HA.out (by simp [lockbox_totals.l0])
    | succ k1 =>
      have H := HA.out
      clear HA
      simp only [lockbox_totals.l0] at H
      by_cases c2 : x10_1 < (l0.length : Int)
      · rw [if_pos c2] at H
        have c2b0 : decide (x10_1 < (l0.length : Int)) = true := decide_eq_true c2
        clear c2
        by_cases c3 : 0 ≤ x10_1
        · rw [if_pos c3] at H
          have c3b0 : decide (0 ≤ x10_1) = true := decide_eq_true c3
          clear c3
          by_cases c4 : x10_1 < (l0.length : Int)
          · rw [if_pos c4] at H
            have c4b0 : decide (x10_1 < (l0.length : Int)) = true := decide_eq_true c4
            clear c4
            have H' := Aside0.mk H
            clear H
            have p254 : 0 ≤ (x10_1 : Int) := of_decide_eq_true (by first | (with_reducible assumption) | assumption)
            have q254 : x10_1 < (l0.length : Int) := of_decide_eq_true (by first | (with_reducible assumption) | assumption)
            obtain ⟨ad254, e254, hx254_0, hx254_1⟩ := at_T50 HR0.out x10_1 p254 q254
            cases e254
            replace hx254_0 := (HB.out.cell (World.block_lt_of_cell? w _ hx254_0)).trans hx254_0
            replace hx254_1 := (HB.out.cell (World.block_lt_of_cell? w _ hx254_1)).trans hx254_1
            replace p254 := eq_true p254
            replace q254 := eq_true q254
            go_wp2_with (first | ((with_reducible refine gate_dst (N := 7) rfl ?_); refine box_event ?hg (N := 7) ?hd (cs := #[.int .i64 0, .int .i64 0]) (t := 50) ?hr ?_; (case hd => rfl); (case hg => rfl); (case hr => first | (go_simp; done) | (go_simp; rfl)); intro gb255 hg w5 hbox hb; have n0_ := Aside0.mk (below_step (by repeat (first | (with_reducible first | exact HB.out | apply below_alloc | apply pw_below_drewN | apply below_drew1) | exact HB.out)) hb); have n1_ := Aside0.mk (hbox); have n2_ := Aside0.mk ((by rw [hg]; exact (below_size (by repeat (first | (with_reducible first | exact HB.out | apply below_alloc | apply pw_below_drewN | apply below_drew1) | exact HB.out))) : w.heap.size ≤ gb255)); have n3_ := Aside0.mk ((by rw [hg]; exact (below_size (by repeat (first | (with_reducible first | exact HB.out | apply below_alloc | apply pw_below_drewN | apply below_drew1) | exact HB.out))) : w.heap.size ≤ gb255)); clear HB; have HB := n0_; have BK255 := n1_; have GW255 := n2_; have GE255 := n3_; clear n0_ n1_ n2_ n3_; clear hb hbox hg; have hcz6_0 : w5.cell? ⟨gb255, 0, none⟩ = some (.int .i64 0) := (blk_cell BK255.out 0).trans rfl; have hcz6_1 : w5.cell? ⟨gb255, 1, none⟩ = some (.int .i64 0) := (blk_cell BK255.out 1).trans rfl; have hfz6_0 := blk_frozen BK255.out 0; have hfz6_1 := blk_frozen BK255.out 1))
            go_roundg k1
            case measure => have := HK1.out; omega
            case rel => exact ⟨(wrap64 (x4_1 + ((rd_T50 l0 x10_1).f1))), (Int.tmod (wrap64 (x5_1 + ((rd_T50 l0 x10_1).f0))) 10000000000), (wrap64 (x10_1 + 1)), (by first | rfl | (simp; done) | (simp [*]; done)), (by first | rfl | (simp; done) | (simp [*]; done)), (by first | rfl | (simp; done) | (simp [*]; done)), H', ⟨by have := HK1.out; omega⟩, ⟨by repeat (first | (with_reducible first | exact HB.out | apply below_alloc | apply pw_below_drewN | apply below_drew1 | refine below_set ?_ GE255.out) | exact HB.out)⟩⟩
          · rw [if_neg c4] at H
            exact absurd H (by simp)
        · rw [if_neg c3] at H
          exact absurd H (by simp)
      · rw [if_neg c2] at H
        have c2b0 : decide (x10_1 < (l0.length : Int)) = false := decide_eq_false c2
        clear c2
        simp only [Option.some.injEq, Prod.mk.injEq] at H
        obtain ⟨rfl, rfl⟩ := H
        go_wp2
        go_ret2
        exact ⟨by first | rfl | (simp [errW_none, errW_some] <;> rfl) | (simp [*, errW_none, errW_some] <;> rfl), by repeat (first | (with_reducible first | exact HB.out | apply below_alloc | apply pw_below_drewN | apply below_drew1) | exact HB.out)⟩
end Go.Proofs.YtkjdmbbaacjpmaaDoor.R
end
