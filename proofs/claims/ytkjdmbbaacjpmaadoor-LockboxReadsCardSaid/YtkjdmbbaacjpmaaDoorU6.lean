-- Texts of this claim, joined and cut down to what it uses (a program of this session).
import Derived.Test.YtkjdmbbaacjpmaaDoorU5
import Derived.Shelf.Strconv.Itoa0
import Derived.Shelf.Strconv.Itoa1
import Derived.Shelf.LaysM
import Derived.Shelf.Strconv.Itoa2
import Derived.Shelf.Strconv.Itoa3
import Derived.Shelf.Strconv.Itoa4
import Derived.Shelf.Strconv.ParseIntEmpty
import Derived.Shelf.Strconv.Clone
import Derived.Shelf.Strconv.SyntaxError
import Derived.Shelf.LaysC
import Derived.Shelf.Strconv.ToError
import Derived.Shelf.Strconv.Lower
import Derived.Shelf.Strconv.ParseUint10
import Derived.Shelf.Strconv.ParseUint10Empty
import Derived.Shelf.Strconv.ParseUint10Any
import Derived.Shelf.Strconv.ParseInt10
import Derived.Shelf.Strconv.RangeError
import Derived.Shelf.Strconv.ToErrorRange
import Derived.Shelf.Strconv.ParseUintEmpty
import Derived.Shelf.Strconv.ParseUint10b64
import Derived.Shelf.Strconv.ParseUint10b32
import Derived.Shelf.Strconv.ParseUint10b16
import Derived.Shelf.Strconv.ParseUint10b8
import Derived.Shelf.Strconv.ParseUint10At
import Derived.Shelf.Strconv.ParseInt10At64
import Derived.Shelf.Strconv.ParseInt10At32
import Derived.Shelf.Strconv.ParseInt10At16
import Derived.Shelf.Strconv.ParseInt10At8
import Derived.Shelf.Strconv.ParseInt10All
import Derived.Shelf.Strconv.ParseIntPublic10
import Derived.Shelf.Strconv.ErrVarParseInt
import Derived.Shelf.Bytes.IndexByte
import Derived.Test.YtkjdmbbaacjpmaaDoorProg
import Derived.Lib.Bytealg
import Derived.Lib.Bytes
import Derived.Lib.ParseIntB
import Derived.Deep.QuietTactic
import Derived.BigQuiet
import Derived.Deep.RegionHeld3
import Derived.Deep.LoopGhost
section
namespace Go.Proofs
open Go.Shelf
def Tryd.laysC174_ren : Go.Shelf.Ren := ⟨fun | 174 => 77 | 247 => 84 | 245 => 85 | 287 => 88 | 279 => 89 | 280 => 90 | 281 => 91 | 282 => 92 | 321 => 93 | 322 => 94 | 316 => 95 | 171 => 28 | 205 => 96 | 243 => 45 | 246 => 61 | 283 => 71 | 284 => 72 | 285 => 73 | 286 => 74 | 129 => 79 | 317 => 78 | 318 => 80 | 319 => 81 | 320 => 82 | 337 => 86 | 338 => 87 | n => n, fun | 9 => 9 | 3 => 3 | 2 => 2 | 75 => 69 | 85 => 139 | 4 => 4 | 167 => 149 | 5 => 5 | 53 => 133 | 175 => 150 | 46 => 145 | 168 => 152 | 37 => 26 | 0 => 0 | 210 => 160 | 21 => 21 | 127 => 162 | 145 => 165 | 143 => 163 | 171 => 132 | 173 => 136 | 212 => 142 | 51 => 143 | 20 => 20 | 213 => 144 | 232 => 155 | 233 => 156 | 80 => 166 | n => n, fun | 15 => 6 | 16 => 7 | 17 => 2 | 18 => 4 | 19 => 5 | n => n⟩
theorem Tryd.laysC174 : Go.Proofs.LaysC.n174 Tryd.prog Tryd.laysC174_ren := {
  mixed := by kernel_rfl
  f129 := Tryd.func79.trans (congrArg some (by kernel_rfl))
  f171 := Tryd.func28.trans (congrArg some (by kernel_rfl))
  f174 := Tryd.func77.trans (congrArg some (by kernel_rfl))
  f205 := Tryd.func96.trans (congrArg some (by kernel_rfl))
  f243 := Tryd.func45.trans (congrArg some (by kernel_rfl))
  f245 := Tryd.func85.trans (congrArg some (by kernel_rfl))
  f246 := Tryd.func61.trans (congrArg some (by kernel_rfl))
  f247 := Tryd.func84.trans (congrArg some (by kernel_rfl))
  f279 := Tryd.func89.trans (congrArg some (by kernel_rfl))
  f280 := Tryd.func90.trans (congrArg some (by kernel_rfl))
  f281 := Tryd.func91.trans (congrArg some (by kernel_rfl))
  f282 := Tryd.func92.trans (congrArg some (by kernel_rfl))
  f283 := Tryd.func71.trans (congrArg some (by kernel_rfl))
  f284 := Tryd.func72.trans (congrArg some (by kernel_rfl))
  f285 := Tryd.func73.trans (congrArg some (by kernel_rfl))
  f286 := Tryd.func74.trans (congrArg some (by kernel_rfl))
  f287 := Tryd.func88.trans (congrArg some (by kernel_rfl))
  f316 := Tryd.func95.trans (congrArg some (by kernel_rfl))
  f317 := Tryd.func78.trans (congrArg some (by kernel_rfl))
  f318 := Tryd.func80.trans (congrArg some (by kernel_rfl))
  f319 := Tryd.func81.trans (congrArg some (by kernel_rfl))
  f320 := Tryd.func82.trans (congrArg some (by kernel_rfl))
  f321 := Tryd.func93.trans (congrArg some (by kernel_rfl))
  f322 := Tryd.func94.trans (congrArg some (by kernel_rfl))
  f337 := Tryd.func86.trans (congrArg some (by kernel_rfl))
  f338 := Tryd.func87.trans (congrArg some (by kernel_rfl))
  t0 := Tryd.underlying0
  a0 := Tryd.isAgg0
  z0 := Tryd.sizeOf0
  v0 := Tryd.zeroValue0
  t2 := Tryd.underlying2
  a2 := Tryd.isAgg2
  z2 := Tryd.sizeOf2
  v2 := Tryd.zeroValue2
  t3 := Tryd.underlying3
  a3 := Tryd.isAgg3
  z3 := Tryd.sizeOf3
  v3 := Tryd.zeroValue3
  t4 := Tryd.underlying4
  a4 := Tryd.isAgg4
  z4 := Tryd.sizeOf4
  v4 := Tryd.zeroValue4
  t5 := Tryd.underlying5
  a5 := Tryd.isAgg5
  z5 := Tryd.sizeOf5
  v5 := Tryd.zeroValue5
  t9 := Tryd.underlying9
  a9 := Tryd.isAgg9
  z9 := Tryd.sizeOf9
  v9 := Tryd.zeroValue9
  t20 := Tryd.underlying20
  a20 := Tryd.isAgg20
  z20 := Tryd.sizeOf20
  v20 := Tryd.zeroValue20
  t21 := Tryd.underlying21
  a21 := Tryd.isAgg21
  z21 := Tryd.sizeOf21
  v21 := Tryd.zeroValue21
  t37 := Tryd.underlying26
  a37 := Tryd.isAgg26
  z37 := Tryd.sizeOf26
  v37 := Tryd.zeroValue26
  t46 := Tryd.underlying145
  a46 := Tryd.isAgg145
  z46 := Tryd.sizeOf145
  v46 := Tryd.zeroValue145
  t51 := Tryd.underlying143
  a51 := Tryd.isAgg143
  z51 := Tryd.sizeOf143
  v51 := Tryd.zeroValue143
  t53 := Tryd.underlying133
  a53 := Tryd.isAgg133
  z53 := Tryd.sizeOf133
  v53 := Tryd.zeroValue133
  t75 := Tryd.underlying69
  a75 := Tryd.isAgg69
  z75 := Tryd.sizeOf69
  v75 := Tryd.zeroValue69
  t85 := Tryd.underlying139
  a85 := Tryd.isAgg139
  z85 := Tryd.sizeOf139
  v85 := Tryd.zeroValue139
  t127 := Tryd.underlying162
  a127 := Tryd.isAgg162
  z127 := Tryd.sizeOf162
  v127 := Tryd.zeroValue162
  t143 := Tryd.underlying163
  a143 := Tryd.isAgg163
  z143 := Tryd.sizeOf163
  v143 := Tryd.zeroValue163
  t145 := Tryd.underlying165
  a145 := Tryd.isAgg165
  z145 := Tryd.sizeOf165
  v145 := Tryd.zeroValue165
  t167 := Tryd.underlying149
  a167 := Tryd.isAgg149
  z167 := Tryd.sizeOf149
  v167 := Tryd.zeroValue149
  t168 := Tryd.underlying152
  a168 := Tryd.isAgg152
  z168 := Tryd.sizeOf152
  v168 := Tryd.zeroValue152
  t171 := Tryd.underlying132
  a171 := Tryd.isAgg132
  z171 := Tryd.sizeOf132
  v171 := Tryd.zeroValue132
  t173 := Tryd.underlying136
  a173 := Tryd.isAgg136
  z173 := Tryd.sizeOf136
  v173 := Tryd.zeroValue136
  t175 := Tryd.underlying150
  a175 := Tryd.isAgg150
  z175 := Tryd.sizeOf150
  v175 := Tryd.zeroValue150
  t210 := Tryd.underlying160
  a210 := Tryd.isAgg160
  z210 := Tryd.sizeOf160
  v210 := Tryd.zeroValue160
  t212 := Tryd.underlying142
  a212 := Tryd.isAgg142
  z212 := Tryd.sizeOf142
  v212 := Tryd.zeroValue142
  t213 := Tryd.underlying144
  a213 := Tryd.isAgg144
  z213 := Tryd.sizeOf144
  t232 := Tryd.underlying155
  a232 := Tryd.isAgg155
  z232 := Tryd.sizeOf155
  v232 := Tryd.zeroValue155
  t233 := Tryd.underlying156
  a233 := Tryd.isAgg156
  z233 := Tryd.sizeOf156
  v233 := Tryd.zeroValue156
  g15 := by kernel_rfl
  g16 := by kernel_rfl
  g17 := by kernel_rfl
  g18 := by kernel_rfl
  g19 := by kernel_rfl
  t80 := Tryd.underlying166
  a80 := Tryd.isAgg166
  z80 := Tryd.sizeOf166
  v80 := Tryd.zeroValue166
  i0 := by kernel_rfl
  i2 := by kernel_rfl
  i3 := by kernel_rfl
  i4 := by kernel_rfl
  i5 := by kernel_rfl
  i9 := by kernel_rfl
  i20 := by kernel_rfl
  i21 := by kernel_rfl
  i37 := by kernel_rfl
  i46 := by kernel_rfl
  i51 := by kernel_rfl
  i53 := by kernel_rfl
  i75 := by kernel_rfl
  i80 := by kernel_rfl
  i85 := by kernel_rfl
  i127 := by kernel_rfl
  i143 := by kernel_rfl
  i145 := by kernel_rfl
  i167 := by kernel_rfl
  i168 := by kernel_rfl
  i171 := by kernel_rfl
  i173 := by kernel_rfl
  i175 := by kernel_rfl
  i210 := by kernel_rfl
  i212 := by kernel_rfl
  i232 := by kernel_rfl
  i233 := by kernel_rfl
  m15 := by kernel_rfl
  m16 := by kernel_rfl
  m17 := by kernel_rfl
  m18 := by kernel_rfl
  m19 := by kernel_rfl
  c0 := by kernel_rfl
  c2 := by kernel_rfl
  c3 := by kernel_rfl
  c4 := by kernel_rfl
  c5 := by kernel_rfl
  c9 := by kernel_rfl
  c20 := by kernel_rfl
  c21 := by kernel_rfl
  c37 := by kernel_rfl
  c46 := by kernel_rfl
  c51 := by kernel_rfl
  c53 := by kernel_rfl
  c75 := by kernel_rfl
  c80 := by kernel_rfl
  c85 := by kernel_rfl
  c127 := by kernel_rfl
  c143 := by kernel_rfl
  c145 := by kernel_rfl
  c167 := by kernel_rfl
  c168 := by kernel_rfl
  c171 := by kernel_rfl
  c173 := by kernel_rfl
  c175 := by kernel_rfl
  c210 := by kernel_rfl
  c212 := by kernel_rfl
  c213 := by kernel_rfl
  c232 := by kernel_rfl
  c233 := by kernel_rfl }
open Go.RowKit in
theorem Tryd.strconv_ParseInt_10_at64_ok (s : ByteArray) (hmax : s.size ≤ 9223372036854775806) (v : Int) (h : Lib.parseIntB 64 s.data.toList = .ok v) (w : World) :
    Calls Tryd.prog 77 #[.string s, .int .i64 10, .int .i64 64] w fun e w' => e = .returned (.tuple #[.int .i64 v, .nilIface]) ∧ (w' = w ∨ ∃ t, w' = Lib.bytesWorld w 5 t) := Any.strconv_ParseInt_10_at64_ok Tryd.laysC174 s hmax v h w
end Go.Proofs
end
section
namespace Go.Proofs.YtkjdmbbaacjpmaaDoor.Scan
def Byt (xs : List Int) : Prop := ∀ x ∈ xs, 0 ≤ x ∧ x ≤ 255
def eol : List Int → Nat
  | [] => 0
  | x :: t => if x = 10 then 0 else eol t + 1
theorem eol_le : ∀ xs : List Int, eol xs ≤ xs.length
  | [] => by simp [eol]
  | x :: t => by have := eol_le t; simp only [eol, List.length_cons]; split <;> omega
theorem byte_eq {x : Int} (h : 0 ≤ x ∧ x ≤ 255) : (UInt8.ofNat x.toNat == (10 : Int).toNat.toUInt8) = decide (x = 10) := by
  obtain ⟨m, rfl⟩ : ∃ m : Nat, x = m := ⟨x.toNat, by omega⟩
  have hm : m ≤ 255 := by omega
  rw [Bool.eq_iff_iff]
  simp only [Int.toNat_natCast, beq_iff_eq, decide_eq_true_eq]
  rw [← UInt8.toNat_inj]
  have e1 : (UInt8.ofNat m).toNat = m := by rw [UInt8.toNat_ofNat']; omega
  have e2 : ((10 : Int).toNat.toUInt8).toNat = 10 := by decide
  rw [e1, e2]; omega
theorem indexByte_eol : ∀ xs : List Int, Byt xs →
    Lib.indexByte (Lib.bytesOf xs) (10 : Int).toNat.toUInt8 = if eol xs < xs.length then (eol xs : Int) else -1
  | [], _ => by simp [Lib.bytesOf, Lib.indexByte, eol]
  | x :: t, h => by
    have ih := indexByte_eol t (fun y hy => h y (by simp [hy]))
    have hx := byte_eq (h x (by simp))
    have hl := eol_le t
    simp only [Lib.bytesOf, List.map_cons, Lib.indexByte] at ih ⊢
    rw [hx]
    by_cases h10 : x = 10
    · simp [h10, eol]
    · have ed : decide (x = 10) = false := decide_eq_false h10
      rw [ed]
      simp only [eol, if_neg h10, List.length_cons, Bool.false_eq_true, if_false]
      by_cases hlt : eol t < t.length
      · rw [if_pos hlt] at ih
        have e2 : ((eol t : Int) == -1) = false := by rw [beq_eq_false_iff_ne]; omega
        rw [ih, e2, if_pos (show eol t + 1 < t.length + 1 by omega)]
        simp only [Bool.false_eq_true, if_false]; omega
      · rw [if_neg hlt] at ih
        rw [ih, if_neg (show ¬ eol t + 1 < t.length + 1 by omega)]
        rfl
def isDig (c : Int) : Bool := decide (48 ≤ c ∧ c ≤ 57)
def lineOk (t : List Int) (letter : Int) (n : Nat) : Bool := decide (t.length = n + 1) && (t.head? == some letter) && (t.drop 1).all isDig
def nextP (xs : List Int) (letter : Int) (n : Nat) : Option (List Int × List Int) :=
  if eol xs < xs.length ∧ lineOk (xs.take (eol xs)) letter n = true then some (xs.take (eol xs), xs.drop (eol xs + 1)) else none
def valFrom : Int → List Int → Int
  | a, [] => a
  | a, d :: t => valFrom (10 * a + (d - 48)) t
def fieldP (t : List Int) (at_ n : Nat) : Int := valFrom 0 ((t.drop at_).take n)
theorem valFrom_range : ∀ (l : List Int) (a : Int), 0 ≤ a → l.all isDig = true → 0 ≤ valFrom a l ∧ valFrom a l < (a + 1) * 10 ^ l.length
  | [], a, h, _ => by simp [valFrom]; omega
  | d :: t, a, h, hd => by
    simp only [List.all_cons, Bool.and_eq_true, isDig, decide_eq_true_eq] at hd
    have ih := valFrom_range t (10 * a + (d - 48)) (by omega) hd.2
    refine ⟨ih.1, Int.lt_of_lt_of_le ih.2 ?_⟩
    rw [List.length_cons, Int.pow_succ, Int.mul_comm (10 ^ t.length) 10, ← Int.mul_assoc]
    exact Int.mul_le_mul_of_nonneg_right (by omega) (Int.pow_nonneg (by omega))
theorem parseM_digits : ∀ (l : List Int) (a : Nat), l.all isDig = true → (a + 1) * 10 ^ l.length ≤ 1000000000000000000 →
    Lib.parseUintM (2 ^ 64 - 1) a (Lib.bytesOf l) = .ok (valFrom a l).toNat
  | [], a, _, _ => by simp [Lib.bytesOf, Lib.parseUintM, valFrom]
  | d :: t, a, hd, hb => by
    simp only [List.all_cons, Bool.and_eq_true, isDig, decide_eq_true_eq] at hd
    obtain ⟨m, rfl⟩ : ∃ m : Nat, d = m := ⟨d.toNat, by omega⟩
    have hm : 48 ≤ m ∧ m ≤ 57 := by omega
    have e1 : (UInt8.ofNat m).toNat = m := by rw [UInt8.toNat_ofNat']; omega
    rw [List.length_cons, Nat.pow_succ, Nat.mul_comm (10 ^ t.length) 10, ← Nat.mul_assoc] at hb
    have hp : 1 ≤ 10 ^ t.length := Nat.one_le_pow _ _ (by omega)
    have hq : (a + 1) * 10 ≤ 1000000000000000000 := by
      calc (a + 1) * 10 = (a + 1) * 10 * 1 := by omega
        _ ≤ (a + 1) * 10 * 10 ^ t.length := Nat.mul_le_mul_left _ hp
        _ ≤ _ := hb
    have ih := parseM_digits t (a * 10 + (m - 48)) hd.2 (Nat.le_trans (Nat.mul_le_mul_right _ (by omega)) hb)
    simp only [Lib.bytesOf, List.map_cons, Int.toNat_natCast, Lib.parseUintM] at ih ⊢
    rw [e1, if_pos hm, if_neg (by omega), if_neg (by omega), ih]
    have e3 : ((a * 10 + (m - 48) : Nat) : Int) = 10 * (a : Int) + ((m : Int) - 48) := by omega
    rw [e3]; rfl
theorem parse_digits (l : List Int) (hne : l ≠ []) (hd : l.all isDig = true) (hl : l.length ≤ 18) :
    Lib.parseIntB 64 (Lib.bytesOf l) = .ok (valFrom 0 l) := by
  have hp : (0 + 1) * 10 ^ l.length ≤ 1000000000000000000 := by
    have := Nat.pow_le_pow_right (n := 10) (by omega) hl
    omega
  have h := parseM_digits l 0 hd hp
  have hr := valFrom_range l 0 (by omega) hd
  have hlt : valFrom 0 l < 1000000000000000000 := by
    have e : ((0 : Int) + 1) * 10 ^ l.length = (((0 + 1) * 10 ^ l.length : Nat) : Int) := by simp
    rw [e] at hr; omega
  match l, hne with
  | d :: t, _ =>
    simp only [List.all_cons, Bool.and_eq_true, isDig, decide_eq_true_eq] at hd
    obtain ⟨m, rfl⟩ : ∃ m : Nat, d = m := ⟨d.toNat, by omega⟩
    have e1 : (UInt8.ofNat m).toNat = m := by rw [UInt8.toNat_ofNat']; omega
    have hu : Lib.parseUintB 64 (Lib.bytesOf ((m : Int) :: t)) = .ok (valFrom 0 ((m : Int) :: t)).toNat := by
      unfold Lib.parseUintB; rw [if_neg (by simp [Lib.bytesOf])]; exact h
    simp only [Lib.bytesOf, List.map_cons, Int.toNat_natCast] at hu ⊢
    simp only [Lib.parseIntB]
    rw [e1, if_neg (by omega), hu]
    have hn : ¬ m = 45 := by omega
    simp only [hn, not_false_eq_true, true_and, false_and, if_false]
    rw [if_neg (by omega)]
    congr 1; omega
end Go.Proofs.YtkjdmbbaacjpmaaDoor.Scan
end
section
namespace Go.Proofs.YtkjdmbbaacjpmaaDoor.Reader
open Go.RowKit Go.Proofs.YtkjdmbbaacjpmaaDoor.Scan Go.Proofs.YtkjdmbbaacjpmaaDoorW.PrintWords Go.Proofs.YtkjdmbbaacjpmaaDoorW.PrintLast
structure At (w : World) (A : Option Addr) (c : Nat) (xs : List Int) : Prop where
  cap : xs.length ≤ c
  big : xs.length ≤ 140737488351232
  byt : Byt xs
  C : Kd.C (Kd.int .u8) w A xs.length xs
  adr : A = none ∧ c = 0 ∨ ∃ b o, A = some ⟨b, o, none⟩
theorem indexByte_calls (A : Option Addr) (c : Nat) (xs : List Int) (w : World) (h : At w A c xs) :
    Calls Tryd.prog 75 #[.slice A xs.length c, .int .u8 10] w fun e w' => e = .returned (.int .i64 (if eol xs < xs.length then (eol xs : Int) else -1)) ∧ w' = w := by
  rcases h.adr with ⟨rfl, rfl⟩ | ⟨b, o, rfl⟩
  · have h0 : xs = [] := List.eq_nil_of_length_eq_zero (by have := h.cap; omega)
    subst h0
    exact Tryd.bytes_IndexByte_nil 10 w
  · refine (Tryd.bytes_IndexByte b o xs.length c xs 10 w rfl ?_).mono ?_
    · intro i hi
      obtain ⟨_, _, hr⟩ := Kd.reads_of_C (enc := Value.int .u8) (d := (0 : Int)) (h1 := fun _ => rfl) h.C
      obtain ⟨ad, had, hc⟩ := hr (by omega)
      obtain rfl := Option.some.inj had
      have hci := hc i hi
      unfold Addr.add at hci
      split at hci
      · next h0 => subst h0; exact hci
      · exact hci
    · rintro e w' ⟨rfl, rfl⟩
      rw [indexByte_eol xs h.byt]
      exact ⟨rfl, rfl⟩
theorem At.frame {A : Option Addr} {c : Nat} {xs : List Int} {w w' : World} (h : At w A c xs) (hb : Below w.heap.size w w') : At w' A c xs :=
  ⟨h.cap, h.big, h.byt, Kd.C_below h.C hb, h.adr⟩
set_option maxRecDepth 100000 in
theorem next_none (sb : Nat) (A : Option Addr) (c : Nat) (xs : List Int) (letter n : Int) (w : World) (h : At w A c xs) (hs : w.cell? ⟨sb, 0, none⟩ = some (.slice A xs.length c)) (he : ¬ eol xs < xs.length) :
    Calls Tryd.prog 64 #[.pointer (some ⟨sb, 0, none⟩), .int .u8 letter, .int .i64 n] w fun e w' => e = .returned (.tuple #[.string ⟨#[]⟩, .iface 73 (.int .i64 200)]) ∧ w' = w := by
  have hi := indexByte_calls A c xs w h
  rw [if_neg he] at hi
  go_enter Tryd.func64, Tryd.ntmps64
  go_wp2_with (first | (go_at_call 75; refine hi.mono ?_; rintro e w' ⟨rfl, rfl⟩))
  go_ret2
  exact ⟨rfl, rfl⟩
theorem bytesOf_str : ∀ (l : List Int), (∀ x ∈ l, 0 ≤ x ∧ x ≤ 255) → bytesOf (strOfNums l) = l := by
  intro l h
  unfold bytesOf
  rw [strOfNums_data, List.map_map]
  conv => rhs; rw [← List.map_id l]
  refine List.map_congr_left fun x hx => ?_
  have := h x hx
  simp [UInt8.toNat_ofNat']
  omega
theorem wrI {x : Int} (h : -9223372036854775808 ≤ x ∧ x ≤ 9223372036854775807) : wrap64 x = x := by unfold wrap64; omega
theorem i5_ : ∃ i : TypeInfo, Tryd.prog.info? 5 = some i ∧ i.zero = some (.int .u8 0) ∧ i.size = 1 := by
  have h := D.info5
  obtain ⟨i, hi, hz⟩ := Option.map_eq_some_iff.1 h
  simp only [Prod.mk.injEq] at hz
  exact ⟨i, hi, hz.1, hz.2.1⟩
open Go.Proofs.YtkjdmbbaacjpmaaDoor.D Go.Proofs.YtkjdmbbaacjpmaaDoor.DDigits in
theorem allDigits_calls (s : ByteArray) (hs : s.size ≤ 140737488351232) (w : World) :
    Calls Tryd.prog 31 #[.string s] w fun e w' => e = .returned (.bool (digitsB s)) ∧ Drawn0 w w' := by
  have ha : Ev (fun k => lockbox_allDigits.f k s) (digitsB s) := Ev.congr (fun k => rfl) (all_loop s hs s.size 0 (by omega))
  obtain ⟨k, hk⟩ := ha.rounds
  exact lockbox_allDigits.calls k s _ w hk
set_option maxRecDepth 100000 in
theorem next_len (sb : Nat) (A : Option Addr) (c : Nat) (xs : List Int) (letter n : Int) (w : World) (h : At w A c xs) (hs : w.cell? ⟨sb, 0, none⟩ = some (.slice A xs.length c)) (he : eol xs < xs.length) (hn : 0 ≤ n ∧ n ≤ 100) (hl : (eol xs : Int) ≠ n + 1) :
    Calls Tryd.prog 64 #[.pointer (some ⟨sb, 0, none⟩), .int .u8 letter, .int .i64 n] w fun e w' => e = .returned (.tuple #[.string ⟨#[]⟩, .iface 73 (.int .i64 200)]) ∧ w' = w := by
  have hi := indexByte_calls A c xs w h
  rw [if_pos he] at hi
  have b0 : decide ((eol xs : Int) < 0) = false := decide_eq_false (by omega)
  obtain ⟨i5, hi5, hi5z, hi5s⟩ := i5_
  have hcut := cut_to (P := Tryd.prog) 26 5 .i64 Tryd.underlying26 hi5 A xs.length c (eol xs : Int) (by omega) (by omega) h.cap
  have htl : (xs.take (eol xs)).length = eol xs := by rw [List.length_take]; omega
  have hcv := Kd.C_string (P := Tryd.prog) (c := c) Tryd.underlying26 Tryd.underlying5 Tryd.underlying9 (Kd.C_take h.C (Nat.le_of_lt he))
  rw [htl] at hcv
  rw [Int.toNat_natCast] at hcut
  have hsz : (strOfNums (xs.take (eol xs))).size = eol xs := by rw [← bytesOf_length, bytesOf_str _ (fun x hx => h.byt x (List.mem_of_mem_take hx)), htl]
  have w1 : wrap64 (n + 1) = n + 1 := wrI (by omega)
  have b1 : ((eol xs : Int) != n + 1) = true := by simp [hl]
  clear hl
  go_enter Tryd.func64, Tryd.ntmps64
  go_wp2_with (first | (go_at_call 75; refine hi.mono ?_; rintro e w' ⟨rfl, rfl⟩))
  go_ret2
  exact ⟨rfl, rfl⟩
set_option maxRecDepth 100000 in
theorem next_head (sb : Nat) (A : Option Addr) (c : Nat) (xs : List Int) (letter n d : Int) (t : List Int) (w : World) (h : At w A c xs) (hs : w.cell? ⟨sb, 0, none⟩ = some (.slice A xs.length c)) (he : eol xs < xs.length) (hn : 0 ≤ n ∧ n ≤ 100) (hl : (eol xs : Int) = n + 1)
    (ht : xs.take (eol xs) = d :: t) (hd : d ≠ letter) :
    Calls Tryd.prog 64 #[.pointer (some ⟨sb, 0, none⟩), .int .u8 letter, .int .i64 n] w fun e w' => e = .returned (.tuple #[.string ⟨#[]⟩, .iface 73 (.int .i64 200)]) ∧ w' = w := by
  have hi := indexByte_calls A c xs w h
  rw [if_pos he] at hi
  have b0 : decide ((eol xs : Int) < 0) = false := decide_eq_false (by omega)
  obtain ⟨i5, hi5, hi5z, hi5s⟩ := i5_
  have hcut := cut_to (P := Tryd.prog) 26 5 .i64 Tryd.underlying26 hi5 A xs.length c (eol xs : Int) (by omega) (by omega) h.cap
  have htl : (xs.take (eol xs)).length = eol xs := by rw [List.length_take]; omega
  have hcv := Kd.C_string (P := Tryd.prog) (c := c) Tryd.underlying26 Tryd.underlying5 Tryd.underlying9 (Kd.C_take h.C (Nat.le_of_lt he))
  rw [htl] at hcv
  rw [Int.toNat_natCast] at hcut
  have hb : bytesOf (strOfNums (xs.take (eol xs))) = d :: t := by rw [bytesOf_str _ (fun x hx => h.byt x (List.mem_of_mem_take hx)), ht]
  have hsz : (strOfNums (xs.take (eol xs))).size = eol xs := by rw [← bytesOf_length, hb, ← ht, htl]
  have hb0 : bt (strOfNums (xs.take (eol xs))) 0 = d := by rw [← rd_bytesOf, hb]; rfl
  have w1 : wrap64 (n + 1) = n + 1 := wrI (by omega)
  have b1 : ((eol xs : Int) != n + 1) = false := by simp [hl]
  have hx := bt_at (strOfNums (xs.take (eol xs))) 0
  have b2 : (d != letter) = true := by simp [hd]
  have p0 : (0 < eol xs) = True := eq_true (by omega)
  rw [hb0] at hx
  generalize strOfNums (xs.take (eol xs)) = s at *
  have hx0 : ∀ h : 0 < s.size, ((s[0]'h).toNat : Int) = d := hx
  clear hl hd htl hb hb0 ht hx
  go_enter Tryd.func64, Tryd.ntmps64
  go_wp2_with (first | (go_at_call 75; refine hi.mono ?_; rintro e w' ⟨rfl, rfl⟩))
  go_ret2
  exact ⟨rfl, rfl⟩
theorem bytesOf_extract (s : ByteArray) (i j : Nat) : bytesOf (s.extract i j) = ((bytesOf s).take j).drop i := by
  unfold bytesOf
  rw [ByteArray.data_extract, Array.toList_extract, List.extract_eq_take_drop]
  simp [List.map_drop, List.map_take, List.drop_take]
set_option maxRecDepth 100000 in
theorem next_digit (sb : Nat) (A : Option Addr) (c : Nat) (xs : List Int) (letter n : Int) (t : List Int) (w : World) (h : At w A c xs) (hs : w.cell? ⟨sb, 0, none⟩ = some (.slice A xs.length c)) (he : eol xs < xs.length) (hn : 0 ≤ n ∧ n ≤ 100) (hl : (eol xs : Int) = n + 1)
    (ht : xs.take (eol xs) = letter :: t) (hd : t.all isDig = false) :
    Calls Tryd.prog 64 #[.pointer (some ⟨sb, 0, none⟩), .int .u8 letter, .int .i64 n] w fun e w' => e = .returned (.tuple #[.string ⟨#[]⟩, .iface 73 (.int .i64 200)]) ∧ Drawn0 w w' := by
  have hi := indexByte_calls A c xs w h
  rw [if_pos he] at hi
  have b0 : decide ((eol xs : Int) < 0) = false := decide_eq_false (by omega)
  obtain ⟨i5, hi5, hi5z, hi5s⟩ := i5_
  have hcut := cut_to (P := Tryd.prog) 26 5 .i64 Tryd.underlying26 hi5 A xs.length c (eol xs : Int) (by omega) (by omega) h.cap
  have htl : (xs.take (eol xs)).length = eol xs := by rw [List.length_take]; omega
  have hcv := Kd.C_string (P := Tryd.prog) (c := c) Tryd.underlying26 Tryd.underlying5 Tryd.underlying9 (Kd.C_take h.C (Nat.le_of_lt he))
  rw [htl] at hcv
  rw [Int.toNat_natCast] at hcut
  have hb : bytesOf (strOfNums (xs.take (eol xs))) = letter :: t := by rw [bytesOf_str _ (fun x hx => h.byt x (List.mem_of_mem_take hx)), ht]
  have hsz : (strOfNums (xs.take (eol xs))).size = eol xs := by rw [← bytesOf_length, hb, ← ht, htl]
  have hb0 : bt (strOfNums (xs.take (eol xs))) 0 = letter := by rw [← rd_bytesOf, hb]; rfl
  have w1 : wrap64 (n + 1) = n + 1 := wrI (by omega)
  have b1 : ((eol xs : Int) != n + 1) = false := by simp [hl]
  have hx := bt_at (strOfNums (xs.take (eol xs))) 0
  have b2 : (letter != letter) = false := by simp
  have p0 : (0 < eol xs) = True := eq_true (by omega)
  have p1 : decide (1 ≤ eol xs) = true := decide_eq_true (by omega)
  have p2 : (1 ≤ eol xs) = True := eq_true (by omega)
  have p3 : ((eol xs : Int) < 1) = False := eq_false (by omega)
  have p4 : (1 ≤ (eol xs : Int)) = True := eq_true (by omega)
  rw [hb0] at hx
  have hdg : DDigits.digitsB ((strOfNums (xs.take (eol xs))).extract 1 (eol xs)) = t.all isDig := by
    unfold DDigits.digitsB
    rw [bytesOf_extract, hb, ← htl, ht, List.take_length]
    rfl
  have hsx : ((strOfNums (xs.take (eol xs))).extract 1 (eol xs)).size ≤ 140737488351232 := by
    rw [← bytesOf_length, bytesOf_extract]
    simp only [List.length_drop, List.length_take, bytesOf_length, hsz]; omega
  have had := fun W => allDigits_calls _ hsx W
  rw [hdg, hd] at had
  generalize strOfNums (xs.take (eol xs)) = s at *
  have hx0 : ∀ h : 0 < s.size, ((s[0]'h).toNat : Int) = letter := hx
  have HD := Aside0.mk had
  clear hl hd htl hb hb0 ht hx hdg hsx had
  go_enter Tryd.func64, Tryd.ntmps64
  go_wp2_with (first | (go_at_call 75; refine hi.mono ?_; rintro e w' ⟨rfl, rfl⟩) | (go_at_call 31; refine (HD.out _).mono ?_; rintro e w' ⟨rfl, ⟨nd, rfl⟩⟩))
  go_ret2
  exact ⟨rfl, ⟨nd, rfl⟩⟩
set_option maxRecDepth 100000 in
theorem next_some (sb : Nat) (A : Option Addr) (c : Nat) (xs : List Int) (letter n : Int) (t : List Int) (w : World) (h : At w A c xs) (hs : w.cell? ⟨sb, 0, none⟩ = some (.slice A xs.length c)) (hf : w.frozen? ⟨sb, 0, none⟩ = false) (he : eol xs < xs.length) (hn : 0 ≤ n ∧ n ≤ 100) (hl : (eol xs : Int) = n + 1)
    (ht : xs.take (eol xs) = letter :: t) (hd : t.all isDig = true) :
    Calls Tryd.prog 64 #[.pointer (some ⟨sb, 0, none⟩), .int .u8 letter, .int .i64 n] w fun e w' => e = .returned (.tuple #[.string (strOfNums (xs.take (eol xs))), .nilIface]) ∧
      Drawn0 (w.setCell ⟨sb, 0, none⟩ (.slice (if c = eol xs + 1 then A else A.map (·.add (eol xs + 1))) (xs.length - (eol xs + 1)) (c - (eol xs + 1)))) w' := by
  have hi := indexByte_calls A c xs w h
  rw [if_pos he] at hi
  have b0 : decide ((eol xs : Int) < 0) = false := decide_eq_false (by omega)
  obtain ⟨i5, hi5, hi5z, hi5s⟩ := i5_
  have hcut := cut_to (P := Tryd.prog) 26 5 .i64 Tryd.underlying26 hi5 A xs.length c (eol xs : Int) (by omega) (by omega) h.cap
  have hcf := cut_from (P := Tryd.prog) 26 5 .i64 Tryd.underlying26 hi5 1 hi5s A xs.length c ((eol xs : Int) + 1) (by omega) (by omega)
  have htl : (xs.take (eol xs)).length = eol xs := by rw [List.length_take]; omega
  have hcv := Kd.C_string (P := Tryd.prog) (c := c) Tryd.underlying26 Tryd.underlying5 Tryd.underlying9 (Kd.C_take h.C (Nat.le_of_lt he))
  rw [htl] at hcv
  rw [Int.toNat_natCast] at hcut
  rw [show ((eol xs : Int) + 1).toNat = eol xs + 1 by omega] at hcf
  simp only [Nat.mul_one] at hcf
  generalize (if c = eol xs + 1 then A else A.map (·.add (eol xs + 1))) = A' at hcf ⊢
  have hb : bytesOf (strOfNums (xs.take (eol xs))) = letter :: t := by rw [bytesOf_str _ (fun x hx => h.byt x (List.mem_of_mem_take hx)), ht]
  have hsz : (strOfNums (xs.take (eol xs))).size = eol xs := by rw [← bytesOf_length, hb, ← ht, htl]
  have hb0 : bt (strOfNums (xs.take (eol xs))) 0 = letter := by rw [← rd_bytesOf, hb]; rfl
  have w1 : wrap64 (n + 1) = n + 1 := wrI (by omega)
  have w2 : wrap64 ((eol xs : Int) + 1) = (eol xs : Int) + 1 := by have := h.cap; have := h.big; unfold wrap64; omega
  have b1 : ((eol xs : Int) != n + 1) = false := by simp [hl]
  have hx := bt_at (strOfNums (xs.take (eol xs))) 0
  have b2 : (letter != letter) = false := by simp
  have p0 : (0 < eol xs) = True := eq_true (by omega)
  have p1 : decide (1 ≤ eol xs) = true := decide_eq_true (by omega)
  have p2 : (1 ≤ eol xs) = True := eq_true (by omega)
  have p3 : ((eol xs : Int) < 1) = False := eq_false (by omega)
  have p4 : (1 ≤ (eol xs : Int)) = True := eq_true (by omega)
  rw [hb0] at hx
  have hdg : DDigits.digitsB ((strOfNums (xs.take (eol xs))).extract 1 (eol xs)) = t.all isDig := by
    unfold DDigits.digitsB
    rw [bytesOf_extract, hb, ← htl, ht, List.take_length]
    rfl
  have hsx : ((strOfNums (xs.take (eol xs))).extract 1 (eol xs)).size ≤ 140737488351232 := by
    rw [← bytesOf_length, bytesOf_extract]
    simp only [List.length_drop, List.length_take, bytesOf_length, hsz]; omega
  have had := fun W => allDigits_calls _ hsx W
  rw [hdg, hd] at had
  generalize strOfNums (xs.take (eol xs)) = s at *
  have hx0 : ∀ h : 0 < s.size, ((s[0]'h).toNat : Int) = letter := hx
  have HD := Aside0.mk had
  clear hl hd htl hb hb0 ht hx hdg hsx had
  go_enter Tryd.func64, Tryd.ntmps64
  go_wp2_with (first | (go_at_call 75; refine hi.mono ?_; rintro e w' ⟨rfl, rfl⟩) | (go_at_call 31; refine (HD.out _).mono ?_; rintro e w' ⟨rfl, ⟨nd, rfl⟩⟩))
  go_ret2
  exact ⟨rfl, ⟨nd, rfl⟩⟩
end Go.Proofs.YtkjdmbbaacjpmaaDoor.Reader
end
section
namespace Go.Proofs.YtkjdmbbaacjpmaaDoor.Reader
open Go.RowKit Go.Proofs.YtkjdmbbaacjpmaaDoor.Scan Go.Proofs.YtkjdmbbaacjpmaaDoorW.PrintWords Go.Proofs.YtkjdmbbaacjpmaaDoorW.PrintLast
theorem strOf_toList (l : List Int) : (strOfNums l).data.toList = Lib.bytesOf l := by
  rw [strOfNums_data]; rfl
theorem extract_str (l : List Int) (i j : Nat) : (strOfNums l).extract i j = strOfNums ((l.drop i).take (j - i)) := by
  apply ByteArray.ext
  apply Array.toList_inj.1
  rw [strOf_toList, ByteArray.data_extract, Array.toList_extract, List.extract_eq_take_drop, strOf_toList]
  simp [Lib.bytesOf, List.map_take, List.map_drop]
set_option maxRecDepth 100000 in
theorem num_calls (t : List Int) (i n : Nat) (hi : i + n ≤ t.length) (hn : 1 ≤ n ∧ n ≤ 18) (ht : t.length ≤ 1000) (hd : ((t.drop i).take n).all isDig = true) (w : World) :
    Calls Tryd.prog 66 #[.string (strOfNums t), .int .i64 i, .int .i64 n] w fun e w' => e = .returned (.int .i64 (fieldP t i n)) ∧ Below w.heap.size w w' := by
  have hlen : ((t.drop i).take n).length = n := by rw [List.length_take, List.length_drop]; omega
  have hp := parse_digits ((t.drop i).take n) (by intro h; rw [h] at hlen; simp at hlen; omega) hd (by omega)
  have hs : (strOfNums t).size = t.length := by
    have := strOf_toList t
    have h2 := congrArg List.length this
    simpa [Lib.bytesOf] using h2
  have he : (strOfNums t).extract i (i + n) = strOfNums ((t.drop i).take n) := by rw [extract_str]; congr 2; omega
  have hs2 : (strOfNums ((t.drop i).take n)).size = n := by
    have h2 := congrArg List.length (strOf_toList ((t.drop i).take n))
    rw [Lib.bytesOf, List.length_map, hlen] at h2
    exact h2
  have hc : ∀ W, Calls Tryd.prog 77 #[.string (strOfNums ((t.drop i).take n)), .int .i64 10, .int .i64 64] W fun e w' => e = .returned (.tuple #[.int .i64 (fieldP t i n), .nilIface]) ∧ Below W.heap.size W w' := by
    intro W
    refine (Tryd.strconv_ParseInt_10_at64_ok _ (by rw [hs2]; omega) (fieldP t i n) (by rw [strOf_toList]; exact hp) W).mono ?_
    rintro e w' ⟨rfl, rfl | ⟨s, rfl⟩⟩
    · exact ⟨rfl, Below.refl _ _⟩
    · exact ⟨rfl, bytes_below (Below.refl _ _) (Nat.le_refl _) 5 s⟩
  have w1 : wrap64 ((i : Int) + n) = (i : Int) + n := wrI (by omega)
  have p0 : (0 ≤ (i : Int)) = True := eq_true (by omega)
  have p1 : ((i : Int) ≤ (i : Int) + n) = True := eq_true (by omega)
  have p2 : ((i : Int) + n ≤ (t.length : Int)) = True := eq_true (by omega)
  have p3 : (0 ≤ (i : Int) + n) = True := eq_true (by omega)
  have p4 : ((i : Int) + n).toNat = i + n := by omega
  have HC := Aside0.mk hc
  clear hc hp hd
  generalize fieldP t i n = v at *
  generalize strOfNums ((t.drop i).take n) = u at *
  generalize strOfNums t = s at *
  go_enter Tryd.func66, Tryd.ntmps66
  go_wp2_with (first | (go_at_call 77; refine (HC.out _).mono ?_; rintro e w' ⟨rfl, hb⟩; have HB := Aside0.mk hb; clear hb))
  go_ret
  exact ⟨rfl, HB.out⟩
end Go.Proofs.YtkjdmbbaacjpmaaDoor.Reader
end
section
namespace Go.Proofs.YtkjdmbbaacjpmaaDoor.Reader
open Go.RowKit Go.Proofs.YtkjdmbbaacjpmaaDoorW.PrintWords Go.Proofs.YtkjdmbbaacjpmaaDoorW.PrintLast Go.Proofs.YtkjdmbbaacjpmaaDoor.C
def monthLen (y m : Int) : Int := if 1 ≤ y ∧ y ≤ 9999 ∧ 1 ≤ m ∧ m ≤ 12 then aheadTab.getD m.toNat 0 - aheadTab.getD (m - 1).toNat 0 + (if m = 2 ∧ leapB y = true then 1 else 0) else 0
set_option maxRecDepth 100000 in
theorem month_out (y m : Int) (h : ¬ (1 ≤ y ∧ y ≤ 9999 ∧ 1 ≤ m ∧ m ≤ 12)) (w : World) :
    Calls Tryd.prog 76 #[.int .i64 y, .int .i64 m] w fun e w' => e = .returned (.int .i64 0) ∧ Drawn0 w w' := by
  by_cases h1 : y < 1
  · have b1 : decide (y < 1) = true := decide_eq_true h1
    clear h h1
    go_enter Tryd.func76, Tryd.ntmps76
    go_wp2
    go_ret
    exact ⟨rfl, Drawn0.refl _⟩
  · have b1 : decide (y < 1) = false := decide_eq_false h1
    by_cases h2 : 9999 < y
    · have b2 : decide (9999 < y) = true := decide_eq_true h2
      clear h h1 h2
      go_enter Tryd.func76, Tryd.ntmps76
      go_wp2
      go_ret
      exact ⟨rfl, Drawn0.refl _⟩
    · have b2 : decide (9999 < y) = false := decide_eq_false h2
      by_cases h3 : m < 1
      · have b3 : decide (m < 1) = true := decide_eq_true h3
        clear h h1 h2 h3
        go_enter Tryd.func76, Tryd.ntmps76
        go_wp2
        go_ret
        exact ⟨rfl, Drawn0.refl _⟩
      · have b3 : decide (m < 1) = false := decide_eq_false h3
        have b4 : decide (12 < m) = true := decide_eq_true (by omega)
        clear h h1 h2 h3
        go_enter Tryd.func76, Tryd.ntmps76
        go_wp2
        go_ret
        exact ⟨rfl, Drawn0.refl _⟩
set_option maxRecDepth 100000 in
theorem month_in (y : Int) (j m : Nat) (hm : m = j + 1) (hy : 1 ≤ y ∧ y ≤ 9999) (hj : j < 12) (u v : Int) (hu : 0 ≤ u ∧ u ≤ 365) (hv : 0 ≤ v ∧ v ≤ 365) (w : World) (hc : w.cell? ⟨1, j, none⟩ = some (.int .i64 u)) (hc1 : w.cell? ⟨1, m, none⟩ = some (.int .i64 v)) (b : Bool) (hb : leapB y = b) :
    Calls Tryd.prog 76 #[.int .i64 y, .int .i64 m] w fun e w' => e = .returned (.int .i64 (v - u + (if m = 2 ∧ b = true then 1 else 0))) ∧ Drawn0 w w' := by
  have b1 : decide (y < 1) = false := decide_eq_false (by omega)
  have b2 : decide (9999 < y) = false := decide_eq_false (by omega)
  have b3 : decide ((m : Int) < 1) = false := decide_eq_false (by omega)
  have b4 : decide (12 < (m : Int)) = false := decide_eq_false (by omega)
  have e1 : (m : Int) - 1 = j := by omega
  have hm13 : (m : Int) < 13 := by omega
  have hm0 : 0 ≤ (m : Int) := by omega
  have hj0 : 0 ≤ (j : Int) := by omega
  have hj13 : (j : Int) < 13 := by omega
  have w1 : wrap64 (v - u) = v - u := by unfold wrap64; omega
  have w2 : wrap64 (v - u + 1) = v - u + 1 := by unfold wrap64; omega
  have HL := leap_calls y
  rw [hb] at HL
  have HL := Aside0.mk HL
  clear hb
  by_cases h2 : m = 2
  · have b5 : ((m : Int) == 2) = true := by rw [beq_iff_eq]; omega
    have hif : (if m = 2 ∧ b = true then (1 : Int) else 0) = if b = true then 1 else 0 := by simp [h2]
    rw [hif]
    clear hif
    clear hm h2
    cases b
    all_goals
      go_enter Tryd.func76, Tryd.ntmps76
      go_wp2
      go_quiet (fail)
      go_wp2_with (go_at_call 62; (with_reducible refine (HL.out _).mono ?_); rintro e w' ⟨rfl, ⟨nd, rfl⟩⟩)
      go_ret
      exact ⟨by first | rfl | simp, by first | exact Drawn0.refl _ | exact ⟨⟨_, rfl⟩⟩⟩
  · have b5 : ((m : Int) == 2) = false := by rw [beq_eq_false_iff_ne]; omega
    rw [if_neg (fun h => h2 h.1), Int.add_zero]
    clear hm h2
    go_enter Tryd.func76, Tryd.ntmps76
    go_wp2
    go_quiet (fail)
    go_wp2
    go_ret
    exact ⟨rfl, ⟨⟨_, rfl⟩⟩⟩
theorem month_calls (y m : Int) (w : World) (HT : Tab w) :
    Calls Tryd.prog 76 #[.int .i64 y, .int .i64 m] w fun e w' => e = .returned (.int .i64 (monthLen y m)) ∧ Drawn0 w w' := by
  unfold monthLen
  by_cases h : 1 ≤ y ∧ y ≤ 9999 ∧ 1 ≤ m ∧ m ≤ 12
  · rw [if_pos h]
    obtain ⟨k, rfl⟩ : ∃ k : Nat, m = k := ⟨m.toNat, by omega⟩
    have hc := HT.ahead.cell (g := 1) (by kernel_rfl) (k - 1) (show k - 1 < 13 by omega)
    have hc1 := HT.ahead.cell (g := 1) (by kernel_rfl) k (show k < 13 by omega)
    have := month_in y (k - 1) k (by omega) ⟨h.1, h.2.1⟩ (by omega) _ _ (aheadTab_range _) (aheadTab_range _) w hc hc1 _ rfl
    rw [show ((k : Int) - 1).toNat = k - 1 by omega, Int.toNat_natCast]
    have e : ((k : Int) = 2 ∧ leapB y = true) = (k = 2 ∧ leapB y = true) := by
      have : ((k : Int) = 2) = (k = 2) := propext (by omega)
      rw [this]
    simp only [e]
    exact this
  · rw [if_neg h]
    exact month_out y m h w
end Go.Proofs.YtkjdmbbaacjpmaaDoor.Reader
end
section
namespace Go.Proofs.YtkjdmbbaacjpmaaDoor.Reader
open Go.RowKit Go.Proofs.YtkjdmbbaacjpmaaDoorW.PrintWords Go.Proofs.YtkjdmbbaacjpmaaDoorW.PrintLast Go.Proofs.YtkjdmbbaacjpmaaDoor.C
set_option maxRecDepth 100000 in
theorem number_low (y m d : Int) (h : d < 1) (w : World) :
    Calls Tryd.prog 65 #[.agg #[.int .i64 y, .int .i64 m, .int .i64 d]] w fun e w' => e = .returned (.tuple #[.int .i64 0, .bool false]) ∧ Below w.heap.size w w' := by
  have b1 : decide (d < 1) = true := decide_eq_true h
  go_enter Tryd.func65, Tryd.ntmps65
  go_wp2
  go_quiet (fail)
  go_wp2
  go_ret2
  exact ⟨rfl, by repeat (first | exact Below.refl _ _ | apply pw_below_drewN | apply below_alloc)⟩
theorem q0 {P : Program} {f : FuncId} {args : Array Value} {w : World} {n : Nat} {v : Value}
    (h : Calls P f args (w.drewN n) fun e w' => e = .returned v ∧ Drawn0 (w.drewN n) w') : Calls P f args (w.drewN n) fun e w'' => e = .returned v ∧ ∃ m, w'' = w.drewN m :=
  Calls.quiet_of (h.mono fun _ _ ⟨he, hm⟩ => ⟨he, hm.out⟩)
set_option maxRecDepth 100000 in
theorem number_high (y m d L : Int) (h : 1 ≤ d) (hL : monthLen y m = L) (hh : L < d) (w : World) (HT : Tab w) :
    Calls Tryd.prog 65 #[.agg #[.int .i64 y, .int .i64 m, .int .i64 d]] w fun e w' => e = .returned (.tuple #[.int .i64 0, .bool false]) ∧ Below w.heap.size w w' := by
  have b1 : decide (d < 1) = false := decide_eq_false (by omega)
  have b2 : decide (L < d) = true := decide_eq_true (by omega)
  have HM : Aside0 (∀ W, Below w.heap.size w W → Calls Tryd.prog 76 #[.int .i64 y, .int .i64 m] W fun e w' => e = .returned (.int .i64 L) ∧ Drawn0 W w') :=
    ⟨fun W hb => hL ▸ month_calls y m W (tab_below HT hb)⟩
  clear hL
  go_enter Tryd.func65, Tryd.ntmps65
  go_wp2
  go_quiet ((go_at_call 76; exact q0 (HM.out _ (by repeat (first | exact Below.refl _ _ | apply pw_below_drewN | apply below_alloc)))))
  go_wp2
  go_ret2
  exact ⟨rfl, by repeat (first | exact Below.refl _ _ | apply pw_below_drewN | apply below_alloc)⟩
def numberOf (y m d : Int) : Int := 365 * (y - 1) + (y - 1) / 4 - (y - 1) / 100 + (y - 1) / 400 + aheadTab.getD (m - 1).toNat 0 + d + (if 2 < m ∧ leapB y = true then 1 else 0)
set_option maxRecDepth 100000 in
theorem number_in (y d L u : Int) (m : Nat) (b : Bool) (hb : leapB y = b) (h : 1 ≤ d) (hL : monthLen y m = L) (hh : d ≤ L) (hL31 : L ≤ 31) (hy : 1 ≤ y ∧ y ≤ 9999) (hm : 1 ≤ m ∧ m ≤ 12) (hu : 0 ≤ u ∧ u ≤ 365) (w : World) (HT : Tab w) (hc : w.cell? ⟨1, m - 1, none⟩ = some (.int .i64 u)) :
    Calls Tryd.prog 65 #[.agg #[.int .i64 y, .int .i64 m, .int .i64 d]] w fun e w' => e = .returned (.tuple #[.int .i64 (365 * (y - 1) + (y - 1) / 4 - (y - 1) / 100 + (y - 1) / 400 + u + d + (if 2 < m ∧ b = true then 1 else 0)), .bool true]) ∧ Below w.heap.size w w' := by
  have b1 : decide (d < 1) = false := decide_eq_false (by omega)
  have b2 : decide (L < d) = false := decide_eq_false (by omega)
  have HM : Aside0 (∀ W, Below w.heap.size w W → Calls Tryd.prog 76 #[.int .i64 y, .int .i64 m] W fun e w' => e = .returned (.int .i64 L) ∧ Drawn0 W w') :=
    ⟨fun W hb => hL ▸ month_calls y m W (tab_below HT hb)⟩
  have HL := leap_calls y
  rw [hb] at HL
  have HL := Aside0.mk HL
  clear hL hb
  obtain ⟨j, rfl⟩ : ∃ j : Nat, m = j + 1 := ⟨m - 1, by omega⟩
  rw [show j + 1 - 1 = j by omega] at hc
  have hwx : (1 : Nat) < w.heap.size := by rcases Nat.lt_or_ge 1 w.heap.size with h | h; exact h; simp [World.cell?, Array.getElem?_eq_none h] at hc
  have hj : (j : Int) ≤ 11 := by omega
  have hj0 : 0 ≤ (j : Int) := by omega
  have hj13 : (j : Int) < 13 := by omega
  by_cases h2 : 2 < j + 1
  · have b5 : decide (2 < (j : Int) + 1) = true := decide_eq_true (by omega)
    have hif : (if 2 < j + 1 ∧ b = true then (1 : Int) else 0) = if b = true then 1 else 0 := by simp [h2]
    rw [hif]
    clear hif h2
    cases b
    all_goals
      go_enter Tryd.func65, Tryd.ntmps65
      go_wp2
      go_quiet ((go_at_call 76; exact q0 (HM.out _ (by repeat (first | exact Below.refl _ _ | apply pw_below_drewN | apply below_alloc)))))
      go_wp2
      go_quiet (fail)
      go_wp2_with (go_at_call 62; (with_reducible refine (HL.out _).mono ?_); rintro e w' ⟨rfl, ⟨nd, rfl⟩⟩)
      go_ret2
      exact ⟨by first | rfl | simp, by repeat (first | exact Below.refl _ _ | apply pw_below_drewN | apply below_alloc)⟩
  · have b5 : decide (2 < (j : Int) + 1) = false := decide_eq_false (by omega)
    rw [if_neg (fun h => h2 h.1), Int.add_zero]
    clear h2
    go_enter Tryd.func65, Tryd.ntmps65
    go_wp2
    go_quiet ((go_at_call 76; exact q0 (HM.out _ (by repeat (first | exact Below.refl _ _ | apply pw_below_drewN | apply below_alloc)))))
    go_wp2
    go_quiet (fail)
    go_wp2
    go_ret2
    exact ⟨rfl, by repeat (first | exact Below.refl _ _ | apply pw_below_drewN | apply below_alloc)⟩
theorem monthLen_le (y m : Int) : monthLen y m ≤ 31 := by
  unfold monthLen
  split
  · next h =>
    obtain ⟨k, rfl⟩ : ∃ k : Nat, m = k := ⟨m.toNat, by omega⟩
    have hk : k = 1 ∨ k = 2 ∨ k = 3 ∨ k = 4 ∨ k = 5 ∨ k = 6 ∨ k = 7 ∨ k = 8 ∨ k = 9 ∨ k = 10 ∨ k = 11 ∨ k = 12 := by omega
    rcases hk with rfl | rfl | rfl | rfl | rfl | rfl | rfl | rfl | rfl | rfl | rfl | rfl <;> (cases leapB y <;> decide)
  · omega
def numberR (y m d : Int) : Int × Bool := if 1 ≤ d ∧ d ≤ monthLen y m then (numberOf y m d, true) else (0, false)
theorem number_calls (y m d : Int) (w : World) (HT : Tab w) :
    Calls Tryd.prog 65 #[.agg #[.int .i64 y, .int .i64 m, .int .i64 d]] w fun e w' => e = .returned (.tuple #[.int .i64 (numberR y m d).1, .bool (numberR y m d).2]) ∧ Below w.heap.size w w' := by
  unfold numberR
  by_cases h : 1 ≤ d ∧ d ≤ monthLen y m
  · rw [if_pos h]
    have hr : 1 ≤ y ∧ y ≤ 9999 ∧ 1 ≤ m ∧ m ≤ 12 := by
      apply Classical.byContradiction
      intro hn
      have : monthLen y m = 0 := by unfold monthLen; rw [if_neg hn]
      omega
    obtain ⟨k, rfl⟩ : ∃ k : Nat, m = k := ⟨m.toNat, by omega⟩
    have hc := HT.ahead.cell (g := 1) (by kernel_rfl) (k - 1) (show k - 1 < 13 by omega)
    have := number_in y d _ _ k _ rfl h.1 rfl h.2 (monthLen_le _ _) ⟨hr.1, hr.2.1⟩ (by omega) (aheadTab_range _) w HT hc
    have e : ((2 : Int) < (k : Int) ∧ leapB y = true) = (2 < k ∧ leapB y = true) := by
      have : ((2 : Int) < (k : Int)) = (2 < k) := propext (by omega)
      rw [this]
    unfold numberOf
    rw [show ((k : Int) - 1).toNat = k - 1 by omega]
    simp only [e]
    exact this
  · rw [if_neg h]
    by_cases h1 : d < 1
    · exact number_low y m d h1 w
    · exact number_high y m d _ (by omega) rfl (by omega) w HT
end Go.Proofs.YtkjdmbbaacjpmaaDoor.Reader
end
section
namespace Go.Proofs.YtkjdmbbaacjpmaaDoor.Reader
open Go.RowKit Go.Proofs.YtkjdmbbaacjpmaaDoor.Scan Go.Proofs.YtkjdmbbaacjpmaaDoorW.PrintWords Go.Proofs.YtkjdmbbaacjpmaaDoorW.PrintLast
set_option linter.unusedVariables false
set_option linter.unusedSimpArgs false
def cutA (A : Option Addr) (c e : Nat) : Option Addr := if c = e + 1 then A else A.map (·.add (e + 1))
theorem nextP_some {xs t r : List Int} {letter : Int} {n : Nat} (h : nextP xs letter n = some (t, r)) :
    eol xs < xs.length ∧ t = xs.take (eol xs) ∧ r = xs.drop (eol xs + 1) ∧ t.length = n + 1 ∧ eol xs = n + 1 ∧ (∃ t', t = letter :: t' ∧ t'.all isDig = true) := by
  unfold nextP at h
  split at h
  case isFalse => cases h
  case isTrue hc =>
    obtain ⟨he, hl⟩ := hc
    simp only [Option.some.injEq, Prod.mk.injEq] at h
    obtain ⟨rfl, rfl⟩ := h
    simp only [lineOk, Bool.and_eq_true, decide_eq_true_eq, beq_iff_eq] at hl
    obtain ⟨⟨hl1, hl2⟩, hl3⟩ := hl
    refine ⟨he, rfl, rfl, hl1, ?_, ?_⟩
    · rw [List.length_take] at hl1; omega
    · cases ht : xs.take (eol xs) with
      | nil => rw [ht] at hl2; simp at hl2
      | cons d t' =>
        rw [ht] at hl2 hl3
        simp only [List.head?_cons, Option.some.injEq] at hl2
        subst hl2
        exact ⟨t', rfl, by simpa using hl3⟩
theorem next_ok (sb : Nat) (A : Option Addr) (c : Nat) (xs t r : List Int) (letter : Int) (n : Nat) (w : World) (h : At w A c xs) (hs : w.cell? ⟨sb, 0, none⟩ = some (.slice A xs.length c)) (hf : w.frozen? ⟨sb, 0, none⟩ = false) (hn : n ≤ 100)
    (hx : nextP xs letter n = some (t, r)) :
    Calls Tryd.prog 64 #[.pointer (some ⟨sb, 0, none⟩), .int .u8 letter, .int .i64 n] w fun e w' => e = .returned (.tuple #[.string (strOfNums t), .nilIface]) ∧
      Drawn0 (w.setCell ⟨sb, 0, none⟩ (.slice (cutA A c (eol xs)) r.length (c - (eol xs + 1)))) w' := by
  obtain ⟨he, rfl, rfl, hl, hen, t', ht, hd⟩ := nextP_some hx
  rw [List.length_drop]
  exact next_some sb A c xs letter n t' w h hs hf he (by omega) (by omega) ht hd
theorem next_no (sb : Nat) (A : Option Addr) (c : Nat) (xs : List Int) (letter : Int) (n : Nat) (w : World) (h : At w A c xs) (hs : w.cell? ⟨sb, 0, none⟩ = some (.slice A xs.length c)) (hn : n ≤ 100)
    (hx : nextP xs letter n = none) :
    Calls Tryd.prog 64 #[.pointer (some ⟨sb, 0, none⟩), .int .u8 letter, .int .i64 n] w fun e w' => e = .returned (.tuple #[.string ⟨#[]⟩, .iface 73 (.int .i64 200)]) ∧ Drawn0 w w' := by
  by_cases he : eol xs < xs.length
  · by_cases hl : (eol xs : Int) = n + 1
    · have htl : (xs.take (eol xs)).length = eol xs := by rw [List.length_take]; omega
      cases ht : xs.take (eol xs) with
      | nil => rw [ht] at htl; simp at htl; omega
      | cons d t =>
        by_cases hdl : d = letter
        · subst hdl
          have hdd : t.all isDig = false := by
            apply Bool.eq_false_iff.2
            intro hd
            unfold nextP at hx
            rw [if_pos] at hx
            · cases hx
            · refine ⟨he, ?_⟩
              rw [ht]
              have h1 : (d :: t).length = n + 1 := by rw [← ht, htl]; omega
              simp only [lineOk, h1, List.head?_cons, List.drop_one, List.tail_cons, hd, decide_true, beq_self_eq_true, Bool.and_self]
          exact next_digit sb A c xs d n t w h hs he (by omega) hl ht hdd
        · exact (next_head sb A c xs letter n d t w h hs he (by omega) hl ht hdl).mono fun e w' ⟨h1, h2⟩ => ⟨h1, h2 ▸ Drawn0.refl _⟩
    · exact (next_len sb A c xs letter n w h hs he (by omega) hl).mono fun e w' ⟨h1, h2⟩ => ⟨h1, h2 ▸ Drawn0.refl _⟩
  · exact (next_none sb A c xs letter n w h hs he).mono fun e w' ⟨h1, h2⟩ => ⟨h1, h2 ▸ Drawn0.refl _⟩
theorem field_dig {t t' : List Int} {letter : Int} (ht : t = letter :: t') (hd : t'.all isDig = true) (i n : Nat) (hi : 1 ≤ i) : ((t.drop i).take n).all isDig = true := by
  subst ht
  obtain ⟨j, rfl⟩ : ∃ j, i = j + 1 := ⟨i - 1, by omega⟩
  rw [List.drop_succ_cons]
  rw [List.all_eq_true] at hd ⊢
  intro x hx
  exact hd x (List.mem_of_mem_drop (List.mem_of_mem_take hx))
theorem setCell_size (w : World) (a : Addr) (v : Value) : (w.setCell a v).heap.size = w.heap.size := by simp [World.setCell]
theorem below_swap {w W : World} (h : Below w.heap.size w W) (a : Addr) (v : Value) : Below (w.setCell a v).heap.size (w.setCell a v) (W.setCell a v) := by
  refine ⟨h.os, h.tape, h.output, by rw [setCell_size, setCell_size]; exact h.size, fun k hk => ?_⟩
  rw [setCell_size] at hk
  have := h.block k hk
  simp only [World.setCell, Array.getElem?_modify]
  rw [this]
structure In (w0 w : World) (sb : Nat) (A : Option Addr) (c : Nat) (xs : List Int) (k : Int) : Prop where
  at_ : At w0 A c xs
  tab : C.Tab w0
  bel : Below w0.heap.size w0 w
  ge : w0.heap.size ≤ sb
  blk : w.heap[sb]? = some (.cells #[.slice A xs.length c, .int .i64 k] 93 (0, 0))
theorem In.s0 {w0 w : World} {sb : Nat} {A : Option Addr} {c : Nat} {xs : List Int} {k : Int} (h : In w0 w sb A c xs k) : w.cell? ⟨sb, 0, none⟩ = some (.slice A xs.length c) := blk_cell h.blk 0
theorem In.s1 {w0 w : World} {sb : Nat} {A : Option Addr} {c : Nat} {xs : List Int} {k : Int} (h : In w0 w sb A c xs k) : w.cell? ⟨sb, 1, none⟩ = some (.int .i64 k) := blk_cell h.blk 1
theorem In.lt {w0 w : World} {sb : Nat} {A : Option Addr} {c : Nat} {xs : List Int} {k : Int} (h : In w0 w sb A c xs k) : sb < w.heap.size := blk_lt h.blk
theorem In.step {w0 w W : World} {sb : Nat} {A : Option Addr} {c : Nat} {xs : List Int} {k : Int} (h : In w0 w sb A c xs k) (hb : Below w.heap.size w W) : In w0 W sb A c xs k :=
  ⟨h.at_, h.tab, below_step h.bel hb, h.ge, blk_below h.blk hb⟩
theorem In.here {w0 w : World} {sb : Nat} {A : Option Addr} {c : Nat} {xs : List Int} {k : Int} (h : In w0 w sb A c xs k) : At w A c xs := h.at_.frame h.bel
def left (sb : Nat) (A : Option Addr) (c : Nat) (xs r : List Int) (w : World) : World := w.setCell ⟨sb, 0, none⟩ (.slice (cutA A c (eol xs)) r.length (c - (eol xs + 1)))
theorem left_size (sb : Nat) (A : Option Addr) (c : Nat) (xs r : List Int) (w : World) : (left sb A c xs r w).heap.size = w.heap.size := setCell_size _ _ _
set_option maxRecDepth 100000 in
theorem header_no (sb : Nat) (A : Option Addr) (c : Nat) (xs : List Int) (w : World) (h : At w A c xs) (hs : w.cell? ⟨sb, 0, none⟩ = some (.slice A xs.length c)) (hx : nextP xs 72 14 = none) :
    Calls Tryd.prog 51 #[.pointer (some ⟨sb, 0, none⟩)] w fun e w' => e = .returned (.tuple #[.agg #[.int .i64 0, .int .i64 0, .slice none 0 0], .iface 73 (.int .i64 200)]) ∧ Below w.heap.size w w' := by
  have hlt : sb < w.heap.size := World.block_lt_of_cell? w ⟨sb, 0, none⟩ hs
  have HN : Aside0 (∀ W, Below w.heap.size w W → Calls Tryd.prog 64 #[.pointer (some ⟨sb, 0, none⟩), .int .u8 72, .int .i64 14] W fun e w' => e = .returned (.tuple #[.string ⟨#[]⟩, .iface 73 (.int .i64 200)]) ∧ Drawn0 W w') :=
    ⟨fun W hb => next_no sb A c xs 72 14 W (h.frame hb) ((hb.cell hlt).trans hs) (by omega) hx⟩
  clear h hs hx
  go_enter Tryd.func51, Tryd.ntmps51
  go_wp2_with (first | (go_at_call 64; (with_reducible refine (HN.out _ ?_).mono ?_); (repeat (first | exact Below.refl _ _ | apply pw_below_drewN | apply below_alloc)); rintro e w' ⟨rfl, ⟨nd, rfl⟩⟩))
  exact bodyPost_ret (v := .tuple #[.agg #[.int .i64 0, .int .i64 0, .slice none 0 0], .iface 73 (.int .i64 200)]) (by simp [results, Tryd.results51, go_sem]) rfl ⟨rfl, by repeat (first | exact Below.refl _ _ | apply pw_below_drewN | apply below_alloc | refine below_set ?_ (Nat.le_refl _))⟩
def headD (t : List Int) : Int × Bool := numberR (fieldP t 1 4) (fieldP t 5 2) (fieldP t 7 2)
theorem next_W {w0 w : World} {sb : Nat} {A : Option Addr} {c : Nat} {xs t r : List Int} {k letter : Int} {n : Nat} (h : In w0 w sb A c xs k) (m : Int) (hm : m = n) (hn : n ≤ 100) (hx : nextP xs letter n = some (t, r)) (W : World) (hb : Below w.heap.size w W) :
    Calls Tryd.prog 64 #[.pointer (some ⟨sb, 0, none⟩), .int .u8 letter, .int .i64 m] W fun e w' => e = .returned (.tuple #[.string (strOfNums t), .nilIface]) ∧ Below (left sb A c xs r w).heap.size (left sb A c xs r w) w' ∧
      (∀ o ob, w.heap.size ≤ ob → W.heap[ob]? = some o → w'.heap[ob]? = some o) := by
  subst hm
  have hi := h.step hb
  refine (next_ok sb A c xs t r letter n W hi.here hi.s0 (blk_frozen hi.blk 0) hn hx).mono ?_
  rintro e w' ⟨rfl, ⟨nd, rfl⟩⟩
  refine ⟨rfl, pw_below_drewN (below_swap hb _ _) nd, ?_⟩
  intro o ob hob ho
  have hlt := h.lt
  show (W.setCell _ _).heap[ob]? = some o
  rw [Below.heap_setCell _ _ _ _ (show ob ≠ sb by omega)]
  exact ho
theorem num_W (t t' : List Int) (letter : Int) (ht : t = letter :: t') (hd : t'.all isDig = true) (i n : Nat) (hi : 1 ≤ i) (hin : i + n ≤ t.length) (hn : 1 ≤ n ∧ n ≤ 18) (hl : t.length ≤ 1000) (i' n' : Int) (hi' : i' = i) (hn' : n' = n) :
    Aside0 (∀ W, Calls Tryd.prog 66 #[.string (strOfNums t), .int .i64 i', .int .i64 n'] W fun e w' => e = .returned (.int .i64 (fieldP t i n)) ∧ Below W.heap.size W w') :=
  ⟨fun W => by subst hi' hn'; exact num_calls t i n hin hn hl (field_dig ht hd i n hi) W⟩
structure DS (wl : World) (sb rb ib : Nat) (k l a : Int) (W : World) : Prop where
  bel : Below wl.heap.size wl W
  res : W.heap[rb]? = some (.cells #[.int .i64 0, .int .i64 0] 50 (0, 0))
  itm : W.heap[ib]? = some (.cells #[.int .i64 l, .int .i64 a] 50 (0, 0))
  lin : W.cell? ⟨sb, 1, none⟩ = some (.int .i64 k)
theorem DS.call {wl W W2 : World} {sb rb ib : Nat} {k l a : Int} (h : DS wl sb rb ib k l a W) (hb : Below W.heap.size W W2) : DS wl sb rb ib k l a W2 :=
  ⟨below_step h.bel hb, blk_below h.res hb, blk_below h.itm hb, (hb.cell (p := ⟨sb, 1, none⟩) (World.block_lt_of_cell? W _ h.lin)).trans h.lin⟩
theorem DS.drewN {wl W : World} {sb rb ib : Nat} {k l a : Int} (h : DS wl sb rb ib k l a W) (n : Nat) : DS wl sb rb ib k l a (W.drewN n) :=
  ⟨pw_below_drewN h.bel n, h.res, h.itm, h.lin⟩
theorem keepD {wl W : World} {sb rb ib : Nat} {k l a : Int} (h : DS wl sb rb ib k l a W) : W.cell? ⟨sb, 1, none⟩ = some (.int .i64 k) ∧ Aside0 (DS wl sb rb ib k l a W) := ⟨h.lin, ⟨h⟩⟩
theorem DS.drew {wl W : World} {sb rb ib : Nat} {k l a : Int} (h : DS wl sb rb ib k l a W) : DS wl sb rb ib k l a W.drew := ⟨h.bel.drew, h.res, h.itm, h.lin⟩
set_option maxRecDepth 100000 in
theorem header_ok (w0 w : World) (sb : Nat) (A : Option Addr) (c : Nat) (xs t r : List Int) (k d n : Int) (b : Bool) (h : In w0 w sb A c xs k) (hx : nextP xs 72 14 = some (t, r)) (hd : headD t = (d, b)) (hn : fieldP t 9 6 = n) (hb : b = true) (hn0 : n ≠ 0) :
    Calls Tryd.prog 51 #[.pointer (some ⟨sb, 0, none⟩)] w fun e w' => e = .returned (.tuple #[.agg #[.int .i64 d, .int .i64 n, .slice none 0 0], .nilIface]) ∧ Below (left sb A c xs r w).heap.size (left sb A c xs r w) w' := by
  have HN := Aside0.mk (next_W (n := 14) h 14 rfl (by omega) hx)
  obtain ⟨_, _, _, htl, _, t', ht, hdg⟩ := nextP_some hx
  have N1 := num_W t t' 72 ht hdg 1 4 (by omega) (by omega) (by omega) (by omega) 1 4 rfl rfl
  have N2 := num_W t t' 72 ht hdg 5 2 (by omega) (by omega) (by omega) (by omega) 5 2 rfl rfl
  have N3 := num_W t t' 72 ht hdg 7 2 (by omega) (by omega) (by omega) (by omega) 7 2 rfl rfl
  have N4 := num_W t t' 72 ht hdg 9 6 (by omega) (by omega) (by omega) (by omega) 9 6 rfl rfl
  have hnr := number_calls (fieldP t 1 4) (fieldP t 5 2) (fieldP t 7 2)
  rw [show numberR (fieldP t 1 4) (fieldP t 5 2) (fieldP t 7 2) = (d, b) from hd] at hnr
  rw [hn] at N4
  have NR : Aside0 (∀ W, Below (left sb A c xs r w).heap.size (left sb A c xs r w) W → Calls Tryd.prog 65 #[.agg #[.int .i64 (fieldP t 1 4), .int .i64 (fieldP t 5 2), .int .i64 (fieldP t 7 2)]] W fun e w' => e = .returned (.tuple #[.int .i64 d, .bool b]) ∧ Below W.heap.size W w') :=
    ⟨fun W hb => hnr W (C.tab_below h.tab (below_step (below_set h.bel h.ge) hb))⟩
  have HLS := Aside0.mk (Nat.le_of_eq (left_size sb A c xs r w))
  clear h hx hd hn ht hdg htl hnr
  subst hb
  have bn0 : (n == 0) = false := by rw [beq_eq_false_iff_ne]; exact hn0
  clear hn0
  generalize fieldP t 1 4 = f1 at *
  generalize fieldP t 5 2 = f2 at *
  generalize fieldP t 7 2 = f3 at *
  generalize strOfNums t = s at *
  generalize left sb A c xs r w = wl at *
  go_enter Tryd.func51, Tryd.ntmps51
  go_wp2_with (first
    | (go_at_call 64; (with_reducible refine (HN.out _ ?_).mono ?_); (repeat (first | exact Below.refl _ _ | apply pw_below_drewN | apply below_alloc)); rintro e w' ⟨rfl, hb, hk⟩; have HB := Aside0.mk hb; have BK := Aside0.mk (hk _ _ (Nat.le_refl _) (blk_new _ _)); clear hb hk)
    | (go_at_call 66; (with_reducible refine (N1.out _).mono ?_); rintro e w' ⟨rfl, hb⟩; replace BK := Aside0.mk (blk_below BK.out hb); replace HB := Aside0.mk (below_step HB.out hb); clear hb)
    | (go_at_call 66; (with_reducible refine (N2.out _).mono ?_); rintro e w' ⟨rfl, hb⟩; replace BK := Aside0.mk (blk_below BK.out hb); replace HB := Aside0.mk (below_step HB.out hb); clear hb)
    | (go_at_call 66; (with_reducible refine (N3.out _).mono ?_); rintro e w' ⟨rfl, hb⟩; replace BK := Aside0.mk (blk_below BK.out hb); replace HB := Aside0.mk (below_step HB.out hb); clear hb)
    | (go_at_call 66; (with_reducible refine (N4.out _).mono ?_); rintro e w' ⟨rfl, hb⟩; replace BK := Aside0.mk (blk_below BK.out hb); replace HB := Aside0.mk (below_step HB.out hb); clear hb; have c0_ : w'.cell? ⟨w.heap.size, 0, none⟩ = some (.int .i64 0) := blk_cell BK.out 0; have z0_ := blk_frozen BK.out 0; have c1_ : w'.cell? ⟨w.heap.size, 1, none⟩ = some (.int .i64 0) := blk_cell BK.out 1; have z1_ := blk_frozen BK.out 1; have c2_ : w'.cell? ⟨w.heap.size, 2, none⟩ = some (.slice none 0 0) := blk_cell BK.out 2; have z2_ := blk_frozen BK.out 2)
    | (go_at_call 65; (with_reducible refine (NR.out _ HB.out).mono ?_); rintro e w' ⟨rfl, hb⟩; replace BK := Aside0.mk (blk_below BK.out hb); replace HB := Aside0.mk (below_step HB.out hb); clear hb))
  exact bodyPost_ret (v := .tuple #[.agg #[.int .i64 d, .int .i64 n, .slice none 0 0], .nilIface]) (by simp [results, Tryd.results51, go_sem, c0_, c1_, c2_]) rfl ⟨rfl, by repeat (first | exact HB.out | refine below_set ?_ HLS.out)⟩
set_option maxRecDepth 100000 in
theorem header_out (w0 w : World) (sb : Nat) (A : Option Addr) (c : Nat) (xs t r : List Int) (k d n : Int) (b : Bool) (h : In w0 w sb A c xs k) (hx : nextP xs 72 14 = some (t, r)) (hd : headD t = (d, b)) (hn : fieldP t 9 6 = n) (hb : b = false) :
    Calls Tryd.prog 51 #[.pointer (some ⟨sb, 0, none⟩)] w fun e w' => e = .returned (.tuple #[.agg #[.int .i64 0, .int .i64 0, .slice none 0 0], .iface 73 (.int .i64 200)]) ∧ Below (left sb A c xs r w).heap.size (left sb A c xs r w) w' := by
  have HN := Aside0.mk (next_W (n := 14) h 14 rfl (by omega) hx)
  obtain ⟨_, _, _, htl, _, t', ht, hdg⟩ := nextP_some hx
  have N1 := num_W t t' 72 ht hdg 1 4 (by omega) (by omega) (by omega) (by omega) 1 4 rfl rfl
  have N2 := num_W t t' 72 ht hdg 5 2 (by omega) (by omega) (by omega) (by omega) 5 2 rfl rfl
  have N3 := num_W t t' 72 ht hdg 7 2 (by omega) (by omega) (by omega) (by omega) 7 2 rfl rfl
  have N4 := num_W t t' 72 ht hdg 9 6 (by omega) (by omega) (by omega) (by omega) 9 6 rfl rfl
  have hnr := number_calls (fieldP t 1 4) (fieldP t 5 2) (fieldP t 7 2)
  rw [show numberR (fieldP t 1 4) (fieldP t 5 2) (fieldP t 7 2) = (d, b) from hd] at hnr
  rw [hn] at N4
  have NR : Aside0 (∀ W, Below (left sb A c xs r w).heap.size (left sb A c xs r w) W → Calls Tryd.prog 65 #[.agg #[.int .i64 (fieldP t 1 4), .int .i64 (fieldP t 5 2), .int .i64 (fieldP t 7 2)]] W fun e w' => e = .returned (.tuple #[.int .i64 d, .bool b]) ∧ Below W.heap.size W w') :=
    ⟨fun W hb => hnr W (C.tab_below h.tab (below_step (below_set h.bel h.ge) hb))⟩
  have HLS := Aside0.mk (Nat.le_of_eq (left_size sb A c xs r w))
  clear h hx hd hn ht hdg htl hnr
  subst hb
  generalize fieldP t 1 4 = f1 at *
  generalize fieldP t 5 2 = f2 at *
  generalize fieldP t 7 2 = f3 at *
  generalize strOfNums t = s at *
  generalize left sb A c xs r w = wl at *
  go_enter Tryd.func51, Tryd.ntmps51
  go_wp2_with (first
    | (go_at_call 64; (with_reducible refine (HN.out _ ?_).mono ?_); (repeat (first | exact Below.refl _ _ | apply pw_below_drewN | apply below_alloc)); rintro e w' ⟨rfl, hb, hk⟩; have HB := Aside0.mk hb; have BK := Aside0.mk (hk _ _ (Nat.le_refl _) (blk_new _ _)); clear hb hk)
    | (go_at_call 66; (with_reducible refine (N1.out _).mono ?_); rintro e w' ⟨rfl, hb⟩; replace BK := Aside0.mk (blk_below BK.out hb); replace HB := Aside0.mk (below_step HB.out hb); clear hb)
    | (go_at_call 66; (with_reducible refine (N2.out _).mono ?_); rintro e w' ⟨rfl, hb⟩; replace BK := Aside0.mk (blk_below BK.out hb); replace HB := Aside0.mk (below_step HB.out hb); clear hb)
    | (go_at_call 66; (with_reducible refine (N3.out _).mono ?_); rintro e w' ⟨rfl, hb⟩; replace BK := Aside0.mk (blk_below BK.out hb); replace HB := Aside0.mk (below_step HB.out hb); clear hb)
    | (go_at_call 66; (with_reducible refine (N4.out _).mono ?_); rintro e w' ⟨rfl, hb⟩; replace BK := Aside0.mk (blk_below BK.out hb); replace HB := Aside0.mk (below_step HB.out hb); clear hb; have c0_ : w'.cell? ⟨w.heap.size, 0, none⟩ = some (.int .i64 0) := blk_cell BK.out 0; have z0_ := blk_frozen BK.out 0; have c1_ : w'.cell? ⟨w.heap.size, 1, none⟩ = some (.int .i64 0) := blk_cell BK.out 1; have z1_ := blk_frozen BK.out 1; have c2_ : w'.cell? ⟨w.heap.size, 2, none⟩ = some (.slice none 0 0) := blk_cell BK.out 2; have z2_ := blk_frozen BK.out 2)
    | (go_at_call 65; (with_reducible refine (NR.out _ HB.out).mono ?_); rintro e w' ⟨rfl, hb⟩; replace BK := Aside0.mk (blk_below BK.out hb); replace HB := Aside0.mk (below_step HB.out hb); clear hb))
  exact bodyPost_ret (v := .tuple #[.agg #[.int .i64 0, .int .i64 0, .slice none 0 0], .iface 73 (.int .i64 200)]) (by simp [results, Tryd.results51, go_sem, c0_, c1_, c2_]) rfl ⟨rfl, by repeat (first | exact HB.out | refine below_set ?_ HLS.out)⟩
set_option maxRecDepth 100000 in
theorem header_zero (w0 w : World) (sb : Nat) (A : Option Addr) (c : Nat) (xs t r : List Int) (k d n : Int) (b : Bool) (h : In w0 w sb A c xs k) (hx : nextP xs 72 14 = some (t, r)) (hd : headD t = (d, b)) (hn : fieldP t 9 6 = n) (hb : b = true) (hn0 : n = 0) :
    Calls Tryd.prog 51 #[.pointer (some ⟨sb, 0, none⟩)] w fun e w' => e = .returned (.tuple #[.agg #[.int .i64 0, .int .i64 0, .slice none 0 0], .iface 73 (.int .i64 200)]) ∧ Below (left sb A c xs r w).heap.size (left sb A c xs r w) w' := by
  have HN := Aside0.mk (next_W (n := 14) h 14 rfl (by omega) hx)
  obtain ⟨_, _, _, htl, _, t', ht, hdg⟩ := nextP_some hx
  have N1 := num_W t t' 72 ht hdg 1 4 (by omega) (by omega) (by omega) (by omega) 1 4 rfl rfl
  have N2 := num_W t t' 72 ht hdg 5 2 (by omega) (by omega) (by omega) (by omega) 5 2 rfl rfl
  have N3 := num_W t t' 72 ht hdg 7 2 (by omega) (by omega) (by omega) (by omega) 7 2 rfl rfl
  have N4 := num_W t t' 72 ht hdg 9 6 (by omega) (by omega) (by omega) (by omega) 9 6 rfl rfl
  have hnr := number_calls (fieldP t 1 4) (fieldP t 5 2) (fieldP t 7 2)
  rw [show numberR (fieldP t 1 4) (fieldP t 5 2) (fieldP t 7 2) = (d, b) from hd] at hnr
  rw [hn] at N4
  have NR : Aside0 (∀ W, Below (left sb A c xs r w).heap.size (left sb A c xs r w) W → Calls Tryd.prog 65 #[.agg #[.int .i64 (fieldP t 1 4), .int .i64 (fieldP t 5 2), .int .i64 (fieldP t 7 2)]] W fun e w' => e = .returned (.tuple #[.int .i64 d, .bool b]) ∧ Below W.heap.size W w') :=
    ⟨fun W hb => hnr W (C.tab_below h.tab (below_step (below_set h.bel h.ge) hb))⟩
  have HLS := Aside0.mk (Nat.le_of_eq (left_size sb A c xs r w))
  clear h hx hd hn ht hdg htl hnr
  subst hb hn0
  generalize fieldP t 1 4 = f1 at *
  generalize fieldP t 5 2 = f2 at *
  generalize fieldP t 7 2 = f3 at *
  generalize strOfNums t = s at *
  generalize left sb A c xs r w = wl at *
  go_enter Tryd.func51, Tryd.ntmps51
  go_wp2_with (first
    | (go_at_call 64; (with_reducible refine (HN.out _ ?_).mono ?_); (repeat (first | exact Below.refl _ _ | apply pw_below_drewN | apply below_alloc)); rintro e w' ⟨rfl, hb, hk⟩; have HB := Aside0.mk hb; have BK := Aside0.mk (hk _ _ (Nat.le_refl _) (blk_new _ _)); clear hb hk)
    | (go_at_call 66; (with_reducible refine (N1.out _).mono ?_); rintro e w' ⟨rfl, hb⟩; replace BK := Aside0.mk (blk_below BK.out hb); replace HB := Aside0.mk (below_step HB.out hb); clear hb)
    | (go_at_call 66; (with_reducible refine (N2.out _).mono ?_); rintro e w' ⟨rfl, hb⟩; replace BK := Aside0.mk (blk_below BK.out hb); replace HB := Aside0.mk (below_step HB.out hb); clear hb)
    | (go_at_call 66; (with_reducible refine (N3.out _).mono ?_); rintro e w' ⟨rfl, hb⟩; replace BK := Aside0.mk (blk_below BK.out hb); replace HB := Aside0.mk (below_step HB.out hb); clear hb)
    | (go_at_call 66; (with_reducible refine (N4.out _).mono ?_); rintro e w' ⟨rfl, hb⟩; replace BK := Aside0.mk (blk_below BK.out hb); replace HB := Aside0.mk (below_step HB.out hb); clear hb; have c0_ : w'.cell? ⟨w.heap.size, 0, none⟩ = some (.int .i64 0) := blk_cell BK.out 0; have z0_ := blk_frozen BK.out 0; have c1_ : w'.cell? ⟨w.heap.size, 1, none⟩ = some (.int .i64 0) := blk_cell BK.out 1; have z1_ := blk_frozen BK.out 1; have c2_ : w'.cell? ⟨w.heap.size, 2, none⟩ = some (.slice none 0 0) := blk_cell BK.out 2; have z2_ := blk_frozen BK.out 2)
    | (go_at_call 65; (with_reducible refine (NR.out _ HB.out).mono ?_); rintro e w' ⟨rfl, hb⟩; replace BK := Aside0.mk (blk_below BK.out hb); replace HB := Aside0.mk (below_step HB.out hb); clear hb))
  exact bodyPost_ret (v := .tuple #[.agg #[.int .i64 0, .int .i64 0, .slice none 0 0], .iface 73 (.int .i64 200)]) (by simp [results, Tryd.results51, go_sem, c0_, c1_, c2_]) rfl ⟨rfl, by repeat (first | exact HB.out | refine below_set ?_ HLS.out)⟩
set_option maxRecDepth 100000 in
theorem detail_zero (w0 w : World) (sb : Nat) (A : Option Addr) (c : Nat) (xs t r : List Int) (k l a p : Int) (b : Bool) (h : In w0 w sb A c xs k) (hx : nextP xs 68 23 = some (t, r)) (hl : fieldP t 5 6 = l) (ha : fieldP t 12 12 = a) (hp : fieldP t 1 4 = p) (hv : DDigits.validB (strOfNums ((t.drop 5).take 7)) = b) (hz : l = 0) :
    Calls Tryd.prog 52 #[.pointer (some ⟨sb, 0, none⟩)] w fun e w' => e = .returned (.tuple #[.agg #[.int .i64 0, .int .i64 0], .iface 73 (.int .i64 200)]) ∧ Below (left sb A c xs r w).heap.size (left sb A c xs r w) w' := by
  have HN := Aside0.mk (next_W (n := 23) h 23 rfl (by omega) hx)
  obtain ⟨_, _, _, htl, _, t', ht, hdg⟩ := nextP_some hx
  have N1 := num_W t t' 68 ht hdg 5 6 (by omega) (by omega) (by omega) (by omega) 5 6 rfl rfl
  have N2 := num_W t t' 68 ht hdg 12 12 (by omega) (by omega) (by omega) (by omega) 12 12 rfl rfl
  have N3 := num_W t t' 68 ht hdg 1 4 (by omega) (by omega) (by omega) (by omega) 1 4 rfl rfl
  rw [hl] at N1
  rw [ha] at N2
  rw [hp] at N3
  have hs1 : (left sb A c xs r w).cell? ⟨sb, 1, none⟩ = some (.int .i64 k) := blk_cell (blk_set h.blk 0 _) 1
  have hsl : sb < (left sb A c xs r w).heap.size := by rw [left_size]; exact h.lt
  have SC : Aside0 (∀ W, Below (left sb A c xs r w).heap.size (left sb A c xs r w) W → W.cell? ⟨sb, 1, none⟩ = some (.int .i64 k)) := ⟨fun W hb => (hb.cell (p := ⟨sb, 1, none⟩) hsl).trans hs1⟩
  have hss : (strOfNums ((t.drop 5).take 7)).size = 7 := by rw [← bytesOf_length, bytesOf_str _ (fun x hx => by
    have := field_dig ht hdg 5 7 (by omega)
    rw [List.all_eq_true] at this
    have := this x hx
    simp only [isDig, decide_eq_true_eq] at this; omega), List.length_take, List.length_drop]; omega
  have VL : Aside0 (∀ W, Calls Tryd.prog 11 #[.string (strOfNums ((t.drop 5).take 7))] W fun e w' => e = .returned (.bool b) ∧ Drawn0 W w') := ⟨fun W => by rw [← hv]; exact DDigits.valid_calls _ (by omega) W⟩
  have hex : (strOfNums t).extract 5 12 = strOfNums ((t.drop 5).take 7) := extract_str t 5 12
  have hsz : (strOfNums t).size = 24 := by
    have h2 := congrArg List.length (strOf_toList t)
    rw [Lib.bytesOf, List.length_map, htl] at h2
    exact h2
  have HLS := Aside0.mk (Nat.le_of_eq (left_size sb A c xs r w))
  clear h hx hl ha hp hv ht hdg htl hs1 hsl hss
  subst hz
  generalize strOfNums ((t.drop 5).take 7) = u at *
  generalize strOfNums t = s at *
  generalize left sb A c xs r w = wl at *
  go_enter Tryd.func52, Tryd.ntmps52
  go_wp2_with (first
    | (go_at_call 64; (with_reducible refine (HN.out _ ?_).mono ?_); (repeat (first | exact Below.refl _ _ | apply pw_below_drewN | apply below_alloc)); rintro e w' ⟨rfl, hb, hk⟩; have HB := Aside0.mk hb; have BK := Aside0.mk (hk _ _ (Nat.le_refl _) (blk_new _ _)); clear hb hk)
    | (go_at_call 66; (with_reducible refine (N1.out _).mono ?_); rintro e w' ⟨rfl, hb⟩; replace BK := Aside0.mk (blk_below BK.out hb); replace HB := Aside0.mk (below_step HB.out hb); clear hb; have c0_ : w'.cell? ⟨w.heap.size, 0, none⟩ = some (.int .i64 0) := blk_cell BK.out 0; have z0_ := blk_frozen BK.out 0; have c1_ : w'.cell? ⟨w.heap.size, 1, none⟩ = some (.int .i64 0) := blk_cell BK.out 1; have z1_ := blk_frozen BK.out 1; have lt_ : w.heap.size < w'.heap.size := blk_lt BK.out; have ne_ : ¬ w.heap.size = w'.heap.size := Nat.ne_of_lt lt_)
    | (go_at_call 66; (with_reducible refine (N2.out _).mono ?_); rintro e w' ⟨rfl, hb⟩; replace BK := Aside0.mk (blk_below BK.out hb); replace HB := Aside0.mk (below_step HB.out hb); clear hb; have c0_ : w'.cell? ⟨w.heap.size, 0, none⟩ = some (.int .i64 0) := blk_cell BK.out 0; have z0_ := blk_frozen BK.out 0; have c1_ : w'.cell? ⟨w.heap.size, 1, none⟩ = some (.int .i64 0) := blk_cell BK.out 1; have z1_ := blk_frozen BK.out 1; have lt_ : w.heap.size < w'.heap.size := blk_lt BK.out; have ne_ : ¬ w.heap.size = w'.heap.size := Nat.ne_of_lt lt_)
    | (go_at_call 66; (with_reducible refine (N3.out _).mono ?_); rintro e w' ⟨rfl, hb⟩; replace BK := Aside0.mk (blk_below BK.out hb); replace HB := Aside0.mk (below_step HB.out hb); clear hb; have c0_ : w'.cell? ⟨w.heap.size, 0, none⟩ = some (.int .i64 0) := blk_cell BK.out 0; have z0_ := blk_frozen BK.out 0; have c1_ : w'.cell? ⟨w.heap.size, 1, none⟩ = some (.int .i64 0) := blk_cell BK.out 1; have z1_ := blk_frozen BK.out 1; have lt_ : w.heap.size < w'.heap.size := blk_lt BK.out; have ne_ : ¬ w.heap.size = w'.heap.size := Nat.ne_of_lt lt_))
  have hlt_ := blk_lt BK.out
  exact bodyPost_ret (v := .tuple #[.agg #[.int .i64 0, .int .i64 0], .iface 73 (.int .i64 200)]) (by simp [results, Tryd.results52, go_sem, c0_, c1_, lt_, ne_]) rfl ⟨rfl, by repeat (first | exact HB.out | apply pw_below_drewN | apply below_alloc | refine below_set ?_ HLS.out | (refine below_set ?_ (Nat.le_trans HLS.out ?_); focus (simp; omega)))⟩
set_option maxRecDepth 100000 in
theorem detail_zero2 (w0 w : World) (sb : Nat) (A : Option Addr) (c : Nat) (xs t r : List Int) (k l a p : Int) (b : Bool) (h : In w0 w sb A c xs k) (hx : nextP xs 68 23 = some (t, r)) (hl : fieldP t 5 6 = l) (ha : fieldP t 12 12 = a) (hp : fieldP t 1 4 = p) (hv : DDigits.validB (strOfNums ((t.drop 5).take 7)) = b) (hz : l ≠ 0) (hz2 : a = 0) :
    Calls Tryd.prog 52 #[.pointer (some ⟨sb, 0, none⟩)] w fun e w' => e = .returned (.tuple #[.agg #[.int .i64 0, .int .i64 0], .iface 73 (.int .i64 200)]) ∧ Below (left sb A c xs r w).heap.size (left sb A c xs r w) w' := by
  have HN := Aside0.mk (next_W (n := 23) h 23 rfl (by omega) hx)
  obtain ⟨_, _, _, htl, _, t', ht, hdg⟩ := nextP_some hx
  have N1 := num_W t t' 68 ht hdg 5 6 (by omega) (by omega) (by omega) (by omega) 5 6 rfl rfl
  have N2 := num_W t t' 68 ht hdg 12 12 (by omega) (by omega) (by omega) (by omega) 12 12 rfl rfl
  have N3 := num_W t t' 68 ht hdg 1 4 (by omega) (by omega) (by omega) (by omega) 1 4 rfl rfl
  rw [hl] at N1
  rw [ha] at N2
  rw [hp] at N3
  have hs1 : (left sb A c xs r w).cell? ⟨sb, 1, none⟩ = some (.int .i64 k) := blk_cell (blk_set h.blk 0 _) 1
  have hsl : sb < (left sb A c xs r w).heap.size := by rw [left_size]; exact h.lt
  have SC : Aside0 (∀ W, Below (left sb A c xs r w).heap.size (left sb A c xs r w) W → W.cell? ⟨sb, 1, none⟩ = some (.int .i64 k)) := ⟨fun W hb => (hb.cell (p := ⟨sb, 1, none⟩) hsl).trans hs1⟩
  have hss : (strOfNums ((t.drop 5).take 7)).size = 7 := by rw [← bytesOf_length, bytesOf_str _ (fun x hx => by
    have := field_dig ht hdg 5 7 (by omega)
    rw [List.all_eq_true] at this
    have := this x hx
    simp only [isDig, decide_eq_true_eq] at this; omega), List.length_take, List.length_drop]; omega
  have VL : Aside0 (∀ W, Calls Tryd.prog 11 #[.string (strOfNums ((t.drop 5).take 7))] W fun e w' => e = .returned (.bool b) ∧ Drawn0 W w') := ⟨fun W => by rw [← hv]; exact DDigits.valid_calls _ (by omega) W⟩
  have hex : (strOfNums t).extract 5 12 = strOfNums ((t.drop 5).take 7) := extract_str t 5 12
  have hsz : (strOfNums t).size = 24 := by
    have h2 := congrArg List.length (strOf_toList t)
    rw [Lib.bytesOf, List.length_map, htl] at h2
    exact h2
  have HLS := Aside0.mk (Nat.le_of_eq (left_size sb A c xs r w))
  clear h hx hl ha hp hv ht hdg htl hs1 hsl hss
  subst hz2
  have bl : (l == 0) = false := by rw [beq_eq_false_iff_ne]; exact hz
  clear hz
  generalize strOfNums ((t.drop 5).take 7) = u at *
  generalize strOfNums t = s at *
  generalize left sb A c xs r w = wl at *
  go_enter Tryd.func52, Tryd.ntmps52
  go_wp2_with (first
    | (go_at_call 64; (with_reducible refine (HN.out _ ?_).mono ?_); (repeat (first | exact Below.refl _ _ | apply pw_below_drewN | apply below_alloc)); rintro e w' ⟨rfl, hb, hk⟩; have HB := Aside0.mk hb; have BK := Aside0.mk (hk _ _ (Nat.le_refl _) (blk_new _ _)); clear hb hk)
    | (go_at_call 66; (with_reducible refine (N1.out _).mono ?_); rintro e w' ⟨rfl, hb⟩; replace BK := Aside0.mk (blk_below BK.out hb); replace HB := Aside0.mk (below_step HB.out hb); clear hb; have c0_ : w'.cell? ⟨w.heap.size, 0, none⟩ = some (.int .i64 0) := blk_cell BK.out 0; have z0_ := blk_frozen BK.out 0; have c1_ : w'.cell? ⟨w.heap.size, 1, none⟩ = some (.int .i64 0) := blk_cell BK.out 1; have z1_ := blk_frozen BK.out 1; have lt_ : w.heap.size < w'.heap.size := blk_lt BK.out; have ne_ : ¬ w.heap.size = w'.heap.size := Nat.ne_of_lt lt_)
    | (go_at_call 66; (with_reducible refine (N2.out _).mono ?_); rintro e w' ⟨rfl, hb⟩; replace BK := Aside0.mk (blk_below BK.out hb); replace HB := Aside0.mk (below_step HB.out hb); clear hb; have c0_ : w'.cell? ⟨w.heap.size, 0, none⟩ = some (.int .i64 0) := blk_cell BK.out 0; have z0_ := blk_frozen BK.out 0; have c1_ : w'.cell? ⟨w.heap.size, 1, none⟩ = some (.int .i64 0) := blk_cell BK.out 1; have z1_ := blk_frozen BK.out 1; have lt_ : w.heap.size < w'.heap.size := blk_lt BK.out; have ne_ : ¬ w.heap.size = w'.heap.size := Nat.ne_of_lt lt_)
    | (go_at_call 66; (with_reducible refine (N3.out _).mono ?_); rintro e w' ⟨rfl, hb⟩; replace BK := Aside0.mk (blk_below BK.out hb); replace HB := Aside0.mk (below_step HB.out hb); clear hb; have c0_ : w'.cell? ⟨w.heap.size, 0, none⟩ = some (.int .i64 0) := blk_cell BK.out 0; have z0_ := blk_frozen BK.out 0; have c1_ : w'.cell? ⟨w.heap.size, 1, none⟩ = some (.int .i64 0) := blk_cell BK.out 1; have z1_ := blk_frozen BK.out 1; have lt_ : w.heap.size < w'.heap.size := blk_lt BK.out; have ne_ : ¬ w.heap.size = w'.heap.size := Nat.ne_of_lt lt_))
  have hlt_ := blk_lt BK.out
  exact bodyPost_ret (v := .tuple #[.agg #[.int .i64 0, .int .i64 0], .iface 73 (.int .i64 200)]) (by simp [results, Tryd.results52, go_sem, c0_, c1_, lt_, ne_]) rfl ⟨rfl, by repeat (first | exact HB.out | apply pw_below_drewN | apply below_alloc | refine below_set ?_ HLS.out | (refine below_set ?_ (Nat.le_trans HLS.out ?_); focus (simp; omega)))⟩
set_option maxRecDepth 100000 in
theorem detail_digit (w0 w : World) (sb : Nat) (A : Option Addr) (c : Nat) (xs t r : List Int) (k l a p : Int) (b : Bool) (h : In w0 w sb A c xs k) (hx : nextP xs 68 23 = some (t, r)) (hl : fieldP t 5 6 = l) (ha : fieldP t 12 12 = a) (hp : fieldP t 1 4 = p) (hv : DDigits.validB (strOfNums ((t.drop 5).take 7)) = b) (hz : l ≠ 0) (hz2 : a ≠ 0) (hb : b = false) :
    Calls Tryd.prog 52 #[.pointer (some ⟨sb, 0, none⟩)] w fun e w' => e = .returned (.tuple #[.agg #[.int .i64 0, .int .i64 0], .iface 73 (.int .i64 201)]) ∧ Below (left sb A c xs r w).heap.size (left sb A c xs r w) w' := by
  have HN := Aside0.mk (next_W (n := 23) h 23 rfl (by omega) hx)
  obtain ⟨_, _, _, htl, _, t', ht, hdg⟩ := nextP_some hx
  have N1 := num_W t t' 68 ht hdg 5 6 (by omega) (by omega) (by omega) (by omega) 5 6 rfl rfl
  have N2 := num_W t t' 68 ht hdg 12 12 (by omega) (by omega) (by omega) (by omega) 12 12 rfl rfl
  have N3 := num_W t t' 68 ht hdg 1 4 (by omega) (by omega) (by omega) (by omega) 1 4 rfl rfl
  rw [hl] at N1
  rw [ha] at N2
  rw [hp] at N3
  have hs1 : (left sb A c xs r w).cell? ⟨sb, 1, none⟩ = some (.int .i64 k) := blk_cell (blk_set h.blk 0 _) 1
  have hsl : sb < (left sb A c xs r w).heap.size := by rw [left_size]; exact h.lt
  have SC : Aside0 (∀ W, Below (left sb A c xs r w).heap.size (left sb A c xs r w) W → W.cell? ⟨sb, 1, none⟩ = some (.int .i64 k)) := ⟨fun W hb => (hb.cell (p := ⟨sb, 1, none⟩) hsl).trans hs1⟩
  have hss : (strOfNums ((t.drop 5).take 7)).size = 7 := by rw [← bytesOf_length, bytesOf_str _ (fun x hx => by
    have := field_dig ht hdg 5 7 (by omega)
    rw [List.all_eq_true] at this
    have := this x hx
    simp only [isDig, decide_eq_true_eq] at this; omega), List.length_take, List.length_drop]; omega
  have VL : Aside0 (∀ W, Calls Tryd.prog 11 #[.string (strOfNums ((t.drop 5).take 7))] W fun e w' => e = .returned (.bool b) ∧ Drawn0 W w') := ⟨fun W => by rw [← hv]; exact DDigits.valid_calls _ (by omega) W⟩
  have hex : (strOfNums t).extract 5 12 = strOfNums ((t.drop 5).take 7) := extract_str t 5 12
  have hsz : (strOfNums t).size = 24 := by
    have h2 := congrArg List.length (strOf_toList t)
    rw [Lib.bytesOf, List.length_map, htl] at h2
    exact h2
  have HLS := Aside0.mk (Nat.le_of_eq (left_size sb A c xs r w))
  clear h hx hl ha hp hv ht hdg htl hs1 hsl hss
  subst hb
  have bl : (l == 0) = false := by rw [beq_eq_false_iff_ne]; exact hz
  have ba : (a == 0) = false := by rw [beq_eq_false_iff_ne]; exact hz2
  clear hz hz2
  generalize strOfNums ((t.drop 5).take 7) = u at *
  generalize strOfNums t = s at *
  generalize left sb A c xs r w = wl at *
  go_enter Tryd.func52, Tryd.ntmps52
  go_wp2_with (first
    | (go_at_call 64; (with_reducible refine (HN.out _ ?_).mono ?_); (repeat (first | exact Below.refl _ _ | apply pw_below_drewN | apply below_alloc)); rintro e w' ⟨rfl, hb, hk⟩; have HB := Aside0.mk hb; have BK := Aside0.mk (hk _ _ (Nat.le_refl _) (blk_new _ _)); clear hb hk)
    | (go_at_call 66; (with_reducible refine (N1.out _).mono ?_); rintro e w' ⟨rfl, hb⟩; replace BK := Aside0.mk (blk_below BK.out hb); replace HB := Aside0.mk (below_step HB.out hb); clear hb; have c0_ : w'.cell? ⟨w.heap.size, 0, none⟩ = some (.int .i64 0) := blk_cell BK.out 0; have z0_ := blk_frozen BK.out 0; have c1_ : w'.cell? ⟨w.heap.size, 1, none⟩ = some (.int .i64 0) := blk_cell BK.out 1; have z1_ := blk_frozen BK.out 1; have lt_ : w.heap.size < w'.heap.size := blk_lt BK.out; have ne_ : ¬ w.heap.size = w'.heap.size := Nat.ne_of_lt lt_)
    | (go_at_call 66; (with_reducible refine (N2.out _).mono ?_); rintro e w' ⟨rfl, hb⟩; replace BK := Aside0.mk (blk_below BK.out hb); replace HB := Aside0.mk (below_step HB.out hb); clear hb; have c0_ : w'.cell? ⟨w.heap.size, 0, none⟩ = some (.int .i64 0) := blk_cell BK.out 0; have z0_ := blk_frozen BK.out 0; have c1_ : w'.cell? ⟨w.heap.size, 1, none⟩ = some (.int .i64 0) := blk_cell BK.out 1; have z1_ := blk_frozen BK.out 1; have lt_ : w.heap.size < w'.heap.size := blk_lt BK.out; have ne_ : ¬ w.heap.size = w'.heap.size := Nat.ne_of_lt lt_)
    | (go_at_call 66; (with_reducible refine (N3.out _).mono ?_); rintro e w' ⟨rfl, hb⟩; replace BK := Aside0.mk (blk_below BK.out hb); replace HB := Aside0.mk (below_step HB.out hb); clear hb; have c0_ : w'.cell? ⟨w.heap.size, 0, none⟩ = some (.int .i64 0) := blk_cell BK.out 0; have z0_ := blk_frozen BK.out 0; have c1_ : w'.cell? ⟨w.heap.size, 1, none⟩ = some (.int .i64 0) := blk_cell BK.out 1; have z1_ := blk_frozen BK.out 1; have lt_ : w.heap.size < w'.heap.size := blk_lt BK.out; have ne_ : ¬ w.heap.size = w'.heap.size := Nat.ne_of_lt lt_)
    | (go_at_call 11; (with_reducible refine (VL.out _).mono ?_); rintro e w' ⟨rfl, ⟨nd, rfl⟩⟩))
  have hlt_ := blk_lt BK.out
  exact bodyPost_ret (v := .tuple #[.agg #[.int .i64 0, .int .i64 0], .iface 73 (.int .i64 201)]) (by simp [results, Tryd.results52, go_sem, c0_, c1_, lt_, ne_]) rfl ⟨rfl, by repeat (first | exact HB.out | apply pw_below_drewN | apply below_alloc | refine below_set ?_ HLS.out | (refine below_set ?_ (Nat.le_trans HLS.out ?_); focus (simp; omega)))⟩
set_option maxRecDepth 100000 in
theorem detail_ok (w0 w : World) (sb : Nat) (A : Option Addr) (c : Nat) (xs t r : List Int) (k l a p : Int) (b : Bool) (h : In w0 w sb A c xs k) (hx : nextP xs 68 23 = some (t, r)) (hl : fieldP t 5 6 = l) (ha : fieldP t 12 12 = a) (hp : fieldP t 1 4 = p) (hv : DDigits.validB (strOfNums ((t.drop 5).take 7)) = b) (hz : l ≠ 0) (hz2 : a ≠ 0) (hb : b = true) (hpk : k = p) :
    Calls Tryd.prog 52 #[.pointer (some ⟨sb, 0, none⟩)] w fun e w' => e = .returned (.tuple #[.agg #[.int .i64 l, .int .i64 a], .nilIface]) ∧ Below (left sb A c xs r w).heap.size (left sb A c xs r w) w' := by
  have HN := Aside0.mk (next_W (n := 23) h 23 rfl (by omega) hx)
  obtain ⟨_, _, _, htl, _, t', ht, hdg⟩ := nextP_some hx
  have N1 := num_W t t' 68 ht hdg 5 6 (by omega) (by omega) (by omega) (by omega) 5 6 rfl rfl
  have N2 := num_W t t' 68 ht hdg 12 12 (by omega) (by omega) (by omega) (by omega) 12 12 rfl rfl
  have N3 := num_W t t' 68 ht hdg 1 4 (by omega) (by omega) (by omega) (by omega) 1 4 rfl rfl
  rw [hl] at N1
  rw [ha] at N2
  rw [hp] at N3
  have hs1 : (left sb A c xs r w).cell? ⟨sb, 1, none⟩ = some (.int .i64 k) := blk_cell (blk_set h.blk 0 _) 1
  have hsl : sb < (left sb A c xs r w).heap.size := by rw [left_size]; exact h.lt
  have SC : Aside0 (∀ W, Below (left sb A c xs r w).heap.size (left sb A c xs r w) W → W.cell? ⟨sb, 1, none⟩ = some (.int .i64 k)) := ⟨fun W hb => (hb.cell (p := ⟨sb, 1, none⟩) hsl).trans hs1⟩
  have hss : (strOfNums ((t.drop 5).take 7)).size = 7 := by rw [← bytesOf_length, bytesOf_str _ (fun x hx => by
    have := field_dig ht hdg 5 7 (by omega)
    rw [List.all_eq_true] at this
    have := this x hx
    simp only [isDig, decide_eq_true_eq] at this; omega), List.length_take, List.length_drop]; omega
  have VL : Aside0 (∀ W, Calls Tryd.prog 11 #[.string (strOfNums ((t.drop 5).take 7))] W fun e w' => e = .returned (.bool b) ∧ Drawn0 W w') := ⟨fun W => by rw [← hv]; exact DDigits.valid_calls _ (by omega) W⟩
  have hex : (strOfNums t).extract 5 12 = strOfNums ((t.drop 5).take 7) := extract_str t 5 12
  have hsz : (strOfNums t).size = 24 := by
    have h2 := congrArg List.length (strOf_toList t)
    rw [Lib.bytesOf, List.length_map, htl] at h2
    exact h2
  have HLS := Aside0.mk (Nat.le_of_eq (left_size sb A c xs r w))
  clear h hx hl ha hp hv ht hdg htl hs1 hsl hss
  subst hb hpk
  have bl : (l == 0) = false := by rw [beq_eq_false_iff_ne]; exact hz
  have ba : (a == 0) = false := by rw [beq_eq_false_iff_ne]; exact hz2
  clear hz hz2
  generalize strOfNums ((t.drop 5).take 7) = u at *
  generalize strOfNums t = s at *
  generalize left sb A c xs r w = wl at *
  go_enter Tryd.func52, Tryd.ntmps52
  go_wp2_with (first
    | (go_at_call 64; (with_reducible refine (HN.out _ ?_).mono ?_); (repeat (first | exact Below.refl _ _ | apply pw_below_drewN | apply below_alloc)); rintro e w' ⟨rfl, hb, hk⟩; have HB := Aside0.mk hb; have BK := Aside0.mk (hk _ _ (Nat.le_refl _) (blk_new _ _)); clear hb hk)
    | (go_at_call 66; (with_reducible refine (N1.out _).mono ?_); rintro e w' ⟨rfl, hb⟩; replace BK := Aside0.mk (blk_below BK.out hb); replace HB := Aside0.mk (below_step HB.out hb); clear hb; have c0_ : w'.cell? ⟨w.heap.size, 0, none⟩ = some (.int .i64 0) := blk_cell BK.out 0; have z0_ := blk_frozen BK.out 0; have c1_ : w'.cell? ⟨w.heap.size, 1, none⟩ = some (.int .i64 0) := blk_cell BK.out 1; have z1_ := blk_frozen BK.out 1; have lt_ : w.heap.size < w'.heap.size := blk_lt BK.out; have ne_ : ¬ w.heap.size = w'.heap.size := Nat.ne_of_lt lt_)
    | (go_at_call 66; (with_reducible refine (N2.out _).mono ?_); rintro e w' ⟨rfl, hb⟩; replace BK := Aside0.mk (blk_below BK.out hb); replace HB := Aside0.mk (below_step HB.out hb); clear hb; have c0_ : w'.cell? ⟨w.heap.size, 0, none⟩ = some (.int .i64 0) := blk_cell BK.out 0; have z0_ := blk_frozen BK.out 0; have c1_ : w'.cell? ⟨w.heap.size, 1, none⟩ = some (.int .i64 0) := blk_cell BK.out 1; have z1_ := blk_frozen BK.out 1; have lt_ : w.heap.size < w'.heap.size := blk_lt BK.out; have ne_ : ¬ w.heap.size = w'.heap.size := Nat.ne_of_lt lt_)
    | (go_at_call 66; (with_reducible refine (N3.out _).mono ?_); rintro e w' ⟨rfl, hb⟩; replace BK := Aside0.mk (blk_below BK.out hb); replace HB := Aside0.mk (below_step HB.out hb); clear hb; have c0_ : w'.cell? ⟨w.heap.size, 0, none⟩ = some (.int .i64 0) := blk_cell BK.out 0; have z0_ := blk_frozen BK.out 0; have c1_ : w'.cell? ⟨w.heap.size, 1, none⟩ = some (.int .i64 0) := blk_cell BK.out 1; have z1_ := blk_frozen BK.out 1; have lt_ : w.heap.size < w'.heap.size := blk_lt BK.out; have ne_ : ¬ w.heap.size = w'.heap.size := Nat.ne_of_lt lt_)
    | (go_at_call 11; (with_reducible refine (VL.out _).mono ?_); rintro e w' ⟨rfl, ⟨nd, rfl⟩⟩))
  have DS0 : DS wl sb w.heap.size w'.heap.size k l a (w'.alloc (.cells #[.int .i64 l, .int .i64 a] 50)) := ⟨below_alloc HB.out _, blk_alloc BK.out _, blk_new _ _, (SC.out _ (below_alloc HB.out _))⟩
  replace DS0 := DS0.drewN nd
  have DS1 := DS0.lin
  have DS2 := Aside0.mk DS0
  clear DS0
  generalize (w'.alloc (.cells #[.int .i64 l, .int .i64 a] 50)).drewN nd = wr at *
  go_region_held3 (fun W => W.cell? ⟨sb, 1, none⟩ = some (.int .i64 k) ∧ Aside0 (DS wl sb w.heap.size w'.heap.size k l a W)) (first | exact keepD (Aside0.out (by assumption)) | exact keepD (DS.drew (Aside0.out (by assumption))) | exact keepD (DS.call (Aside0.out (by assumption)) (by assumption)) | exact keepD (DS.call (DS.drew (Aside0.out (by assumption))) (by assumption)))
    ((go_at_call 66; (with_reducible refine (N3.out _).mono ?_); rintro e w' ⟨rfl, hb⟩))
  rename_i hH
  have HD := hH.2
  clear hH hb DS1 DS2
  have c0_ : w'.cell? ⟨w.heap.size, 0, none⟩ = some (.int .i64 0) := blk_cell HD.out.res 0
  have c1_ : w'.cell? ⟨w.heap.size, 1, none⟩ = some (.int .i64 0) := blk_cell HD.out.res 1
  have z0_ := blk_frozen HD.out.res 0
  have z1_ := blk_frozen HD.out.res 1
  have i0_ := blk_cell HD.out.itm 0
  have i1_ := blk_cell HD.out.itm 1
  simp only [List.getElem?_toArray, List.getElem?_cons_zero, List.getElem?_cons_succ] at i0_ i1_
  have HB2 := Aside0.mk HD.out.bel
  go_wp2
  have hlt_ := blk_lt BK.out
  exact bodyPost_ret (v := .tuple #[.agg #[.int .i64 l, .int .i64 a], .nilIface]) (by simp [results, Tryd.results52, go_sem, c0_, c1_, lt_, ne_]) rfl ⟨rfl, by repeat (first | exact HB2.out | apply pw_below_drewN | apply below_alloc | refine below_set ?_ HLS.out | (refine below_set ?_ (Nat.le_trans HLS.out ?_); focus (simp; omega)))⟩
set_option maxRecDepth 100000 in
theorem detail_order (w0 w : World) (sb : Nat) (A : Option Addr) (c : Nat) (xs t r : List Int) (k l a p : Int) (b : Bool) (h : In w0 w sb A c xs k) (hx : nextP xs 68 23 = some (t, r)) (hl : fieldP t 5 6 = l) (ha : fieldP t 12 12 = a) (hp : fieldP t 1 4 = p) (hv : DDigits.validB (strOfNums ((t.drop 5).take 7)) = b) (hz : l ≠ 0) (hz2 : a ≠ 0) (hb : b = true) (hpk : p ≠ k) :
    Calls Tryd.prog 52 #[.pointer (some ⟨sb, 0, none⟩)] w fun e w' => e = .returned (.tuple #[.agg #[.int .i64 0, .int .i64 0], .iface 73 (.int .i64 202)]) ∧ Below (left sb A c xs r w).heap.size (left sb A c xs r w) w' := by
  have HN := Aside0.mk (next_W (n := 23) h 23 rfl (by omega) hx)
  obtain ⟨_, _, _, htl, _, t', ht, hdg⟩ := nextP_some hx
  have N1 := num_W t t' 68 ht hdg 5 6 (by omega) (by omega) (by omega) (by omega) 5 6 rfl rfl
  have N2 := num_W t t' 68 ht hdg 12 12 (by omega) (by omega) (by omega) (by omega) 12 12 rfl rfl
  have N3 := num_W t t' 68 ht hdg 1 4 (by omega) (by omega) (by omega) (by omega) 1 4 rfl rfl
  rw [hl] at N1
  rw [ha] at N2
  rw [hp] at N3
  have hs1 : (left sb A c xs r w).cell? ⟨sb, 1, none⟩ = some (.int .i64 k) := blk_cell (blk_set h.blk 0 _) 1
  have hsl : sb < (left sb A c xs r w).heap.size := by rw [left_size]; exact h.lt
  have SC : Aside0 (∀ W, Below (left sb A c xs r w).heap.size (left sb A c xs r w) W → W.cell? ⟨sb, 1, none⟩ = some (.int .i64 k)) := ⟨fun W hb => (hb.cell (p := ⟨sb, 1, none⟩) hsl).trans hs1⟩
  have hss : (strOfNums ((t.drop 5).take 7)).size = 7 := by rw [← bytesOf_length, bytesOf_str _ (fun x hx => by
    have := field_dig ht hdg 5 7 (by omega)
    rw [List.all_eq_true] at this
    have := this x hx
    simp only [isDig, decide_eq_true_eq] at this; omega), List.length_take, List.length_drop]; omega
  have VL : Aside0 (∀ W, Calls Tryd.prog 11 #[.string (strOfNums ((t.drop 5).take 7))] W fun e w' => e = .returned (.bool b) ∧ Drawn0 W w') := ⟨fun W => by rw [← hv]; exact DDigits.valid_calls _ (by omega) W⟩
  have hex : (strOfNums t).extract 5 12 = strOfNums ((t.drop 5).take 7) := extract_str t 5 12
  have hsz : (strOfNums t).size = 24 := by
    have h2 := congrArg List.length (strOf_toList t)
    rw [Lib.bytesOf, List.length_map, htl] at h2
    exact h2
  have HLS := Aside0.mk (Nat.le_of_eq (left_size sb A c xs r w))
  clear h hx hl ha hp hv ht hdg htl hs1 hsl hss
  subst hb
  have bl : (l == 0) = false := by rw [beq_eq_false_iff_ne]; exact hz
  have ba : (a == 0) = false := by rw [beq_eq_false_iff_ne]; exact hz2
  have bp : (p != k) = true := by simp [hpk]
  clear hz hz2 hpk
  generalize strOfNums ((t.drop 5).take 7) = u at *
  generalize strOfNums t = s at *
  generalize left sb A c xs r w = wl at *
  go_enter Tryd.func52, Tryd.ntmps52
  go_wp2_with (first
    | (go_at_call 64; (with_reducible refine (HN.out _ ?_).mono ?_); (repeat (first | exact Below.refl _ _ | apply pw_below_drewN | apply below_alloc)); rintro e w' ⟨rfl, hb, hk⟩; have HB := Aside0.mk hb; have BK := Aside0.mk (hk _ _ (Nat.le_refl _) (blk_new _ _)); clear hb hk)
    | (go_at_call 66; (with_reducible refine (N1.out _).mono ?_); rintro e w' ⟨rfl, hb⟩; replace BK := Aside0.mk (blk_below BK.out hb); replace HB := Aside0.mk (below_step HB.out hb); clear hb; have c0_ : w'.cell? ⟨w.heap.size, 0, none⟩ = some (.int .i64 0) := blk_cell BK.out 0; have z0_ := blk_frozen BK.out 0; have c1_ : w'.cell? ⟨w.heap.size, 1, none⟩ = some (.int .i64 0) := blk_cell BK.out 1; have z1_ := blk_frozen BK.out 1; have lt_ : w.heap.size < w'.heap.size := blk_lt BK.out; have ne_ : ¬ w.heap.size = w'.heap.size := Nat.ne_of_lt lt_)
    | (go_at_call 66; (with_reducible refine (N2.out _).mono ?_); rintro e w' ⟨rfl, hb⟩; replace BK := Aside0.mk (blk_below BK.out hb); replace HB := Aside0.mk (below_step HB.out hb); clear hb; have c0_ : w'.cell? ⟨w.heap.size, 0, none⟩ = some (.int .i64 0) := blk_cell BK.out 0; have z0_ := blk_frozen BK.out 0; have c1_ : w'.cell? ⟨w.heap.size, 1, none⟩ = some (.int .i64 0) := blk_cell BK.out 1; have z1_ := blk_frozen BK.out 1; have lt_ : w.heap.size < w'.heap.size := blk_lt BK.out; have ne_ : ¬ w.heap.size = w'.heap.size := Nat.ne_of_lt lt_)
    | (go_at_call 66; (with_reducible refine (N3.out _).mono ?_); rintro e w' ⟨rfl, hb⟩; replace BK := Aside0.mk (blk_below BK.out hb); replace HB := Aside0.mk (below_step HB.out hb); clear hb; have c0_ : w'.cell? ⟨w.heap.size, 0, none⟩ = some (.int .i64 0) := blk_cell BK.out 0; have z0_ := blk_frozen BK.out 0; have c1_ : w'.cell? ⟨w.heap.size, 1, none⟩ = some (.int .i64 0) := blk_cell BK.out 1; have z1_ := blk_frozen BK.out 1; have lt_ : w.heap.size < w'.heap.size := blk_lt BK.out; have ne_ : ¬ w.heap.size = w'.heap.size := Nat.ne_of_lt lt_)
    | (go_at_call 11; (with_reducible refine (VL.out _).mono ?_); rintro e w' ⟨rfl, ⟨nd, rfl⟩⟩))
  have DS0 : DS wl sb w.heap.size w'.heap.size k l a (w'.alloc (.cells #[.int .i64 l, .int .i64 a] 50)) := ⟨below_alloc HB.out _, blk_alloc BK.out _, blk_new _ _, (SC.out _ (below_alloc HB.out _))⟩
  replace DS0 := DS0.drewN nd
  have DS1 := DS0.lin
  have DS2 := Aside0.mk DS0
  clear DS0
  generalize (w'.alloc (.cells #[.int .i64 l, .int .i64 a] 50)).drewN nd = wr at *
  go_region_held3 (fun W => W.cell? ⟨sb, 1, none⟩ = some (.int .i64 k) ∧ Aside0 (DS wl sb w.heap.size w'.heap.size k l a W)) (first | exact keepD (Aside0.out (by assumption)) | exact keepD (DS.drew (Aside0.out (by assumption))) | exact keepD (DS.call (Aside0.out (by assumption)) (by assumption)) | exact keepD (DS.call (DS.drew (Aside0.out (by assumption))) (by assumption)))
    ((go_at_call 66; (with_reducible refine (N3.out _).mono ?_); rintro e w' ⟨rfl, hb⟩))
  rename_i hH
  have HD := hH.2
  clear hH hb DS1 DS2
  have c0_ : w'.cell? ⟨w.heap.size, 0, none⟩ = some (.int .i64 0) := blk_cell HD.out.res 0
  have c1_ : w'.cell? ⟨w.heap.size, 1, none⟩ = some (.int .i64 0) := blk_cell HD.out.res 1
  have z0_ := blk_frozen HD.out.res 0
  have z1_ := blk_frozen HD.out.res 1
  have i0_ := blk_cell HD.out.itm 0
  have i1_ := blk_cell HD.out.itm 1
  simp only [List.getElem?_toArray, List.getElem?_cons_zero, List.getElem?_cons_succ] at i0_ i1_
  have HB2 := Aside0.mk HD.out.bel
  go_wp2
  have hlt_ := blk_lt BK.out
  exact bodyPost_ret (v := .tuple #[.agg #[.int .i64 0, .int .i64 0], .iface 73 (.int .i64 202)]) (by simp [results, Tryd.results52, go_sem, c0_, c1_, lt_, ne_]) rfl ⟨rfl, by repeat (first | exact HB2.out | apply pw_below_drewN | apply below_alloc | refine below_set ?_ HLS.out | (refine below_set ?_ (Nat.le_trans HLS.out ?_); focus (simp; omega)))⟩
end Go.Proofs.YtkjdmbbaacjpmaaDoor.Reader
end
section
namespace Go.Proofs.YtkjdmbbaacjpmaaDoor.R
open Go.RowKit Go.Proofs.YtkjdmbbaacjpmaaDoorW.PrintWords Go.Proofs.YtkjdmbbaacjpmaaDoorW.PrintLast Go.Proofs.YtkjdmbbaacjpmaaDoorW.PrintMore
attribute [local go_sem] max2_int min2_int max_two min_two max_three min_three max_four min_four
set_option linter.unusedVariables false
set_option linter.unusedSimpArgs false
def lockbox_totals.l0 : Nat → Int → Int → List (S50) → Int → Int → Option (Int × Int)
  | 0, _, _, _, _, _ => none
  | k + 1, x4, x5, x8, x9, x10 => if x10 < x9 then (if 0 ≤ x10 then (if x10 < (x8.length : Int) then (lockbox_totals.l0 k (wrap64 (x4 + ((rd_T50 x8 x10).f1))) (Int.tmod (wrap64 (x5 + ((rd_T50 x8 x10).f0))) 10000000000) x8 x9 (wrap64 (x10 + 1))) else (none)) else (none)) else (some (x4, x5))
def lockbox_totals.f (k : Nat) (l0 : List (S50)) : Option (Int × Int) := lockbox_totals.l0 k 0 0 l0 (l0.length : Int) 0
theorem lockbox_totals.mono_l : ∀ k, (∀ y0 y1 y2 y3 y4, LeO (lockbox_totals.l0 k y0 y1 y2 y3 y4) (lockbox_totals.l0 (k + 1) y0 y1 y2 y3 y4))
  | 0 => fun _ _ _ _ _ r h => by simp [lockbox_totals.l0] at h
  | k + 1 => by
    have ih0 := lockbox_totals.mono_l k
    · intro y0 y1 y2 y3 y4
      unfold lockbox_totals.l0
      repeat' first
      | (with_reducible exact ih0 _ _ _ _ _)
      | (with_reducible exact LeO.refl _)
      | (with_reducible exact LeO.none _)
      | (with_reducible refine LeO.ite ?_ ?_)
      | (with_reducible refine LeO.bind ?_ (fun _ => ?_))
      | exact ih0 _ _ _ _ _
      | exact LeO.none _
      | refine LeO.ite ?_ ?_
      | refine LeO.bind ?_ (fun _ => ?_)
theorem lockbox_totals.mono : ∀ a0 k, LeO (lockbox_totals.f k a0) (lockbox_totals.f (k + 1) a0) := by
  intro a0 k
  have ih0 := lockbox_totals.mono_l k
  unfold lockbox_totals.f
  repeat' first
      | (with_reducible exact ih0 _ _ _ _ _)
      | (with_reducible exact LeO.refl _)
      | (with_reducible exact LeO.none _)
      | (with_reducible refine LeO.ite ?_ ?_)
      | (with_reducible refine LeO.bind ?_ (fun _ => ?_))
      | exact ih0 _ _ _ _ _
      | exact LeO.none _
      | refine LeO.ite ?_ ?_
      | refine LeO.bind ?_ (fun _ => ?_)
set_option maxHeartbeats 8000000 in
set_option maxRecDepth 100000 in
theorem lockbox_totals.calls (k : Nat) (A0 : Option Addr) (c0 : Nat) (l0 : List (S50)) (r1 : Int) (r2 : Int) (w : World) (hr0 : Kd.C k50 w A0 l0.length l0) (hc0 : l0.length ≤ c0) (h : lockbox_totals.f k l0 = some (r1, r2)) :
    Calls Tryd.prog 35 #[.slice A0 l0.length c0] w fun e w' => e = .returned (.tuple #[.int .i64 r1, .int .i64 r2]) ∧ Below w.heap.size w w' := by
  have hu50 := Tryd.underlying50
  have HR0 := Aside0.mk hr0
  have HC0 := Aside0.mk hc0
  clear hr0 hc0
  have HB := Aside0.mk (Below.refl w.heap.size w)
  have H : (lockbox_totals.l0 k 0 0 l0 (l0.length : Int) 0) = some (r1, r2) := h
  clear h
  have H' := Aside0.mk H
  clear H
  go_enter Tryd.func35, Tryd.ntmps35
  go_wp2
  go_loopg [4, 5, 10] k (fun kq v4 v5 v10 w' => ∃ (x4_1 : Int) (x5_1 : Int) (x10_1 : Int), v4 = .int .i64 x4_1 ∧ v5 = .int .i64 x5_1 ∧ v10 = .int .i64 x10_1 ∧ Aside0 (lockbox_totals.l0 kq x4_1 x5_1 l0 (l0.length : Int) x10_1 = some (r1, r2)) ∧ Aside0 (kq ≤ k) ∧ Aside0 (Below w.heap.size w w'))
  case atStart => exact ⟨(0), (0), (0), (by first | rfl | (simp; done) | (simp [*]; done)), (by first | rfl | (simp; done) | (simp [*]; done)), (by first | rfl | (simp; done) | (simp [*]; done)), H', ⟨Nat.le_refl _⟩, ⟨by repeat (first | (with_reducible first | exact HB.out | apply below_alloc | apply pw_below_drewN | apply below_drew1) | exact HB.out)⟩⟩
  case round =>
    clear H'
    obtain ⟨x4_1, x5_1, x10_1, rfl, rfl, rfl, HA, HK1, HB⟩ := hrel
    cases gk with
    | zero => exact absurd HA.out (by simp [lockbox_totals.l0])
    | succ k1 =>
      have H := HA.out
      clear HA
      simp only [lockbox_totals.l0] at H
      by_cases c2 : x10_1 < (l0.length : Int)
      · rw [if_pos c2] at H
        have c2b0 : decide (x10_1 < (l0.length : Int)) = true := decide_eq_true c2
        clear c2
        by_cases c3 : 0 ≤ x10_1
        · rw [if_pos c3] at H
          have c3b0 : decide (0 ≤ x10_1) = true := decide_eq_true c3
          clear c3
          by_cases c4 : x10_1 < (l0.length : Int)
          · rw [if_pos c4] at H
            have c4b0 : decide (x10_1 < (l0.length : Int)) = true := decide_eq_true c4
            clear c4
            have H' := Aside0.mk H
            clear H
            have p254 : 0 ≤ (x10_1 : Int) := of_decide_eq_true (by first | (with_reducible assumption) | assumption)
            have q254 : x10_1 < (l0.length : Int) := of_decide_eq_true (by first | (with_reducible assumption) | assumption)
            obtain ⟨ad254, e254, hx254_0, hx254_1⟩ := at_T50 HR0.out x10_1 p254 q254
            cases e254
            replace hx254_0 := (HB.out.cell (World.block_lt_of_cell? w _ hx254_0)).trans hx254_0
            replace hx254_1 := (HB.out.cell (World.block_lt_of_cell? w _ hx254_1)).trans hx254_1
            replace p254 := eq_true p254
            replace q254 := eq_true q254
            go_wp2_with (first | ((with_reducible refine gate_dst (N := 7) rfl ?_); refine box_event ?hg (N := 7) ?hd (cs := #[.int .i64 0, .int .i64 0]) (t := 50) ?hr ?_; (case hd => rfl); (case hg => rfl); (case hr => first | (go_simp; done) | (go_simp; rfl)); intro gb255 hg w5 hbox hb; have n0_ := Aside0.mk (below_step (by repeat (first | (with_reducible first | exact HB.out | apply below_alloc | apply pw_below_drewN | apply below_drew1) | exact HB.out)) hb); have n1_ := Aside0.mk (hbox); have n2_ := Aside0.mk ((by rw [hg]; exact (below_size (by repeat (first | (with_reducible first | exact HB.out | apply below_alloc | apply pw_below_drewN | apply below_drew1) | exact HB.out))) : w.heap.size ≤ gb255)); have n3_ := Aside0.mk ((by rw [hg]; exact (below_size (by repeat (first | (with_reducible first | exact HB.out | apply below_alloc | apply pw_below_drewN | apply below_drew1) | exact HB.out))) : w.heap.size ≤ gb255)); clear HB; have HB := n0_; have BK255 := n1_; have GW255 := n2_; have GE255 := n3_; clear n0_ n1_ n2_ n3_; clear hb hbox hg; have hcz6_0 : w5.cell? ⟨gb255, 0, none⟩ = some (.int .i64 0) := (blk_cell BK255.out 0).trans rfl; have hcz6_1 : w5.cell? ⟨gb255, 1, none⟩ = some (.int .i64 0) := (blk_cell BK255.out 1).trans rfl; have hfz6_0 := blk_frozen BK255.out 0; have hfz6_1 := blk_frozen BK255.out 1))
            go_roundg k1
            case measure => have := HK1.out; omega
            case rel => exact ⟨(wrap64 (x4_1 + ((rd_T50 l0 x10_1).f1))), (Int.tmod (wrap64 (x5_1 + ((rd_T50 l0 x10_1).f0))) 10000000000), (wrap64 (x10_1 + 1)), (by first | rfl | (simp; done) | (simp [*]; done)), (by first | rfl | (simp; done) | (simp [*]; done)), (by first | rfl | (simp; done) | (simp [*]; done)), H', ⟨by have := HK1.out; omega⟩, ⟨by repeat (first | (with_reducible first | exact HB.out | apply below_alloc | apply pw_below_drewN | apply below_drew1 | refine below_set ?_ GE255.out) | exact HB.out)⟩⟩
          · rw [if_neg c4] at H
            exact absurd H (by simp)
        · rw [if_neg c3] at H
          exact absurd H (by simp)
      · rw [if_neg c2] at H
        have c2b0 : decide (x10_1 < (l0.length : Int)) = false := decide_eq_false c2
        clear c2
        simp only [Option.some.injEq, Prod.mk.injEq] at H
        obtain ⟨rfl, rfl⟩ := H
        go_wp2
        go_ret2
        exact ⟨by first | rfl | (simp [errW_none, errW_some] <;> rfl) | (simp [*, errW_none, errW_some] <;> rfl), by repeat (first | (with_reducible first | exact HB.out | apply below_alloc | apply pw_below_drewN | apply below_drew1) | exact HB.out)⟩
end Go.Proofs.YtkjdmbbaacjpmaaDoor.R
end
section
namespace Go.Proofs.YtkjdmbbaacjpmaaDoor.Reader
open Go.RowKit Go.Proofs.YtkjdmbbaacjpmaaDoor.Scan Go.Proofs.YtkjdmbbaacjpmaaDoorW.PrintWords Go.Proofs.YtkjdmbbaacjpmaaDoorW.PrintLast
set_option linter.unusedVariables false
set_option linter.unusedSimpArgs false
set_option maxRecDepth 100000 in
theorem trailer_no (w0 w : World) (sb : Nat) (A : Option Addr) (c : Nat) (xs : List Int) (k : Int) (v : Value) (h : In w0 w sb A c xs k) (hx : nextP xs 84 30 = none) :
    Calls Tryd.prog 53 #[.pointer (some ⟨sb, 0, none⟩), v] w fun e w' => e = .returned (.iface 73 (.int .i64 200)) ∧ Drawn0 w w' := by
  have HN : Aside0 (∀ W, Below w.heap.size w W → Calls Tryd.prog 64 #[.pointer (some ⟨sb, 0, none⟩), .int .u8 84, .int .i64 30] W fun e w' => e = .returned (.tuple #[.string ⟨#[]⟩, .iface 73 (.int .i64 200)]) ∧ Drawn0 W w') :=
    ⟨fun W hb => next_no sb A c xs 84 30 W (h.step hb).here (h.step hb).s0 (by omega) hx⟩
  clear h hx
  go_enter Tryd.func53, Tryd.ntmps53
  go_wp2_with (first | (go_at_call 64; (with_reducible refine (HN.out _ ?_).mono ?_); (repeat (first | exact Below.refl _ _ | apply pw_below_drewN | apply below_alloc)); rintro e w' ⟨rfl, ⟨nd, rfl⟩⟩))
  go_ret
  exact ⟨rfl, ⟨nd, rfl⟩⟩
set_option maxRecDepth 100000 in
theorem trailer_ok (w0 w : World) (sb : Nat) (A : Option Addr) (c : Nat) (xs t r : List Int) (k p1 p2 p3 s1 s2 : Int) (Ai : Option Addr) (ci kt : Nat) (items : List R.S50) (h : In w0 w sb A c xs k) (hx : nextP xs 84 30 = some (t, r)) (h1 : fieldP t 1 4 = p1) (h2 : fieldP t 5 16 = p2) (h3 : fieldP t 21 10 = p3)
    (hI : Kd.C R.k50 (left sb A c xs r w) Ai items.length items) (hci : items.length ≤ ci) (hil : items.length ≤ 100000) (ht : R.lockbox_totals.f kt items = some (s1, s2)) (e1 : p1 = items.length) (e2 : s1 = p2) (e3 : s2 = p3) :
    Calls Tryd.prog 53 #[.pointer (some ⟨sb, 0, none⟩), .slice Ai items.length ci] w fun e w' => e = .returned (.nilIface) ∧ Below (left sb A c xs r w).heap.size (left sb A c xs r w) w' := by
  have HN := Aside0.mk (next_W (n := 30) h 30 rfl (by omega) hx)
  obtain ⟨_, _, _, htl, _, t', hht, hdg⟩ := nextP_some hx
  have N1 := num_W t t' 84 hht hdg 1 4 (by omega) (by omega) (by omega) (by omega) 1 4 rfl rfl
  have N2 := num_W t t' 84 hht hdg 5 16 (by omega) (by omega) (by omega) (by omega) 5 16 rfl rfl
  have N3 := num_W t t' 84 hht hdg 21 10 (by omega) (by omega) (by omega) (by omega) 21 10 rfl rfl
  rw [h1] at N1
  rw [h2] at N2
  rw [h3] at N3
  have NT : Aside0 (∀ W, Below (left sb A c xs r w).heap.size (left sb A c xs r w) W → Calls Tryd.prog 35 #[.slice Ai items.length ci] W fun e w' => e = .returned (.tuple #[.int .i64 s1, .int .i64 s2]) ∧ Below W.heap.size W w') :=
    ⟨fun W hb => R.lockbox_totals.calls kt Ai ci items s1 s2 W (Kd.C_below hI hb) hci ht⟩
  have HLS := Aside0.mk (Nat.le_of_eq (left_size sb A c xs r w))
  clear h hx hht hdg htl h1 h2 h3 hI ht
  generalize hLen : items.length = nI at *
  subst e1 e2 e3
  clear hLen
  generalize strOfNums t = s at *
  generalize left sb A c xs r w = wl at *
  go_enter Tryd.func53, Tryd.ntmps53
  go_wp2_with (first
    | (go_at_call 64; (with_reducible refine (HN.out _ ?_).mono ?_); (repeat (first | exact Below.refl _ _ | apply pw_below_drewN | apply below_alloc)); rintro e w' ⟨rfl, hb, hk⟩; have HB := Aside0.mk hb; clear hb hk)
    | (go_at_call 35; (with_reducible refine (NT.out _ HB.out).mono ?_); rintro e w' ⟨rfl, hb⟩; replace HB := Aside0.mk (below_step HB.out hb); clear hb)
    | (go_at_call 66; (with_reducible refine (N1.out _).mono ?_); rintro e w' ⟨rfl, hb⟩; replace HB := Aside0.mk (below_step HB.out hb); clear hb)
    | (go_at_call 66; (with_reducible refine (N2.out _).mono ?_); rintro e w' ⟨rfl, hb⟩; replace HB := Aside0.mk (below_step HB.out hb); clear hb)
    | (go_at_call 66; (with_reducible refine (N3.out _).mono ?_); rintro e w' ⟨rfl, hb⟩; replace HB := Aside0.mk (below_step HB.out hb); clear hb))
  go_ret
  exact ⟨rfl, HB.out⟩
set_option maxRecDepth 100000 in
theorem trailer_1 (w0 w : World) (sb : Nat) (A : Option Addr) (c : Nat) (xs t r : List Int) (k p1 p2 p3 s1 s2 : Int) (Ai : Option Addr) (ci kt : Nat) (items : List R.S50) (h : In w0 w sb A c xs k) (hx : nextP xs 84 30 = some (t, r)) (h1 : fieldP t 1 4 = p1) (h2 : fieldP t 5 16 = p2) (h3 : fieldP t 21 10 = p3)
    (hI : Kd.C R.k50 (left sb A c xs r w) Ai items.length items) (hci : items.length ≤ ci) (hil : items.length ≤ 100000) (ht : R.lockbox_totals.f kt items = some (s1, s2)) (e1 : p1 ≠ items.length) :
    Calls Tryd.prog 53 #[.pointer (some ⟨sb, 0, none⟩), .slice Ai items.length ci] w fun e w' => e = .returned (.iface 73 (.int .i64 203)) ∧ Below (left sb A c xs r w).heap.size (left sb A c xs r w) w' := by
  have HN := Aside0.mk (next_W (n := 30) h 30 rfl (by omega) hx)
  obtain ⟨_, _, _, htl, _, t', hht, hdg⟩ := nextP_some hx
  have N1 := num_W t t' 84 hht hdg 1 4 (by omega) (by omega) (by omega) (by omega) 1 4 rfl rfl
  have N2 := num_W t t' 84 hht hdg 5 16 (by omega) (by omega) (by omega) (by omega) 5 16 rfl rfl
  have N3 := num_W t t' 84 hht hdg 21 10 (by omega) (by omega) (by omega) (by omega) 21 10 rfl rfl
  rw [h1] at N1
  rw [h2] at N2
  rw [h3] at N3
  have NT : Aside0 (∀ W, Below (left sb A c xs r w).heap.size (left sb A c xs r w) W → Calls Tryd.prog 35 #[.slice Ai items.length ci] W fun e w' => e = .returned (.tuple #[.int .i64 s1, .int .i64 s2]) ∧ Below W.heap.size W w') :=
    ⟨fun W hb => R.lockbox_totals.calls kt Ai ci items s1 s2 W (Kd.C_below hI hb) hci ht⟩
  have HLS := Aside0.mk (Nat.le_of_eq (left_size sb A c xs r w))
  clear h hx hht hdg htl h1 h2 h3 hI ht
  generalize hLen : items.length = nI at *
  have b1 : (p1 != (nI : Int)) = true := by simp [e1]
  clear e1
  clear hLen
  generalize strOfNums t = s at *
  generalize left sb A c xs r w = wl at *
  go_enter Tryd.func53, Tryd.ntmps53
  go_wp2_with (first
    | (go_at_call 64; (with_reducible refine (HN.out _ ?_).mono ?_); (repeat (first | exact Below.refl _ _ | apply pw_below_drewN | apply below_alloc)); rintro e w' ⟨rfl, hb, hk⟩; have HB := Aside0.mk hb; clear hb hk)
    | (go_at_call 35; (with_reducible refine (NT.out _ HB.out).mono ?_); rintro e w' ⟨rfl, hb⟩; replace HB := Aside0.mk (below_step HB.out hb); clear hb)
    | (go_at_call 66; (with_reducible refine (N1.out _).mono ?_); rintro e w' ⟨rfl, hb⟩; replace HB := Aside0.mk (below_step HB.out hb); clear hb)
    | (go_at_call 66; (with_reducible refine (N2.out _).mono ?_); rintro e w' ⟨rfl, hb⟩; replace HB := Aside0.mk (below_step HB.out hb); clear hb)
    | (go_at_call 66; (with_reducible refine (N3.out _).mono ?_); rintro e w' ⟨rfl, hb⟩; replace HB := Aside0.mk (below_step HB.out hb); clear hb))
  go_ret
  exact ⟨rfl, HB.out⟩
set_option maxRecDepth 100000 in
theorem trailer_2 (w0 w : World) (sb : Nat) (A : Option Addr) (c : Nat) (xs t r : List Int) (k p1 p2 p3 s1 s2 : Int) (Ai : Option Addr) (ci kt : Nat) (items : List R.S50) (h : In w0 w sb A c xs k) (hx : nextP xs 84 30 = some (t, r)) (h1 : fieldP t 1 4 = p1) (h2 : fieldP t 5 16 = p2) (h3 : fieldP t 21 10 = p3)
    (hI : Kd.C R.k50 (left sb A c xs r w) Ai items.length items) (hci : items.length ≤ ci) (hil : items.length ≤ 100000) (ht : R.lockbox_totals.f kt items = some (s1, s2)) (e1 : p1 = items.length) (e2 : p2 ≠ s1) :
    Calls Tryd.prog 53 #[.pointer (some ⟨sb, 0, none⟩), .slice Ai items.length ci] w fun e w' => e = .returned (.iface 73 (.int .i64 203)) ∧ Below (left sb A c xs r w).heap.size (left sb A c xs r w) w' := by
  have HN := Aside0.mk (next_W (n := 30) h 30 rfl (by omega) hx)
  obtain ⟨_, _, _, htl, _, t', hht, hdg⟩ := nextP_some hx
  have N1 := num_W t t' 84 hht hdg 1 4 (by omega) (by omega) (by omega) (by omega) 1 4 rfl rfl
  have N2 := num_W t t' 84 hht hdg 5 16 (by omega) (by omega) (by omega) (by omega) 5 16 rfl rfl
  have N3 := num_W t t' 84 hht hdg 21 10 (by omega) (by omega) (by omega) (by omega) 21 10 rfl rfl
  rw [h1] at N1
  rw [h2] at N2
  rw [h3] at N3
  have NT : Aside0 (∀ W, Below (left sb A c xs r w).heap.size (left sb A c xs r w) W → Calls Tryd.prog 35 #[.slice Ai items.length ci] W fun e w' => e = .returned (.tuple #[.int .i64 s1, .int .i64 s2]) ∧ Below W.heap.size W w') :=
    ⟨fun W hb => R.lockbox_totals.calls kt Ai ci items s1 s2 W (Kd.C_below hI hb) hci ht⟩
  have HLS := Aside0.mk (Nat.le_of_eq (left_size sb A c xs r w))
  clear h hx hht hdg htl h1 h2 h3 hI ht
  generalize hLen : items.length = nI at *
  subst e1
  have b2 : (p2 != s1) = true := by simp [e2]
  clear e2
  clear hLen
  generalize strOfNums t = s at *
  generalize left sb A c xs r w = wl at *
  go_enter Tryd.func53, Tryd.ntmps53
  go_wp2_with (first
    | (go_at_call 64; (with_reducible refine (HN.out _ ?_).mono ?_); (repeat (first | exact Below.refl _ _ | apply pw_below_drewN | apply below_alloc)); rintro e w' ⟨rfl, hb, hk⟩; have HB := Aside0.mk hb; clear hb hk)
    | (go_at_call 35; (with_reducible refine (NT.out _ HB.out).mono ?_); rintro e w' ⟨rfl, hb⟩; replace HB := Aside0.mk (below_step HB.out hb); clear hb)
    | (go_at_call 66; (with_reducible refine (N1.out _).mono ?_); rintro e w' ⟨rfl, hb⟩; replace HB := Aside0.mk (below_step HB.out hb); clear hb)
    | (go_at_call 66; (with_reducible refine (N2.out _).mono ?_); rintro e w' ⟨rfl, hb⟩; replace HB := Aside0.mk (below_step HB.out hb); clear hb)
    | (go_at_call 66; (with_reducible refine (N3.out _).mono ?_); rintro e w' ⟨rfl, hb⟩; replace HB := Aside0.mk (below_step HB.out hb); clear hb))
  go_ret
  exact ⟨rfl, HB.out⟩
set_option maxRecDepth 100000 in
theorem trailer_3 (w0 w : World) (sb : Nat) (A : Option Addr) (c : Nat) (xs t r : List Int) (k p1 p2 p3 s1 s2 : Int) (Ai : Option Addr) (ci kt : Nat) (items : List R.S50) (h : In w0 w sb A c xs k) (hx : nextP xs 84 30 = some (t, r)) (h1 : fieldP t 1 4 = p1) (h2 : fieldP t 5 16 = p2) (h3 : fieldP t 21 10 = p3)
    (hI : Kd.C R.k50 (left sb A c xs r w) Ai items.length items) (hci : items.length ≤ ci) (hil : items.length ≤ 100000) (ht : R.lockbox_totals.f kt items = some (s1, s2)) (e1 : p1 = items.length) (e2 : s1 = p2) (e3 : p3 ≠ s2) :
    Calls Tryd.prog 53 #[.pointer (some ⟨sb, 0, none⟩), .slice Ai items.length ci] w fun e w' => e = .returned (.iface 73 (.int .i64 203)) ∧ Below (left sb A c xs r w).heap.size (left sb A c xs r w) w' := by
  have HN := Aside0.mk (next_W (n := 30) h 30 rfl (by omega) hx)
  obtain ⟨_, _, _, htl, _, t', hht, hdg⟩ := nextP_some hx
  have N1 := num_W t t' 84 hht hdg 1 4 (by omega) (by omega) (by omega) (by omega) 1 4 rfl rfl
  have N2 := num_W t t' 84 hht hdg 5 16 (by omega) (by omega) (by omega) (by omega) 5 16 rfl rfl
  have N3 := num_W t t' 84 hht hdg 21 10 (by omega) (by omega) (by omega) (by omega) 21 10 rfl rfl
  rw [h1] at N1
  rw [h2] at N2
  rw [h3] at N3
  have NT : Aside0 (∀ W, Below (left sb A c xs r w).heap.size (left sb A c xs r w) W → Calls Tryd.prog 35 #[.slice Ai items.length ci] W fun e w' => e = .returned (.tuple #[.int .i64 s1, .int .i64 s2]) ∧ Below W.heap.size W w') :=
    ⟨fun W hb => R.lockbox_totals.calls kt Ai ci items s1 s2 W (Kd.C_below hI hb) hci ht⟩
  have HLS := Aside0.mk (Nat.le_of_eq (left_size sb A c xs r w))
  clear h hx hht hdg htl h1 h2 h3 hI ht
  generalize hLen : items.length = nI at *
  subst e1 e2
  have b3 : (p3 != s2) = true := by simp [e3]
  clear e3
  clear hLen
  generalize strOfNums t = s at *
  generalize left sb A c xs r w = wl at *
  go_enter Tryd.func53, Tryd.ntmps53
  go_wp2_with (first
    | (go_at_call 64; (with_reducible refine (HN.out _ ?_).mono ?_); (repeat (first | exact Below.refl _ _ | apply pw_below_drewN | apply below_alloc)); rintro e w' ⟨rfl, hb, hk⟩; have HB := Aside0.mk hb; clear hb hk)
    | (go_at_call 35; (with_reducible refine (NT.out _ HB.out).mono ?_); rintro e w' ⟨rfl, hb⟩; replace HB := Aside0.mk (below_step HB.out hb); clear hb)
    | (go_at_call 66; (with_reducible refine (N1.out _).mono ?_); rintro e w' ⟨rfl, hb⟩; replace HB := Aside0.mk (below_step HB.out hb); clear hb)
    | (go_at_call 66; (with_reducible refine (N2.out _).mono ?_); rintro e w' ⟨rfl, hb⟩; replace HB := Aside0.mk (below_step HB.out hb); clear hb)
    | (go_at_call 66; (with_reducible refine (N3.out _).mono ?_); rintro e w' ⟨rfl, hb⟩; replace HB := Aside0.mk (below_step HB.out hb); clear hb))
  go_ret
  exact ⟨rfl, HB.out⟩
end Go.Proofs.YtkjdmbbaacjpmaaDoor.Reader
end
section
namespace Go.Proofs.YtkjdmbbaacjpmaaDoor.Reader
open Go.RowKit Go.Proofs.YtkjdmbbaacjpmaaDoor.Scan Go.Proofs.YtkjdmbbaacjpmaaDoorW.PrintWords Go.Proofs.YtkjdmbbaacjpmaaDoorW.PrintLast Go.Proofs.YtkjdmbbaacjpmaaDoor.R
set_option linter.unusedVariables false
set_option linter.unusedSimpArgs false
def totF : Int × Int → List S50 → Int × Int
  | p, [] => p
  | p, x :: t => totF (wrap64 (p.1 + x.f1), Int.tmod (wrap64 (p.2 + x.f0)) 10000000000) t
def totP (l : List S50) : Int × Int := totF (0, 0) l
def headP (xs : List Int) : Option ((Int × Int) × List Int) :=
  (nextP xs 72 14).bind fun tr => if (headD tr.1).2 = true ∧ fieldP tr.1 9 6 ≠ 0 then some (((headD tr.1).1, fieldP tr.1 9 6), tr.2) else none
def detP (xs : List Int) (k : Int) : Except Int (S50 × List Int) :=
  match nextP xs 68 23 with
  | none => .error 200
  | some (t, r) => if fieldP t 5 6 = 0 ∨ fieldP t 12 12 = 0 then .error 200 else if DDigits.validB (strOfNums ((t.drop 5).take 7)) = false then .error 201 else if fieldP t 1 4 ≠ k then .error 202 else .ok (⟨fieldP t 5 6, fieldP t 12 12⟩, r)
def trlP (xs : List Int) (l : List S50) : Except Int (List Int) :=
  match nextP xs 84 30 with
  | none => .error 200
  | some (t, r) => if fieldP t 1 4 = l.length ∧ (totP l).1 = fieldP t 5 16 ∧ (totP l).2 = fieldP t 21 10 then .ok r else .error 203
def brk (xs : List Int) (k : Int) : Bool := decide (9999 < k) || (decide (1 < k) && (xs.head? == some 84))
def endP (xs : List Int) (k : Int) (l : List S50) : Except (Int × Int) (List S50) :=
  match trlP xs l with
  | .error c => .error (c, k)
  | .ok r => if r = [] then .ok l else .error (200, k + 1)
def loopP : Nat → List Int → Int → List S50 → Except (Int × Int) (List S50)
  | 0, _, _, _ => .error (0, 0)
  | f + 1, xs, k, l => if brk xs k = true then endP xs k l else match detP xs k with
    | .error c => .error (c, k)
    | .ok (x, r) => loopP f r (k + 1) (l ++ [x])
def readP (xs : List Int) : Except (Int × Int) ((Int × Int) × List S50) :=
  match headP xs with
  | none => .error (200, 0)
  | some (dn, r) => (loopP 10001 r 1 []).map fun l => (dn, l)
theorem totals_loop (l : List S50) (hl : l.length ≤ 100000) : ∀ (d i : Nat), i + d = l.length → ∀ (p : Int × Int) (k : Nat), d < k →
    lockbox_totals.l0 k p.1 p.2 l (l.length : Int) i = some (totF p (l.drop i)) := by
  intro d
  induction d with
  | zero =>
    intro i hi p k hk
    obtain ⟨k, rfl⟩ : ∃ m, k = m + 1 := ⟨k - 1, by omega⟩
    simp only [lockbox_totals.l0]
    rw [if_neg (by omega), List.drop_eq_nil_of_le (by omega)]
    rfl
  | succ d ih =>
    intro i hi p k hk
    obtain ⟨k, rfl⟩ : ∃ m, k = m + 1 := ⟨k - 1, by omega⟩
    have hlt : i < l.length := by omega
    have hw : wrap64 ((i : Int) + 1) = ((i + 1 : Nat) : Int) := by unfold wrap64; omega
    simp only [lockbox_totals.l0]
    rw [if_pos (by omega), if_pos (by omega), if_pos (by omega), hw]
    have := ih (i + 1) (by omega) (wrap64 (p.1 + (rd_T50 l i).f1), Int.tmod (wrap64 (p.2 + (rd_T50 l i).f0)) 10000000000) k (by omega)
    simp only at this
    rw [this]
    have hr : rd_T50 l i = l[i] := by unfold rd_T50; rw [Int.toNat_natCast, List.getD_eq_getElem?_getD, List.getElem?_eq_getElem hlt]; rfl
    rw [hr, List.drop_eq_getElem_cons hlt]
    rfl
theorem totals_run (l : List S50) (hl : l.length ≤ 100000) : lockbox_totals.f (l.length + 1) l = some ((totP l).1, (totP l).2) := by
  have := totals_loop l hl l.length 0 (by omega) (0, 0) (l.length + 1) (by omega)
  simpa [lockbox_totals.f, totP] using this
theorem At.left {w : World} {A : Option Addr} {c : Nat} {xs : List Int} (h : At w A c xs) (he : eol xs < xs.length) : At w (cutA A c (eol xs)) (c - (eol xs + 1)) (xs.drop (eol xs + 1)) := by
  have hc := h.cap
  have hl : (xs.drop (eol xs + 1)).length = xs.length - (eol xs + 1) := List.length_drop
  refine ⟨by rw [hl]; omega, by have := h.big; omega, fun x hx => h.byt x (List.mem_of_mem_drop hx), ?_, ?_⟩
  · have := Kd.C_drop (m := eol xs + 1) (c := c) h.C (by omega) hc
    rw [hl]
    unfold cutA
    simpa [show (Kd.int .u8).sz = 1 from rfl] using this
  · unfold cutA
    rcases h.adr with ⟨rfl, rfl⟩ | ⟨b, o, rfl⟩
    · omega
    · refine .inr ?_
      split
      · exact ⟨b, o, rfl⟩
      · exact ⟨b, o + (eol xs + 1), rfl⟩
structure LS (w0 W : World) (rb sb bb : Nat) (A : Option Addr) (c : Nat) (xs : List Int) (k d n : Int) (v : Value) (l : List S50) : Prop where
  inn : In w0 W sb A c xs k
  res : W.heap[rb]? = some (.cells #[.int .i64 0, .int .i64 0, .slice none 0 0] 32 (0, 0))
  bat : W.heap[bb]? = some (.cells #[.int .i64 d, .int .i64 n, v] 32 (0, 0))
  row : Kd.R k50 50 W w0.heap.size (fun _ => True) v l
  rge : w0.heap.size ≤ rb
  bge : w0.heap.size ≤ bb
  ne1 : rb ≠ sb
  ne2 : bb ≠ sb
  ne3 : rb ≠ bb
section
variable {w0 W W2 : World} {rb sb bb : Nat} {A : Option Addr} {c : Nat} {xs r : List Int} {k d n : Int} {v : Value} {l : List S50}
theorem LS.below (h : LS w0 W rb sb bb A c xs k d n v l) (hb : Below W.heap.size W W2) : LS w0 W2 rb sb bb A c xs k d n v l :=
  ⟨h.inn.step hb, blk_below h.res hb, blk_below h.bat hb, Kd.R_below h.row hb, h.rge, h.bge, h.ne1, h.ne2, h.ne3⟩
theorem LS.drewN (h : LS w0 W rb sb bb A c xs k d n v l) (m : Nat) : LS w0 (W.drewN m) rb sb bb A c xs k d n v l := h.below (pw_below_drewN (Below.refl _ _) m)
theorem LS.drew (h : LS w0 W rb sb bb A c xs k d n v l) : LS w0 W.drew rb sb bb A c xs k d n v l := h.below (Below.refl _ _).drew
theorem LS.alloc (h : LS w0 W rb sb bb A c xs k d n v l) (o : Obj) : LS w0 (W.alloc o) rb sb bb A c xs k d n v l := h.below (below_alloc (Below.refl _ _) o)
theorem LS.left (h : LS w0 W rb sb bb A c xs k d n v l) (he : eol xs < xs.length) (hr : r = xs.drop (eol xs + 1)) :
    LS w0 (left sb A c xs r W) rb sb bb (cutA A c (eol xs)) (c - (eol xs + 1)) r k d n v l := by
  subst hr
  refine ⟨⟨h.inn.at_.left he, h.inn.tab, below_set h.inn.bel h.inn.ge, h.inn.ge, ?_⟩, ?_, ?_, ?_, h.rge, h.bge, h.ne1, h.ne2, h.ne3⟩
  · exact blk_put h.inn.blk 0 _ rfl
  · exact blk_far h.res h.ne1 _
  · exact blk_far h.bat h.ne2 _
  · exact Kd.R_set h.row h.inn.blk (by decide) 0 _
theorem LS.taken (h : LS w0 W rb sb bb A c xs k d n v l) (he : eol xs < xs.length) (hr : r = xs.drop (eol xs + 1)) (hb : Below (Reader.left sb A c xs r W).heap.size (Reader.left sb A c xs r W) W2) :
    LS w0 W2 rb sb bb (cutA A c (eol xs)) (c - (eol xs + 1)) r k d n v l := (h.left he hr).below hb
theorem LS.line (h : LS w0 W rb sb bb A c xs k d n v l) (j : Int) : LS w0 (W.setCell ⟨sb, 1, none⟩ (.int .i64 j)) rb sb bb A c xs j d n v l :=
  ⟨⟨h.inn.at_, h.inn.tab, below_set h.inn.bel h.inn.ge, h.inn.ge, blk_put h.inn.blk 1 _ rfl⟩, blk_far h.res h.ne1 _, blk_far h.bat h.ne2 _, Kd.R_set h.row h.inn.blk (by decide) 1 _, h.rge, h.bge, h.ne1, h.ne2, h.ne3⟩
theorem LS.app (h : LS w0 W rb sb bb A c xs k d n v l) {v1 : Value} {l1 : List S50} (hR : Kd.R k50 50 W2 w0.heap.size (fun _ => True) v1 l1) (hB : Below w0.heap.size w0 W2) (hg : W.grownBy W2 v.ownBlock) :
    LS w0 (W2.setCell ⟨bb, 2, none⟩ v1) rb sb bb A c xs k d n v1 l1 := by
  have hs : W2.heap[sb]? = _ := blk_grown h.inn.blk hg (Kd.R_ne h.row h.inn.blk (by decide))
  have hr : W2.heap[rb]? = _ := blk_grown h.res hg (Kd.R_ne h.row h.res (by decide))
  have hb : W2.heap[bb]? = _ := blk_grown h.bat hg (Kd.R_ne h.row h.bat (by decide))
  exact ⟨⟨h.inn.at_, h.inn.tab, below_set hB h.bge, h.inn.ge, blk_far hs (Ne.symm h.ne2) _⟩, blk_far hr h.ne3 _, blk_put hb 2 _ rfl, Kd.R_set hR hb (by decide) 2 _, h.rge, h.bge, h.ne1, h.ne2, h.ne3⟩
end
end Go.Proofs.YtkjdmbbaacjpmaaDoor.Reader
end
section
namespace Go.Proofs.YtkjdmbbaacjpmaaDoor.Reads
open Go.RowKit Go.Proofs.YtkjdmbbaacjpmaaDoor.R Go.Proofs.YtkjdmbbaacjpmaaDoor.Scan Go.Proofs.YtkjdmbbaacjpmaaDoor.Reader Go.Proofs.YtkjdmbbaacjpmaaDoorW.PrintWords
open Go.Proofs.YtkjdmbbaacjpmaaDoor.DDigits (wrN)
theorem wrI {i : Int} (h0 : -1000000000000000000 ≤ i) (h : i ≤ 1000000000000000000) : wrap64 i = i := by unfold wrap64; omega
theorem rdN (l : List Int) (j : Nat) (h : j < l.length) : rd l (j : Int) = l[j] := by
  unfold rd; rw [Int.toNat_natCast, List.getD_eq_getElem?_getD, List.getElem?_eq_getElem h]; rfl
def linesP : List Int → List Int → List (List Int) × Bool
  | cur, [] => ([], decide (cur ≠ []))
  | cur, x :: t => if x = 10 then (cur :: (linesP [] t).1, (linesP [] t).2) else linesP (cur ++ [x]) t
theorem lines_loop (xs : List Int) (hl : xs.length ≤ 1000000000000) (d : Nat) : ∀ (i b : Nat) (acc : List (List Int)), i + d = xs.length → b ≤ i → acc.length ≤ i →
    Ev (fun k => arrearsref20_lines.l0 k xs acc b i) (acc ++ (linesP ((xs.take i).drop b) (xs.drop i)).1, (linesP ((xs.take i).drop b) (xs.drop i)).2) := by
  induction d with
  | zero =>
    intro i b acc h hb ha
    rw [List.drop_eq_nil_of_le (by omega : xs.length ≤ i)]
    refine Ev.congr (g := fun k => arrearsref20_lines.l0 k xs acc b i) (f := fun k => arrearsref20_lines.l0 k xs acc b i) (fun _ => rfl) ?_
    refine Ev.step (fun k => ?_) (Ev.now _)
    simp only [arrearsref20_lines.l0, linesP, List.append_nil]
    rw [if_neg (by omega)]
    congr 2
    rw [decide_eq_decide]
    rw [ne_eq, List.drop_eq_nil_iff, List.length_take]
    omega
  | succ d ih =>
    intro i b acc h hb ha
    have hi : i < xs.length := by omega
    rw [List.drop_eq_getElem_cons hi]
    by_cases h10 : xs[i] = 10
    · have e := ih (i + 1) (i + 1) (acc ++ [(xs.take i).drop b]) (by omega) (by omega) (by rw [List.length_append]; simp; omega)
      rw [List.drop_eq_nil_of_le (by rw [List.length_take]; omega : (xs.take (i + 1)).length ≤ i + 1)] at e
      have e2 : linesP ((xs.take i).drop b) (xs[i] :: xs.drop (i + 1)) = (((xs.take i).drop b) :: (linesP [] (xs.drop (i + 1))).1, (linesP [] (xs.drop (i + 1))).2) := by
        simp only [linesP]; rw [if_pos h10]
      rw [e2]
      simp only [List.append_assoc, List.singleton_append] at e
      refine Ev.step (fun k => ?_) e
      simp only [arrearsref20_lines.l0]
      rw [if_pos (by omega), if_pos (by omega), rdN xs i hi, if_pos h10, if_pos (by omega), if_pos (by omega), if_pos (by omega), if_pos (by omega), wrN i (by omega), Int.toNat_natCast, Int.toNat_natCast]
    · have e := ih (i + 1) b acc (by omega) (by omega) (by omega)
      have e2 : linesP ((xs.take i).drop b) (xs[i] :: xs.drop (i + 1)) = linesP ((xs.take (i + 1)).drop b) (xs.drop (i + 1)) := by
        simp only [linesP]; rw [if_neg h10]
        congr 1
        rw [List.take_succ_eq_append_getElem hi, List.drop_append_of_le_length (by rw [List.length_take]; omega)]
      rw [e2]
      refine Ev.step (fun k => ?_) e
      simp only [arrearsref20_lines.l0]
      rw [if_pos (by omega), if_pos (by omega), rdN xs i hi, if_neg h10, wrN i (by omega)]
theorem lines_ev (xs : List Int) (hl : xs.length ≤ 1000000000000) : Ev (fun k => arrearsref20_lines.f k xs) (linesP [] xs) := by
  have := lines_loop xs hl xs.length 0 0 [] (by omega) (by omega) (by simp)
  simp only [List.take_zero, List.drop_zero, List.nil_append] at this
  exact Ev.congr (f := fun k => arrearsref20_lines.l0 k xs [] 0 0) (fun k => rfl) this
theorem linesP_eol : ∀ (xs cur : List Int), linesP cur xs = if eol xs < xs.length then ((cur ++ xs.take (eol xs)) :: (linesP [] (xs.drop (eol xs + 1))).1, (linesP [] (xs.drop (eol xs + 1))).2) else ([], decide (cur ++ xs ≠ []))
  | [], cur => by simp [linesP, eol]
  | x :: t, cur => by
    by_cases h10 : x = 10
    · simp [linesP, eol, h10]
    · have e : eol (x :: t) = eol t + 1 := by simp [eol, h10]
      simp only [linesP, e]
      rw [if_neg h10, linesP_eol t (cur ++ [x])]
      by_cases he : eol t < t.length
      · rw [if_pos he, if_pos (by simp; omega)]
        simp
      · rw [if_neg he, if_neg (by simp; omega)]
        simp
theorem formed_loop (t : List Int) (hl : t.length ≤ 1000000000000) (d : Nat) : ∀ i : Nat, i + d = t.length → Ev (fun k => arrearsref20_formed.l0 k t i) ((t.drop i).all isDig) := by
  induction d with
  | zero =>
    intro i h
    rw [List.drop_eq_nil_of_le (by omega), List.all_nil]
    refine Ev.step (fun k => ?_) (Ev.now true)
    simp only [arrearsref20_formed.l0]
    rw [if_neg (by omega)]
  | succ d ih =>
    intro i h
    have hi : i < t.length := by omega
    rw [List.drop_eq_getElem_cons hi, List.all_cons]
    have e := rdN t i hi
    by_cases h1 : t[i] < 48
    · have : isDig t[i] = false := by unfold isDig; rw [decide_eq_false (by omega)]
      rw [this, Bool.false_and]
      refine Ev.step (fun k => ?_) (Ev.now false)
      simp only [arrearsref20_formed.l0]
      rw [if_pos (by omega), if_pos (by omega), e, if_pos h1]
    · by_cases h2 : 57 < t[i]
      · have : isDig t[i] = false := by unfold isDig; rw [decide_eq_false (by omega)]
        rw [this, Bool.false_and]
        refine Ev.step (fun k => ?_) (Ev.now false)
        simp only [arrearsref20_formed.l0]
        rw [if_pos (by omega), if_pos (by omega), e, if_neg h1, if_pos h2]
      · have : isDig t[i] = true := by unfold isDig; rw [decide_eq_true (by omega)]
        rw [this, Bool.true_and]
        refine Ev.step (fun k => ?_) (ih (i + 1) (by omega))
        simp only [arrearsref20_formed.l0]
        rw [if_pos (by omega), if_pos (by omega), e, if_neg h1, if_neg h2, wrN i (by omega)]
theorem formed_ev (t : List Int) (letter : Int) (n : Nat) (hl : t.length ≤ 1000000000000) (hn : n ≤ 100) : Ev (fun k => arrearsref20_formed.f k t letter n) (lineOk t letter n) := by
  have hw : wrap64 ((n : Int) + 1) = ((n + 1 : Nat) : Int) := wrN n (by omega)
  by_cases hlen : t.length = n + 1
  · cases t with
    | nil => simp at hlen
    | cons a s =>
      by_cases ha : a = letter
      · subst ha
        have e := formed_loop (a :: s) hl n 1 (by omega)
        have e2 : lineOk (a :: s) a n = ((a :: s).drop 1).all isDig := by simp [lineOk, show s.length = n by simpa using hlen]
        rw [e2]
        refine Ev.congr (f := fun k => arrearsref20_formed.j0 k (a :: s) false) (fun k => ?_) (Ev.step (fun k => ?_) e)
        · unfold arrearsref20_formed.f
          rw [hw, if_pos (by omega), if_pos (by simp)]
          congr 1
          simp [rd]
        · simp only [arrearsref20_formed.j0]
          rw [if_neg (by simp)]; rfl
      · have e2 : lineOk (a :: s) letter n = false := by simp [lineOk, ha]
        rw [e2]
        refine Ev.congr (f := fun k => arrearsref20_formed.j0 k (a :: s) true) (fun k => ?_) (Ev.step (fun k => ?_) (Ev.now false))
        · unfold arrearsref20_formed.f
          rw [hw, if_pos (by omega), if_pos (by simp)]
          congr 1
          simp [rd, ha]
        · simp only [arrearsref20_formed.j0]
          rfl
  · have e2 : lineOk t letter n = false := by simp [lineOk, hlen]
    rw [e2]
    refine Ev.congr (f := fun k => arrearsref20_formed.j0 k t true) (fun k => ?_) (Ev.step (fun k => ?_) (Ev.now false))
    · unfold arrearsref20_formed.f
      rw [hw, if_neg (by omega)]
    · simp only [arrearsref20_formed.j0]
      rfl
theorem valFrom_append : ∀ (l : List Int) (d a : Int), valFrom a (l ++ [d]) = 10 * valFrom a l + (d - 48)
  | [], d, a => rfl
  | x :: t, d, a => by simp only [List.cons_append, valFrom]; exact valFrom_append t d _
theorem field_loop (t : List Int) (a n : Nat) (han : a + n ≤ t.length) (hl : t.length ≤ 1000) (hn : n ≤ 16) (hd : ((t.drop a).take n).all isDig = true) (d : Nat) : ∀ i : Nat, i + d = n →
    Ev (fun k => arrearsref20_field.l0 k t a n (valFrom 0 ((t.drop a).take i)) ((a + i : Nat) : Int)) (fieldP t a n) := by
  have hw : wrap64 ((a : Int) + (n : Int)) = ((a + n : Nat) : Int) := by rw [wrI (by omega) (by omega)]; omega
  induction d with
  | zero =>
    intro i h
    obtain rfl : i = n := by omega
    refine Ev.step (fun k => ?_) (Ev.now _)
    simp only [arrearsref20_field.l0]
    rw [hw, if_neg (by omega)]
    rfl
  | succ d ih =>
    intro i h
    have hai : a + i < t.length := by omega
    have hsub : ((t.drop a).take i).all isDig = true := by
      rw [List.all_eq_true] at hd ⊢
      intro x hx
      refine hd x ?_
      have e : (t.drop a).take i = ((t.drop a).take n).take i := by rw [List.take_take, Nat.min_eq_left (by omega)]
      rw [e] at hx
      exact List.mem_of_mem_take hx
    have hr := valFrom_range ((t.drop a).take i) 0 (by omega) hsub
    have hli : ((t.drop a).take i).length = i := by rw [List.length_take, List.length_drop]; omega
    rw [hli] at hr
    have hp : (10 : Int) ^ i ≤ 10 ^ 15 := by
      have : 10 ^ i ≤ 10 ^ 15 := Nat.pow_le_pow_right (by omega) (by omega)
      exact_mod_cast this
    have hp2 : (10 : Int) ^ 15 = 1000000000000000 := by decide
    have hin : i < (t.drop a).length := by rw [List.length_drop]; omega
    have hts : (t.drop a).take (i + 1) = (t.drop a).take i ++ [t[a + i]] := by
      rw [List.take_succ_eq_append_getElem hin, List.getElem_drop]
    have hdg : 48 ≤ t[a + i] ∧ t[a + i] ≤ 57 := by
      rw [List.all_eq_true] at hd
      have hm : t[a + i] ∈ (t.drop a).take n := by
        have e : (t.drop a).take (i + 1) = ((t.drop a).take n).take (i + 1) := by rw [List.take_take, Nat.min_eq_left (by omega)]
        have hx : t[a + i] ∈ (t.drop a).take (i + 1) := by rw [hts]; simp
        rw [e] at hx
        exact List.mem_of_mem_take hx
      have := hd _ hm
      simpa [isDig] using this
    have e := ih (i + 1) (by omega)
    rw [hts, valFrom_append] at e
    refine Ev.step (fun k => ?_) e
    have hrd : rd t ((a + i : Nat) : Int) = t[a + i] := rdN t (a + i) hai
    generalize t[a + i] = c at *
    generalize valFrom 0 ((t.drop a).take i) = v at *
    have hv : 0 ≤ v ∧ v ≤ 1000000000000000 := by omega
    clear hr hp hp2 hts hsub hd e ih
    have hmod : (c - 48) % 256 = c - 48 := by omega
    simp only [arrearsref20_field.l0]
    rw [hw, if_pos (by omega), if_pos (by omega), if_pos (by omega), hrd, hmod, wrI (i := 10 * v) (by omega) (by omega), wrI (i := 10 * v + (c - 48)) (by omega) (by omega), wrN (a + i) (by omega)]
    rfl
theorem field_ev (t : List Int) (a n : Nat) (han : a + n ≤ t.length) (hl : t.length ≤ 1000) (hn : n ≤ 16) (hd : ((t.drop a).take n).all isDig = true) : Ev (fun k => arrearsref20_field.f k t a n) (fieldP t a n) := by
  have := field_loop t a n han hl hn hd n 0 (by omega)
  simp only [List.take_zero, valFrom, Nat.add_zero] at this
  exact Ev.congr (f := fun k => arrearsref20_field.l0 k t a n 0 a) (fun k => rfl) this
end Go.Proofs.YtkjdmbbaacjpmaaDoor.Reads
end
section
namespace Go.Proofs.YtkjdmbbaacjpmaaDoor.Reads
open Go.RowKit Go.Proofs.YtkjdmbbaacjpmaaDoor.R Go.Proofs.YtkjdmbbaacjpmaaDoor.Scan Go.Proofs.YtkjdmbbaacjpmaaDoor.Reader Go.Proofs.YtkjdmbbaacjpmaaDoor.Cal Go.Proofs.YtkjdmbbaacjpmaaDoorW.PrintWords
open Go.Proofs.YtkjdmbbaacjpmaaDoor.DDigits (wrN)
set_option linter.unusedVariables false
theorem yearLen_f {y : Int} (hy : 0 ≤ y) : arrearsref2_yearLen.f y = some (365 + lp y) := CivilPure.yearLen_f hy
theorem lenOf_f {y m : Int} (hy : 0 ≤ y) : arrearsref2_lenOf.f y m = some (mlen y m) := CivilPure.lenOf_f hy
theorem monthLen_in {y m : Int} (hy : 1 ≤ y) (hy' : y ≤ 9999) (hm : 1 ≤ m) (hm' : m ≤ 12) : monthLen y m = mlen y m := by
  unfold monthLen
  rw [if_pos ⟨hy, hy', hm, hm'⟩]
  have hl : C.leapB y = true ↔ (y % 4 = 0 ∧ (y % 100 ≠ 0 ∨ y % 400 = 0)) := by
    unfold C.leapB; rw [decide_eq_true_eq]; omega
  have e : (if m = 2 ∧ C.leapB y = true then (1 : Int) else 0) = if m = 2 then lp y else 0 := by
    unfold lp
    by_cases h2 : m = 2
    · rw [if_pos h2]
      by_cases hb : C.leapB y = true
      · rw [if_pos ⟨h2, hb⟩, if_pos (hl.1 hb)]
      · rw [if_neg (fun h => hb h.2), if_neg (fun h => hb (hl.2 h))]
    · rw [if_neg h2, if_neg (fun h => h2 h.1)]
  rw [e]
  clear e hl
  unfold mlen
  generalize lp y = q
  have : m = 1 ∨ m = 2 ∨ m = 3 ∨ m = 4 ∨ m = 5 ∨ m = 6 ∨ m = 7 ∨ m = 8 ∨ m = 9 ∨ m = 10 ∨ m = 11 ∨ m = 12 := by omega
  rcases this with rfl | rfl | rfl | rfl | rfl | rfl | rfl | rfl | rfl | rfl | rfl | rfl <;> simp [C.aheadTab]
theorem monthLen_ev (y m : Int) : arrearsref2_MonthLen.f y m = some (monthLen y m) := by
  unfold arrearsref2_MonthLen.f
  by_cases h1 : y < 1
  · rw [if_pos h1]; unfold monthLen; rw [if_neg (by omega)]
  · rw [if_neg h1]
    by_cases h2 : y > 9999
    · rw [if_pos h2]; unfold monthLen; rw [if_neg (by omega)]
    · rw [if_neg h2]
      by_cases h3 : m < 1
      · rw [if_pos h3]; unfold monthLen; rw [if_neg (by omega)]
      · rw [if_neg h3]
        by_cases h4 : m > 12
        · rw [if_pos h4]; unfold monthLen; rw [if_neg (by omega)]
        · rw [if_neg h4, lenOf_f (by omega), monthLen_in (by omega) (by omega) (by omega) (by omega)]; rfl
theorem numberOf_eq {y m d : Int} (hy : 1 ≤ y) (hy' : y ≤ 9999) (hm : 1 ≤ m) (hm' : m ≤ 12) : numberOf y m d = dby y + cum y m + d := by
  rw [← CivilPure.startOf_cum hy hy' hm (by omega)]
  unfold numberOf dby C.startOf
  omega
theorem num_months {y m d : Int} (hy : 1 ≤ y) (hy' : y ≤ 9999) (hm : m ≤ 12) (hd : 0 ≤ d ∧ d ≤ 99) (n : Nat) : ∀ j : Int, 1 ≤ j → j + n = m → Ev (fun k => arrearsref2_Number.l1 k (dby y + cum y j) j y m d) (dby y + cum y m + d, true) := by
  have hdb : 0 ≤ dby y ∧ dby y ≤ 4000000 := by unfold dby; omega
  induction n with
  | zero =>
    intro j h1 h2
    obtain rfl : j = m := by omega
    have hc := cum_range y h1 (show j ≤ 13 by omega)
    refine Ev.step (fun k => ?_) (Ev.now _)
    simp only [arrearsref2_Number.l1]
    rw [if_neg (by omega), wrI (i := dby y + cum y j + d) (by omega) (by omega)]
  | succ n ih =>
    intro j h1 h2
    have hc := cum_range y h1 (show j ≤ 13 by omega)
    have hm2 := mlen_range y j
    refine Ev.step (fun k => ?_) (ih (j + 1) (by omega) (by omega))
    simp only [arrearsref2_Number.l1]
    rw [if_pos (by omega), lenOf_f (by omega)]
    simp only [Option.bind_some]
    rw [wrI (i := dby y + cum y j + mlen y j) (by omega) (by omega), wrI (i := j + 1) (by omega) (by omega), cum_succ y h1 (by omega), Int.add_assoc]
theorem num_years {y m d : Int} (hy : 1 ≤ y) (hy' : y ≤ 9999) (hm : 1 ≤ m) (hm' : m ≤ 12) (hd : 0 ≤ d ∧ d ≤ 99) (n : Nat) : ∀ j : Int, 1 ≤ j → j + n = y → Ev (fun k => arrearsref2_Number.l0 k (dby j) j y m d) (dby y + cum y m + d, true) := by
  induction n with
  | zero =>
    intro j h1 h2
    obtain rfl : j = y := by omega
    have e := num_months hy hy' hm' hd (m - 1).toNat 1 (by omega) (by omega)
    rw [cum_one, Int.add_zero] at e
    refine Ev.step (fun k => ?_) e
    simp only [arrearsref2_Number.l0]
    rw [if_neg (by omega)]
  | succ n ih =>
    intro j h1 h2
    have h01 := lp_01 j
    have hdb : 0 ≤ dby j ∧ dby j ≤ 4000000 := by unfold dby; omega
    have hs := dby_succ j
    have e := ih (j + 1) (by omega) (by omega)
    rw [hs] at e
    refine Ev.step (fun k => ?_) e
    simp only [arrearsref2_Number.l0]
    rw [if_pos (by omega), yearLen_f (by omega)]
    simp only [Option.bind_some]
    rw [wrI (i := dby j + (365 + lp j)) (by omega) (by omega), wrI (i := j + 1) (by omega) (by omega), Int.add_assoc]
theorem number_ev (y m d : Int) (hy : 0 ≤ y ∧ y ≤ 9999) (hm : 0 ≤ m ∧ m ≤ 99) (hd : 0 ≤ d ∧ d ≤ 99) : Ev (fun k => arrearsref2_Number.f k y m d) (numberR y m d) := by
  unfold numberR
  by_cases h : 1 ≤ d ∧ d ≤ monthLen y m
  · rw [if_pos h]
    have hr : 1 ≤ y ∧ y ≤ 9999 ∧ 1 ≤ m ∧ m ≤ 12 := by
      apply Classical.byContradiction
      intro hn
      have : monthLen y m = 0 := by unfold monthLen; rw [if_neg hn]
      omega
    obtain ⟨q, hq⟩ : ∃ q, (y - 1) / 400 = q := ⟨_, rfl⟩
    have hdb : dby (400 * q + 1) = 146097 * q := by unfold dby; omega
    have e := num_years hr.1 hr.2.1 hr.2.2.1 hr.2.2.2 hd (y - (400 * q + 1)).toNat (400 * q + 1) (by omega) (by omega)
    rw [hdb] at e
    rw [numberOf_eq hr.1 hr.2.1 hr.2.2.1 hr.2.2.2]
    refine Ev.congr (f := fun k => arrearsref2_Number.j0 k false y m d) (fun k => ?_) (Ev.step (fun k => ?_) e)
    · unfold arrearsref2_Number.f
      rw [if_neg (by omega), monthLen_ev]
      simp only [Option.bind_some]
      rw [decide_eq_false (by omega)]
    · simp only [arrearsref2_Number.j0]
      have ht : Int.tdiv (y - 1) 400 = q := by rw [Int.tdiv_eq_ediv_of_nonneg (by omega)]; exact hq
      rw [if_neg (by simp), wrI (i := y - 1) (by omega) (by omega), ht, wrI (i := q) (by omega) (by omega), wrI (i := q * 146097) (by omega) (by omega), wrI (i := 400 * q) (by omega) (by omega), wrI (i := 400 * q + 1) (by omega) (by omega), Int.mul_comm q]
  · rw [if_neg h]
    refine Ev.congr (f := fun k => arrearsref2_Number.j0 k true y m d) (fun k => ?_) (Ev.step (fun k => ?_) (Ev.now _))
    · unfold arrearsref2_Number.f
      by_cases h1 : d < 1
      · rw [if_pos h1]
      · rw [if_neg h1, monthLen_ev]
        simp only [Option.bind_some]
        rw [decide_eq_true (by omega)]
    · simp only [arrearsref2_Number.j0]
      rfl
theorem lineOk_dig {t : List Int} {letter : Int} {n : Nat} (h : lineOk t letter n = true) : t.length = n + 1 ∧ ∀ a k : Nat, 1 ≤ a → ((t.drop a).take k).all isDig = true := by
  simp only [lineOk, Bool.and_eq_true, decide_eq_true_eq, beq_iff_eq] at h
  obtain ⟨⟨h1, h2⟩, h3⟩ := h
  refine ⟨h1, fun a k ha => ?_⟩
  rw [List.all_eq_true] at h3 ⊢
  intro x hx
  refine h3 x ?_
  have hx2 := List.mem_of_mem_take hx
  obtain ⟨b, rfl⟩ : ∃ b, a = 1 + b := ⟨a - 1, by omega⟩
  rw [← List.drop_drop] at hx2
  exact List.mem_of_mem_drop hx2
theorem field_range {t : List Int} {a k : Nat} (h : ((t.drop a).take k).all isDig = true) : 0 ≤ fieldP t a k ∧ fieldP t a k < 10 ^ k := by
  have hr := valFrom_range ((t.drop a).take k) 0 (by omega) h
  refine ⟨hr.1, Int.lt_of_lt_of_le hr.2 ?_⟩
  have : ((t.drop a).take k).length ≤ k := by rw [List.length_take]; omega
  have h2 : (10 : Int) ^ ((t.drop a).take k).length ≤ 10 ^ k := by
    have : 10 ^ ((t.drop a).take k).length ≤ 10 ^ k := Nat.pow_le_pow_right (by omega) this
    exact_mod_cast this
  omega
def headL (t : List Int) : Option (Int × Int) := if lineOk t 72 14 = true ∧ (headD t).2 = true ∧ fieldP t 9 6 ≠ 0 then some ((headD t).1, fieldP t 9 6) else none
theorem header_ev (t : List Int) (hl : t.length ≤ 1000000000000) : Ev (fun k => arrearsref20_header.f k t) (match headL t with | some (d, n) => (d, n, [], 0) | none => (0, 0, [], 200)) := by
  refine Ev.congr (f := fun k => ((arrearsref20_formed.f k t 72 14).bind fun t130 => (if t130 = true then ((arrearsref20_field.f k t 1 4).bind fun t131 => ((arrearsref20_field.f k t 5 2).bind fun t132 => ((arrearsref20_field.f k t 7 2).bind fun t133 => ((arrearsref2_Number.f k t131 t132 t133).bind fun bt135 => ((arrearsref20_field.f k t 9 6).bind fun t137 => (if bt135.2 = true then (if t137 = 0 then (some (0, 0, ([] : List (S50)), 200)) else (some (bt135.1, t137, ([] : List (S50)), 0))) else (some (0, 0, ([] : List (S50)), 200)))))))) else (some (0, 0, ([] : List (S50)), 200))) : Option (Int × Int × List S50 × Int))) (fun k => rfl) (Ev.bind (formed_ev t 72 14 hl (by omega)) ?_)
  by_cases hk : lineOk t 72 14 = true
  · obtain ⟨htl, hdg⟩ := lineOk_dig hk
    have r1 := field_range (hdg 1 4 (by omega))
    have r2 := field_range (hdg 5 2 (by omega))
    have r3 := field_range (hdg 7 2 (by omega))
    have e4 : (10 : Int) ^ 4 = 10000 := by decide
    have e2 : (10 : Int) ^ 2 = 100 := by decide
    rw [e4] at r1
    rw [e2] at r2 r3
    simp only [hk, if_true]
    refine Ev.bind (field_ev t 1 4 (by omega) (by omega) (by omega) (hdg 1 4 (by omega))) (f := fun k t131 => (((arrearsref20_field.f k t 5 2).bind fun t132 => ((arrearsref20_field.f k t 7 2).bind fun t133 => ((arrearsref2_Number.f k t131 t132 t133).bind fun bt135 => ((arrearsref20_field.f k t 9 6).bind fun t137 => (if bt135.2 = true then (if t137 = 0 then (some (0, 0, ([] : List (S50)), 200)) else (some (bt135.1, t137, ([] : List (S50)), 0))) else (some (0, 0, ([] : List (S50)), 200))))))) : Option (Int × Int × List S50 × Int))) ?_
    refine Ev.bind (field_ev t 5 2 (by omega) (by omega) (by omega) (hdg 5 2 (by omega))) (f := fun k t132 => (((arrearsref20_field.f k t 7 2).bind fun t133 => ((arrearsref2_Number.f k (fieldP t 1 4) t132 t133).bind fun bt135 => ((arrearsref20_field.f k t 9 6).bind fun t137 => (if bt135.2 = true then (if t137 = 0 then (some (0, 0, ([] : List (S50)), 200)) else (some (bt135.1, t137, ([] : List (S50)), 0))) else (some (0, 0, ([] : List (S50)), 200)))))) : Option (Int × Int × List S50 × Int))) ?_
    refine Ev.bind (field_ev t 7 2 (by omega) (by omega) (by omega) (hdg 7 2 (by omega))) (f := fun k t133 => (((arrearsref2_Number.f k (fieldP t 1 4) (fieldP t 5 2) t133).bind fun bt135 => ((arrearsref20_field.f k t 9 6).bind fun t137 => (if bt135.2 = true then (if t137 = 0 then (some (0, 0, ([] : List (S50)), 200)) else (some (bt135.1, t137, ([] : List (S50)), 0))) else (some (0, 0, ([] : List (S50)), 200))))) : Option (Int × Int × List S50 × Int))) ?_
    refine Ev.bind (number_ev (fieldP t 1 4) (fieldP t 5 2) (fieldP t 7 2) (by omega) (by omega) (by omega)) (f := fun k bt135 => (((arrearsref20_field.f k t 9 6).bind fun t137 => (if bt135.2 = true then (if t137 = 0 then (some (0, 0, ([] : List (S50)), 200)) else (some (bt135.1, t137, ([] : List (S50)), 0))) else (some (0, 0, ([] : List (S50)), 200)))) : Option (Int × Int × List S50 × Int))) ?_
    refine Ev.bind (field_ev t 9 6 (by omega) (by omega) (by omega) (hdg 9 6 (by omega))) (f := fun k t137 => ((if (numberR (fieldP t 1 4) (fieldP t 5 2) (fieldP t 7 2)).2 = true then (if t137 = 0 then (some (0, 0, ([] : List (S50)), 200)) else (some ((numberR (fieldP t 1 4) (fieldP t 5 2) (fieldP t 7 2)).1, t137, ([] : List (S50)), 0))) else (some (0, 0, ([] : List (S50)), 200))) : Option (Int × Int × List S50 × Int))) ?_
    refine Ev.congr (fun k => ?_) (Ev.now _)
    unfold headL headD
    by_cases h1 : (numberR (fieldP t 1 4) (fieldP t 5 2) (fieldP t 7 2)).2 = true
    · rw [if_pos h1]
      by_cases h2 : fieldP t 9 6 = 0
      · rw [if_pos h2, if_neg (fun h => h.2.2 h2)]
      · rw [if_neg h2, if_pos ⟨hk, h1, h2⟩]
    · rw [if_neg h1, if_neg (fun h => h1 h.2.1)]
  · refine Ev.congr (fun k => ?_) (Ev.now _)
    rw [if_neg hk]
    unfold headL
    rw [if_neg (fun h => hk h.1)]
theorem reftotals_loop (l : List S50) (hl : l.length ≤ 100000) : ∀ (d i : Nat), i + d = l.length → ∀ p : Int × Int, Ev (fun k => arrearsref20_totals.l0 k l p.1 p.2 i) (totF p (l.drop i)) := by
  intro d
  induction d with
  | zero =>
    intro i hi p
    rw [List.drop_eq_nil_of_le (by omega)]
    refine Ev.step (fun k => ?_) (Ev.now _)
    simp only [arrearsref20_totals.l0]
    rw [if_neg (by omega)]
    rfl
  | succ d ih =>
    intro i hi p
    have hlt : i < l.length := by omega
    have hr : rd_T50 l i = l[i] := by unfold rd_T50; rw [Int.toNat_natCast, List.getD_eq_getElem?_getD, List.getElem?_eq_getElem hlt]; rfl
    rw [List.drop_eq_getElem_cons hlt]
    refine Ev.step (fun k => ?_) (ih (i + 1) (by omega) (wrap64 (p.1 + l[i].f1), Int.tmod (wrap64 (p.2 + l[i].f0)) 10000000000))
    simp only [arrearsref20_totals.l0]
    rw [if_pos (by omega), if_pos (by omega), hr, wrN i (by omega)]
theorem reftotals_ev (l : List S50) (hl : l.length ≤ 100000) : Ev (fun k => arrearsref20_totals.f k l) (totP l) := by
  have := reftotals_loop l hl l.length 0 (by omega) (0, 0)
  simp only [List.drop_zero] at this
  exact Ev.congr (f := fun k => arrearsref20_totals.l0 k l 0 0 0) (fun k => rfl) this
def trlL (t : List Int) (l : List S50) : Int := if lineOk t 84 30 = true then (if fieldP t 1 4 = l.length ∧ (totP l).1 = fieldP t 5 16 ∧ (totP l).2 = fieldP t 21 10 then 0 else 203) else 200
theorem trailer_ev (t : List Int) (l : List S50) (ht : t.length ≤ 1000000000000) (hl : l.length ≤ 100000) : Ev (fun k => arrearsref20_trailer.f k t l) (trlL t l) := by
  refine Ev.congr (f := fun k => ((arrearsref20_formed.f k t 84 30).bind fun t140 => (if t140 = true then ((arrearsref20_totals.f k l).bind fun bt141 => ((arrearsref20_field.f k t 1 4).bind fun t143 => (if t143 = (l.length : Int) then ((arrearsref20_field.f k t 5 16).bind fun t144 => (if t144 = bt141.1 then ((arrearsref20_field.f k t 21 10).bind fun t145 => (if t145 = bt141.2 then (some 0) else (some 203))) else (some 203))) else (some 203)))) else (some 200)) : Option Int)) (fun k => rfl) (Ev.bind (formed_ev t 84 30 ht (by omega)) ?_)
  by_cases hk : lineOk t 84 30 = true
  · obtain ⟨htl, hdg⟩ := lineOk_dig hk
    unfold trlL
    simp only [hk, if_true]
    refine Ev.bind (reftotals_ev l hl) (f := fun k bt141 => (((arrearsref20_field.f k t 1 4).bind fun t143 => (if t143 = (l.length : Int) then ((arrearsref20_field.f k t 5 16).bind fun t144 => (if t144 = bt141.1 then ((arrearsref20_field.f k t 21 10).bind fun t145 => (if t145 = bt141.2 then (some 0) else (some 203))) else (some 203))) else (some 203))) : Option Int)) ?_
    refine Ev.bind (field_ev t 1 4 (by omega) (by omega) (by omega) (hdg 1 4 (by omega))) (f := fun k t143 => ((if t143 = (l.length : Int) then ((arrearsref20_field.f k t 5 16).bind fun t144 => (if t144 = (totP l).1 then ((arrearsref20_field.f k t 21 10).bind fun t145 => (if t145 = (totP l).2 then (some 0) else (some 203))) else (some 203))) else (some 203)) : Option Int)) ?_
    by_cases h1 : fieldP t 1 4 = (l.length : Int)
    · simp only [h1, if_true, true_and]
      refine Ev.bind (field_ev t 5 16 (by omega) (by omega) (by omega) (hdg 5 16 (by omega))) (f := fun k t144 => ((if t144 = (totP l).1 then ((arrearsref20_field.f k t 21 10).bind fun t145 => (if t145 = (totP l).2 then (some 0) else (some 203))) else (some 203)) : Option Int)) ?_
      by_cases h2 : fieldP t 5 16 = (totP l).1
      · simp only [h2, if_true, true_and]
        refine Ev.bind (field_ev t 21 10 (by omega) (by omega) (by omega) (hdg 21 10 (by omega))) (f := fun _ t145 => ((if t145 = (totP l).2 then (some 0) else (some 203)) : Option Int)) ?_
        refine Ev.congr (fun k => ?_) (Ev.now _)
        by_cases h3 : fieldP t 21 10 = (totP l).2
        · rw [if_pos h3, if_pos h3.symm]
        · rw [if_neg h3, if_neg (Ne.symm h3)]
      · refine Ev.congr (fun k => ?_) (Ev.now _)
        rw [if_neg h2, if_neg (fun h => h2 h.1.symm)]
    · refine Ev.congr (fun k => ?_) (Ev.now _)
      rw [if_neg h1, if_neg (fun h => h1 h.1)]
  · refine Ev.congr (fun k => ?_) (Ev.now _)
    rw [if_neg hk]
    unfold trlL
    rw [if_neg hk]
end Go.Proofs.YtkjdmbbaacjpmaaDoor.Reads
end
