/- The program's CheckDigit, walked: over strconv.Itoa's contract and the printed luhn. Condition: the library's table of powers of ten is as laid. -/
import Derived.Test.YtkjdmbbaacjpmaaDoorShelf
import Derived.Test.YtkjdmbbaacjpmaaDoorPureDigits
import Derived.Lib.AppendIntMem
namespace Go.Proofs.YtkjdmbbaacjpmaaDoor.Digits
open Go.RowKit Go.Proofs.YtkjdmbbaacjpmaaDoor.PLockboxDigits Go.Proofs.YtkjdmbbaacjpmaaDoor.Num Go.Proofs.YtkjdmbbaacjpmaaDoorW.PrintWords Go.Proofs.YtkjdmbbaacjpmaaDoorW.PrintLast

/-- one call behind the other: what was there stays -/
theorem chain {B : Nat} {w w1 w2 : World} (h : Below B w w1) (h2 : Below w1.heap.size w1 w2) (hB : B ≤ w.heap.size) : Below B w w2 := h.trans (h2.mono (Nat.le_trans hB h.size))

/-- the table of powers of ten is as laid -/
def Tab (w : World) : Prop := Lib.TabIs Tryd.prog w "internal/strconv.uint64pow10" .u64 Lib.pow10Tab

theorem itoa_calls (n : Nat) (hn : n ≤ 999999) (w : World) (htab : Tab w) :
    Calls Tryd.prog 28 #[.int .i64 n] w fun e w' => e = .returned (.string ⟨(Lib.decDigits n).toArray⟩) ∧ Below w.heap.size w w' := by
  refine (Tryd.strconv_Itoa n (by omega) (by omega) w htab).mono ?_
  rintro e w' ⟨rfl, k, os, rfl⟩
  refine ⟨?_, Lib.below_grow _ _ (Nat.le_refl _) _ _⟩
  rw [Lib.itoa, if_neg (by omega), Int.toNat_natCast]

set_option maxRecDepth 100000 in
theorem check_in (n : Nat) (hn : n ≤ 999999) (w : World) (htab : Tab w) :
    Calls Tryd.prog 9 #[.int .i64 n] w fun e w' => e = .returned (.tuple #[.int .i64 (chk n), .bool true]) ∧ Below w.heap.size w w' := by
  obtain ⟨k, hk⟩ := (luhn_number n hn).rounds
  have hr := lsum_range (rdig 6 n) true (rdig_dig 6 n)
  rw [rdig_length] at hr
  have hc : chk (n : Int) = (10 - lsum (rdig 6 n) true % 10) % 10 := rfl
  rw [hc]
  generalize lsum (rdig 6 n) true = W at hk hr
  clear hc
  have HK := Aside0.mk hk
  have HT := Aside0.mk htab
  clear hk htab
  have b1 : decide ((n : Int) < 0) = false := decide_eq_false (by omega)
  have b2 : decide (999999 < (n : Int)) = false := decide_eq_false (by omega)
  have b3 : decide (999999 < n) = false := decide_eq_false (by omega)
  go_enter Tryd.func9, Tryd.ntmps9
  go_wp2_with (first | (go_at_call 28; (with_reducible refine (itoa_calls n hn _ HT.out).mono ?_); rintro e w1 ⟨rfl, hb⟩; have HB := Aside0.mk hb; clear hb) | (go_at_call 27; (with_reducible refine (lockbox_luhn.calls k _ true W _ HK.out).mono ?_); rintro e w' ⟨rfl, ⟨nd, rfl⟩⟩))
  go_ret2
  exact ⟨by first | rfl | (simp; done), by repeat (first | exact HB.out | apply pw_below_drewN)⟩

set_option maxRecDepth 100000 in
theorem check_low (n : Int) (h : n < 0) (w : World) :
    Calls Tryd.prog 9 #[.int .i64 n] w fun e w' => e = .returned (.tuple #[.int .i64 0, .bool false]) ∧ Below w.heap.size w w' := by
  have b1 : decide (n < 0) = true := by simp; omega
  go_enter Tryd.func9, Tryd.ntmps9
  go_wp2
  go_ret2
  exact ⟨rfl, Below.refl _ _⟩

set_option maxRecDepth 100000 in
theorem check_high (n : Int) (h : 999999 < n) (w : World) :
    Calls Tryd.prog 9 #[.int .i64 n] w fun e w' => e = .returned (.tuple #[.int .i64 0, .bool false]) ∧ Below w.heap.size w w' := by
  have b1 : decide (n < 0) = false := by simp; omega
  have b2 : decide (999999 < n) = true := by simp; omega
  go_enter Tryd.func9, Tryd.ntmps9
  go_wp2
  go_ret2
  exact ⟨rfl, Below.refl _ _⟩

/-- what CheckDigit answers: the digit -/
def digitOf (n : Int) : Int := if okN n then chk n else 0

/-- CheckDigit, whatever the number -/
theorem check_calls (n : Int) (w : World) (htab : Tab w) :
    Calls Tryd.prog 9 #[.int .i64 n] w fun e w' => e = .returned (.tuple #[.int .i64 (digitOf n), .bool (okN n)]) ∧ Below w.heap.size w w' := by
  by_cases h0 : n < 0
  · have e : okN n = false := by unfold okN; simp; omega
    unfold digitOf; rw [e]; exact check_low n h0 w
  · by_cases h1 : 999999 < n
    · have e : okN n = false := by unfold okN; simp; omega
      unfold digitOf; rw [e]; exact check_high n h1 w
    · have e : okN n = true := by unfold okN; simp; omega
      obtain ⟨m, rfl⟩ : ∃ m : Nat, n = m := ⟨n.toNat, by omega⟩
      unfold digitOf; rw [e, if_pos rfl]
      exact check_in m (by omega) w htab

/-- the document's CheckDigit, in the same words -/
theorem ref_calls (n : Int) (w : World) :
    Calls Tryd.prog 10 #[.int .i64 n] w fun e w' => e = .returned (.tuple #[.int .i64 (digitOf n), .bool (okN n)]) ∧ Below w.heap.size w w' := by
  obtain ⟨k, hk⟩ := (ref_ev n).rounds
  refine arrearsref20_CheckDigit.calls k n (digitOf n) (okN n) w ?_
  rw [hk]; unfold digitOf; cases okN n <;> rfl

theorem valid_calls (s : ByteArray) (hs : s.size ≤ 140737488351232) (w : World) :
    Calls Tryd.prog 11 #[.string s] w fun e w' => e = .returned (.bool (validB s)) ∧ Drawn0 w w' := by
  obtain ⟨k, hk⟩ := (valid_ev s hs).rounds
  exact lockbox_Valid.calls k s _ w hk
theorem refValid_calls (s : ByteArray) (hs : s.size ≤ 140737488351232) (w : World) :
    Calls Tryd.prog 12 #[.string s] w fun e w' => e = .returned (.bool (validB s)) ∧ Below w.heap.size w w' := by
  obtain ⟨k, hk⟩ := (refValid_ev s hs).rounds
  exact arrearsref20_Valid.calls k s _ w hk

set_option maxRecDepth 100000 in
/-- THE LAW's WALK -/
theorem digits_walk (n : Int) (s : ByteArray) (hs : s.size ≤ 140737488351232) (w : World) (htab : Tab w) :
    Calls Tryd.prog 3 #[.int .i64 n, .string s] w fun e w' => e = .returned (.bool true) ∧ Below w.heap.size w w' := by
  have HT := Aside0.mk htab
  clear htab
  have h75 := seventyFive
  have z75 : (⟨#[55, 53]⟩ : ByteArray).size ≤ 140737488351232 := by decide +kernel
  have hv := valid_calls ⟨#[55, 53]⟩ z75
  rw [h75] at hv
  have HV := Aside0.mk hv
  clear hv h75 z75
  generalize hd : digitOf n = D
  generalize ho : okN n = O
  generalize hb : validB s = V
  have H1 := Aside0.mk (check_calls n)
  have H2 := Aside0.mk (ref_calls n)
  have H3 := Aside0.mk (valid_calls s hs)
  have H4 := Aside0.mk (refValid_calls s hs)
  rw [hd, ho] at H1 H2
  rw [hb] at H3 H4
  clear hd ho hb
  go_enter Tryd.func3, Tryd.ntmps3
  go_wp2_with (first | (go_at_call 9; (with_reducible refine (H1.out _ HT.out).mono ?_); rintro e w1 ⟨rfl, hb⟩; have HB1 := Aside0.mk hb; clear hb) | (go_at_call 10; (with_reducible refine (H2.out _).mono ?_); rintro e w2 ⟨rfl, hb⟩; have HB2 := Aside0.mk hb; clear hb) | (go_at_call 12; (with_reducible refine (H4.out _).mono ?_); rintro e w4 ⟨rfl, hb⟩; have HB4 := Aside0.mk hb; clear hb) | (go_at_call 11; (with_reducible refine (HV.out _).mono ?_); rintro e w5 ⟨rfl, ⟨nd, rfl⟩⟩) | (go_at_call 11; (with_reducible refine (H3.out _).mono ?_); rintro e w3 ⟨rfl, ⟨nd, rfl⟩⟩))
  go_ret
  exact ⟨rfl, pw_below_drewN (chain (pw_below_drewN (chain HB1.out HB2.out (Nat.le_refl _)) _) HB4.out (Nat.le_refl _)) _⟩

end Go.Proofs.YtkjdmbbaacjpmaaDoor.Digits
