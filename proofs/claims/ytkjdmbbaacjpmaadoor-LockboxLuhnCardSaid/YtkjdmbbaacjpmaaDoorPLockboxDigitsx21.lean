-- PRINTED BY print.sh 35421559b90ae4d0a3588c463048766b98c2df88dd9212a6774a882060cdf62d: not written by this session
import Derived.Test.YtkjdmbbaacjpmaaDoorPLockboxDigitsx0
import Derived.Test.YtkjdmbbaacjpmaaDoorPLockboxDigitsx1
import Derived.Test.YtkjdmbbaacjpmaaDoorPLockboxDigitsx20
namespace Go.Proofs.YtkjdmbbaacjpmaaDoor.PLockboxDigits
open Go.RowKit Go.Proofs.YtkjdmbbaacjpmaaDoorW.PrintWords Go.Proofs.YtkjdmbbaacjpmaaDoorW.PrintLast Go.Proofs.YtkjdmbbaacjpmaaDoorW.PrintMore
attribute [local go_sem] max2_int min2_int max_two min_two max_three min_three max_four min_four   -- for this text's walks alone
set_option linter.unusedVariables false
set_option linter.unusedSimpArgs false

/-! ### lockbox_Valid: function 11 -/
def lockbox_Valid.f (k : Nat) (a0 : ByteArray) : Option (Bool) := if (a0.size : Int) > 1 then ((lockbox_allDigits.f k a0).bind fun t129 => (if t129 = true then ((lockbox_luhn.f k a0 false).bind fun t130 => (some ((Int.tmod t130 10) == 0))) else (some false))) else (some false)
theorem lockbox_Valid.mono : ∀ a0 k, LeO (lockbox_Valid.f k a0) (lockbox_Valid.f (k + 1) a0) := by
  intro a0 k
  unfold lockbox_Valid.f
  repeat' first
      | (with_reducible exact lockbox_allDigits.mono _ _)
      | (with_reducible exact lockbox_luhn.mono _ _ _)
      | (with_reducible exact LeO.refl _)
      | (with_reducible exact LeO.none _)
      | (with_reducible refine LeO.ite ?_ ?_)
      | (with_reducible refine LeO.bind ?_ (fun _ => ?_))
      | exact lockbox_allDigits.mono _ _
      | exact lockbox_luhn.mono _ _ _
      | exact LeO.none _
      | refine LeO.ite ?_ ?_
      | refine LeO.bind ?_ (fun _ => ?_)
set_option maxHeartbeats 8000000 in
set_option maxRecDepth 100000 in
theorem lockbox_Valid.calls (k : Nat) (a0 : ByteArray) (r : Bool) (w : World) (h : lockbox_Valid.f k a0 = some r) :
    Calls Tryd.prog 11 #[.string a0] w fun e w' => e = .returned (.bool r) ∧ Drawn0 w w' := by
  have H : (if (a0.size : Int) > 1 then ((lockbox_allDigits.f k a0).bind fun t129 => (if t129 = true then ((lockbox_luhn.f k a0 false).bind fun t130 => (some ((Int.tmod t130 10) == 0))) else (some false))) else (some false)) = some r := h
  clear h
  by_cases c2 : (a0.size : Int) > 1
  · rw [if_pos c2] at H
    have c2b0 : decide (1 < (a0.size : Int)) = true := decide_eq_true c2
    have c2b1 : decide (1 < a0.size) = true := decide_eq_true (by omega)
    clear c2
    replace H := Option.bind_eq_some_iff.mp H
    obtain ⟨t129, A30, H⟩ := H
    replace H : (if t129 = true then ((lockbox_luhn.f k a0 false).bind fun t130 => (some ((Int.tmod t130 10) == 0))) else (some false)) = some r := H
    have A3 := Aside0.mk A30
    clear A30
    by_cases c4 : t129 = true
    · subst c4
      have H1 : ((lockbox_luhn.f k a0 false).bind fun t130 => (some ((Int.tmod t130 10) == 0))) = some r := by rw [if_pos rfl] at H; exact H
      clear H
      have H := H1
      clear H1
      replace H := Option.bind_eq_some_iff.mp H
      obtain ⟨t130, A50, H⟩ := H
      replace H : (some ((Int.tmod t130 10) == 0)) = some r := H
      have A5 := Aside0.mk A50
      clear A50
      obtain rfl := Option.some.inj H
      go_enter Tryd.func11, Tryd.ntmps11
      go_wp2_with (first | (go_at_call 31; (with_reducible refine (lockbox_allDigits.calls k a0 true _ A3.out).mono ?_); rintro e w' ⟨rfl, ⟨nd, rfl⟩⟩) | (go_at_call 27; (with_reducible refine (lockbox_luhn.calls k a0 false t130 _ A5.out).mono ?_); rintro e w' ⟨rfl, ⟨nd, rfl⟩⟩))
      go_ret
      exact ⟨by first | rfl | (simp; done) | (simp [*]; done), by repeat (first | exact Drawn0.refl _ | apply Drawn0.step)⟩
    · replace c4 := Bool.eq_false_iff.mpr c4
      subst c4
      have H1 : (some false) = some r := by rw [if_neg (show ¬ (false = true) by decide)] at H; exact H
      clear H
      have H := H1
      clear H1
      obtain rfl := Option.some.inj H
      go_enter Tryd.func11, Tryd.ntmps11
      go_wp2_with (first | (go_at_call 31; (with_reducible refine (lockbox_allDigits.calls k a0 false _ A3.out).mono ?_); rintro e w' ⟨rfl, ⟨nd, rfl⟩⟩))
      go_ret
      exact ⟨by first | rfl | (simp; done) | (simp [*]; done), by repeat (first | exact Drawn0.refl _ | apply Drawn0.step)⟩
  · rw [if_neg c2] at H
    have c2b0 : decide (1 < (a0.size : Int)) = false := decide_eq_false c2
    have c2b1 : decide (1 < a0.size) = false := decide_eq_false (by omega)
    clear c2
    obtain rfl := Option.some.inj H
    go_enter Tryd.func11, Tryd.ntmps11
    go_wp2
    go_ret
    exact ⟨by first | rfl | (simp; done) | (simp [*]; done), by repeat (first | exact Drawn0.refl _ | apply Drawn0.step)⟩

end Go.Proofs.YtkjdmbbaacjpmaaDoor.PLockboxDigits
