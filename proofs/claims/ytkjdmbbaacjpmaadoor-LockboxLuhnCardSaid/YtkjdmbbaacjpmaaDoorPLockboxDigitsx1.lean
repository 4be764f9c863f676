-- PRINTED BY print.sh 35421559b90ae4d0a3588c463048766b98c2df88dd9212a6774a882060cdf62d: not written by this session
import Derived.Test.YtkjdmbbaacjpmaaDoorPLockboxDigitsx0
namespace Go.Proofs.YtkjdmbbaacjpmaaDoor.PLockboxDigits
open Go.RowKit Go.Proofs.YtkjdmbbaacjpmaaDoorW.PrintWords Go.Proofs.YtkjdmbbaacjpmaaDoorW.PrintLast Go.Proofs.YtkjdmbbaacjpmaaDoorW.PrintMore
attribute [local go_sem] max2_int min2_int max_two min_two max_three min_three max_four min_four   -- for this text's walks alone
set_option linter.unusedVariables false
set_option linter.unusedSimpArgs false

/-! ### lockbox_luhn: function 27 -/
def lockbox_luhn.l0 : Nat → ByteArray → Bool → Int → Int → Int → Option (Int)
  | 0, _, _, _, _, _ => none
  | k + 1, x0, x1, x5, x9, x10 => if x10 < x9 then (if 0 ≤ (wrap64 ((wrap64 ((x0.size : Int) - 1)) - x10)) then (if (wrap64 ((wrap64 ((x0.size : Int) - 1)) - x10)) < (x0.size : Int) then (if x1 = true then (lockbox_luhn.l0 k x0 (!x1) (wrap64 (x5 + ((((((bt x0 (wrap64 ((wrap64 ((x0.size : Int) - 1)) - x10))) - 48) % 256) * 2) % 10) + ((((bt x0 (wrap64 ((wrap64 ((x0.size : Int) - 1)) - x10))) - 48) % 256) / 5)))) x9 (wrap64 (x10 + 1))) else (lockbox_luhn.l0 k x0 (!x1) (wrap64 (x5 + (((bt x0 (wrap64 ((wrap64 ((x0.size : Int) - 1)) - x10))) - 48) % 256))) x9 (wrap64 (x10 + 1)))) else (none)) else (none)) else (some x5)
def lockbox_luhn.f (k : Nat) (a0 : ByteArray) (a1 : Bool) : Option (Int) := lockbox_luhn.l0 k a0 a1 0 (a0.size : Int) 0
theorem lockbox_luhn.mono_l : ∀ k, (∀ y0 y1 y2 y3 y4, LeO (lockbox_luhn.l0 k y0 y1 y2 y3 y4) (lockbox_luhn.l0 (k + 1) y0 y1 y2 y3 y4))
  | 0 => fun _ _ _ _ _ r h => by simp [lockbox_luhn.l0] at h
  | k + 1 => by
    have ih0 := lockbox_luhn.mono_l k
    · intro y0 y1 y2 y3 y4
      unfold lockbox_luhn.l0
      repeat' first
      | (with_reducible exact ih0 _ _ _ _ _)
      | (with_reducible exact LeO.refl _)
      | (with_reducible exact LeO.none _)
      | (with_reducible refine LeO.ite ?_ ?_)
      | (with_reducible refine LeO.bind ?_ (fun _ => ?_))
      | exact ih0 _ _ _ _ _
      | exact LeO.none _
      | refine LeO.ite ?_ ?_
      | refine LeO.bind ?_ (fun _ => ?_)
theorem lockbox_luhn.mono : ∀ a0 a1 k, LeO (lockbox_luhn.f k a0 a1) (lockbox_luhn.f (k + 1) a0 a1) := by
  intro a0 a1 k
  have ih0 := lockbox_luhn.mono_l k
  unfold lockbox_luhn.f
  repeat' first
      | (with_reducible exact ih0 _ _ _ _ _)
      | (with_reducible exact LeO.refl _)
      | (with_reducible exact LeO.none _)
      | (with_reducible refine LeO.ite ?_ ?_)
      | (with_reducible refine LeO.bind ?_ (fun _ => ?_))
      | exact ih0 _ _ _ _ _
      | exact LeO.none _
      | refine LeO.ite ?_ ?_
      | refine LeO.bind ?_ (fun _ => ?_)
set_option maxHeartbeats 8000000 in
set_option maxRecDepth 100000 in
theorem lockbox_luhn.calls (k : Nat) (a0 : ByteArray) (a1 : Bool) (r : Int) (w : World) (h : lockbox_luhn.f k a0 a1 = some r) :
    Calls Tryd.prog 27 #[.string a0, .bool a1] w fun e w' => e = .returned (.int .i64 r) ∧ Drawn0 w w' := by
  have H : (lockbox_luhn.l0 k a0 a1 0 (a0.size : Int) 0) = some r := h
  clear h
  have H' := Aside0.mk H
  clear H
  go_enter Tryd.func27, Tryd.ntmps27
  go_wp2
  go_loopg [1, 5, 10] k (fun kq v1 v5 v10 w' => ∃ (x1_1 : Bool) (x5_1 : Int) (x10_1 : Int), v1 = .bool x1_1 ∧ v5 = .int .i64 x5_1 ∧ v10 = .int .i64 x10_1 ∧ Aside0 (lockbox_luhn.l0 kq a0 x1_1 x5_1 (a0.size : Int) x10_1 = some r) ∧ Aside0 (kq ≤ k) ∧ Drawn0 w w')
  case atStart => exact ⟨(a1), (0), (0), (by first | rfl | (simp; done) | (simp [*]; done)), (by first | rfl | (simp; done) | (simp [*]; done)), (by first | rfl | (simp; done) | (simp [*]; done)), H', ⟨Nat.le_refl _⟩, by repeat (first | exact Drawn0.refl _ | apply Drawn0.step)⟩
  case round =>
    clear H'
    try clear c2
    try clear p2
    obtain ⟨x1_1, x5_1, x10_1, rfl, rfl, rfl, HA, HK1, ⟨m1, rfl⟩⟩ := hrel
    cases gk with
    | zero => exact absurd HA.out (by simp [lockbox_luhn.l0])
    | succ k1 =>
      have H := HA.out
      clear HA
      simp only [lockbox_luhn.l0] at H
      by_cases c3 : x10_1 < (a0.size : Int)
      · rw [if_pos c3] at H
        have c3b0 : decide (x10_1 < (a0.size : Int)) = true := decide_eq_true c3
        clear c3
        obtain ⟨ji4, hji4⟩ : ∃ j_ : Int, (wrap64 ((wrap64 ((a0.size : Int) - 1)) - x10_1)) = j_ := ⟨_, rfl⟩
        replace H : (if 0 ≤ (ji4) then (if (ji4) < (a0.size : Int) then (if x1_1 = true then (lockbox_luhn.l0 k1 a0 (!x1_1) (wrap64 (x5_1 + ((((((bt a0 (ji4)) - 48) % 256) * 2) % 10) + ((((bt a0 (ji4)) - 48) % 256) / 5)))) (a0.size : Int) (wrap64 (x10_1 + 1))) else (lockbox_luhn.l0 k1 a0 (!x1_1) (wrap64 (x5_1 + (((bt a0 (ji4)) - 48) % 256))) (a0.size : Int) (wrap64 (x10_1 + 1)))) else (none)) else (none)) = some r := by first | (rw [hji4] at H; exact H) | (simp only [hji4] at H ⊢; exact H)
        have hji4w : (IntKind.i64.wrap ((wrap64 ((a0.size : Int) - 1)) - x10_1)) = ji4 := (i64_w _).trans hji4
        by_cases c5 : 0 ≤ (ji4)
        · rw [if_pos c5] at H
          have c5b0 : decide (0 ≤ (ji4)) = true := decide_eq_true c5
          clear c5
          by_cases c6 : (ji4) < (a0.size : Int)
          · rw [if_pos c6] at H
            have c6b0 : decide ((ji4) < (a0.size : Int)) = true := decide_eq_true c6
            clear c6
            by_cases c8 : x1_1 = true
            · subst c8
              have H1 : (lockbox_luhn.l0 k1 a0 (!true) (wrap64 (x5_1 + ((((((bt a0 (ji4)) - 48) % 256) * 2) % 10) + ((((bt a0 (ji4)) - 48) % 256) / 5)))) (a0.size : Int) (wrap64 (x10_1 + 1))) = some r := by rw [if_pos rfl] at H; exact H
              clear H
              have H := H1
              clear H1
              have H' := Aside0.mk H
              clear H
              have p7 : 0 ≤ ((ji4) : Int) := of_decide_eq_true (by first | (with_reducible assumption) | assumption)
              have q7 : (ji4) < (a0.size : Int) := of_decide_eq_true (by first | (with_reducible assumption) | assumption)
              have hx7 := bt_at a0 (ji4)
              replace p7 := eq_true p7
              replace q7 := eq_true q7
              go_wp2
              go_roundg k1
              case measure => have := HK1.out; omega
              case rel => exact ⟨(!true), (wrap64 (x5_1 + ((((((bt a0 (ji4)) - 48) % 256) * 2) % 10) + ((((bt a0 (ji4)) - 48) % 256) / 5)))), (wrap64 (x10_1 + 1)), (by first | rfl | (simp; done) | (simp [*]; done)), (by first | rfl | (simp; done) | (simp only [← hji4] <;> (first | rfl | simp)) | (simp [*]; done)), (by first | rfl | (simp; done) | (simp [*]; done)), H', ⟨by have := HK1.out; omega⟩, by repeat (first | exact Drawn0.refl _ | apply Drawn0.step)⟩
            · replace c8 := Bool.eq_false_iff.mpr c8
              subst c8
              have H1 : (lockbox_luhn.l0 k1 a0 (!false) (wrap64 (x5_1 + (((bt a0 (ji4)) - 48) % 256))) (a0.size : Int) (wrap64 (x10_1 + 1))) = some r := by rw [if_neg (show ¬ (false = true) by decide)] at H; exact H
              clear H
              have H := H1
              clear H1
              have H' := Aside0.mk H
              clear H
              have p7 : 0 ≤ ((ji4) : Int) := of_decide_eq_true (by first | (with_reducible assumption) | assumption)
              have q7 : (ji4) < (a0.size : Int) := of_decide_eq_true (by first | (with_reducible assumption) | assumption)
              have hx7 := bt_at a0 (ji4)
              replace p7 := eq_true p7
              replace q7 := eq_true q7
              go_wp2
              go_roundg k1
              case measure => have := HK1.out; omega
              case rel => exact ⟨(!false), (wrap64 (x5_1 + (((bt a0 (ji4)) - 48) % 256))), (wrap64 (x10_1 + 1)), (by first | rfl | (simp; done) | (simp [*]; done)), (by first | rfl | (simp; done) | (simp only [← hji4] <;> (first | rfl | simp)) | (simp [*]; done)), (by first | rfl | (simp; done) | (simp [*]; done)), H', ⟨by have := HK1.out; omega⟩, by repeat (first | exact Drawn0.refl _ | apply Drawn0.step)⟩
          · rw [if_neg c6] at H
            exact absurd H (by simp)
        · rw [if_neg c5] at H
          exact absurd H (by simp)
      · rw [if_neg c3] at H
        have c3b0 : decide (x10_1 < (a0.size : Int)) = false := decide_eq_false c3
        clear c3
        obtain rfl := Option.some.inj H
        go_wp2
        go_ret
        exact ⟨by first | rfl | (simp; done) | (simp [*]; done), by repeat (first | exact Drawn0.refl _ | apply Drawn0.step)⟩

end Go.Proofs.YtkjdmbbaacjpmaaDoor.PLockboxDigits
