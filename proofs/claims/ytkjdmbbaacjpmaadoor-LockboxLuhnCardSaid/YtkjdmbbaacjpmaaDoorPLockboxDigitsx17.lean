-- PRINTED BY print.sh 35421559b90ae4d0a3588c463048766b98c2df88dd9212a6774a882060cdf62d: not written by this session
import Derived.Test.YtkjdmbbaacjpmaaDoorPLockboxDigitsx0
namespace Go.Proofs.YtkjdmbbaacjpmaaDoor.PLockboxDigits
open Go.RowKit Go.Proofs.YtkjdmbbaacjpmaaDoorW.PrintWords Go.Proofs.YtkjdmbbaacjpmaaDoorW.PrintLast Go.Proofs.YtkjdmbbaacjpmaaDoorW.PrintMore
attribute [local go_sem] max2_int min2_int max_two min_two max_three min_three max_four min_four   -- for this text's walks alone
set_option linter.unusedVariables false
set_option linter.unusedSimpArgs false

/-! ### arrearsref20_weighed: function 29 -/
def arrearsref20_weighed.l0 : Nat → List Int → Bool → Int → Int → Option (Int)
  | 0, _, _, _, _ => none
  | k + 1, x0, x1, x5, x6 => if x6 < (x0.length : Int) then (if 0 ≤ x6 then (if (((Int.tmod (wrap64 ((wrap64 ((x0.length : Int) - 1)) - x6)) 2) == 0) == x1) = true then (if (2 * (((rd x0 x6) - 48) % 256)) > 9 then (arrearsref20_weighed.l0 k x0 x1 (wrap64 (x5 + ((2 * (((rd x0 x6) - 48) % 256)) - 9))) (wrap64 (x6 + 1))) else (arrearsref20_weighed.l0 k x0 x1 (wrap64 (x5 + (2 * (((rd x0 x6) - 48) % 256)))) (wrap64 (x6 + 1)))) else (arrearsref20_weighed.l0 k x0 x1 (wrap64 (x5 + (((rd x0 x6) - 48) % 256))) (wrap64 (x6 + 1)))) else (none)) else (some x5)
def arrearsref20_weighed.f (k : Nat) (l0 : List Int) (a1 : Bool) : Option (Int) := arrearsref20_weighed.l0 k l0 a1 0 0
theorem arrearsref20_weighed.mono_l : ∀ k, (∀ y0 y1 y2 y3, LeO (arrearsref20_weighed.l0 k y0 y1 y2 y3) (arrearsref20_weighed.l0 (k + 1) y0 y1 y2 y3))
  | 0 => fun _ _ _ _ r h => by simp [arrearsref20_weighed.l0] at h
  | k + 1 => by
    have ih0 := arrearsref20_weighed.mono_l k
    · intro y0 y1 y2 y3
      unfold arrearsref20_weighed.l0
      repeat' first
      | (with_reducible exact ih0 _ _ _ _)
      | (with_reducible exact LeO.refl _)
      | (with_reducible exact LeO.none _)
      | (with_reducible refine LeO.ite ?_ ?_)
      | (with_reducible refine LeO.bind ?_ (fun _ => ?_))
      | exact ih0 _ _ _ _
      | exact LeO.none _
      | refine LeO.ite ?_ ?_
      | refine LeO.bind ?_ (fun _ => ?_)
theorem arrearsref20_weighed.mono : ∀ a0 a1 k, LeO (arrearsref20_weighed.f k a0 a1) (arrearsref20_weighed.f (k + 1) a0 a1) := by
  intro a0 a1 k
  have ih0 := arrearsref20_weighed.mono_l k
  unfold arrearsref20_weighed.f
  repeat' first
      | (with_reducible exact ih0 _ _ _ _)
      | (with_reducible exact LeO.refl _)
      | (with_reducible exact LeO.none _)
      | (with_reducible refine LeO.ite ?_ ?_)
      | (with_reducible refine LeO.bind ?_ (fun _ => ?_))
      | exact ih0 _ _ _ _
      | exact LeO.none _
      | refine LeO.ite ?_ ?_
      | refine LeO.bind ?_ (fun _ => ?_)
set_option maxHeartbeats 8000000 in
set_option maxRecDepth 100000 in
theorem arrearsref20_weighed.calls (k : Nat) (A0 : Option Addr) (c0 : Nat) (l0 : List Int) (a1 : Bool) (r : Int) (w : World) (hr0 : Kd.C (Kd.int .u8) w A0 l0.length l0) (hc0 : l0.length ≤ c0) (h : arrearsref20_weighed.f k l0 a1 = some r) :
    Calls Tryd.prog 29 #[.slice A0 l0.length c0, .bool a1] w fun e w' => e = .returned (.int .i64 r) ∧ Drawn0 w w' := by
  have HR0 := Aside0.mk hr0
  have HC0 := Aside0.mk hc0
  clear hr0 hc0
  have H : (arrearsref20_weighed.l0 k l0 a1 0 0) = some r := h
  clear h
  have H' := Aside0.mk H
  clear H
  go_enter Tryd.func29, Tryd.ntmps29
  go_wp2
  go_loopg [5, 6] k (fun kq v5 v6 w' => ∃ (x5_1 : Int) (x6_1 : Int), v5 = .int .i64 x5_1 ∧ v6 = .int .i64 x6_1 ∧ Aside0 (arrearsref20_weighed.l0 kq l0 a1 x5_1 x6_1 = some r) ∧ Aside0 (kq ≤ k) ∧ Drawn0 w w')
  case atStart => exact ⟨(0), (0), (by first | rfl | (simp; done) | (simp [*]; done)), (by first | rfl | (simp; done) | (simp [*]; done)), H', ⟨Nat.le_refl _⟩, by repeat (first | exact Drawn0.refl _ | apply Drawn0.step)⟩
  case round =>
    clear H'
    try clear c2
    try clear p2
    obtain ⟨x5_1, x6_1, rfl, rfl, HA, HK1, ⟨m1, rfl⟩⟩ := hrel
    cases gk with
    | zero => exact absurd HA.out (by simp [arrearsref20_weighed.l0])
    | succ k1 =>
      have H := HA.out
      clear HA
      simp only [arrearsref20_weighed.l0] at H
      by_cases c3 : x6_1 < (l0.length : Int)
      · rw [if_pos c3] at H
        have c3b0 : decide (x6_1 < (l0.length : Int)) = true := decide_eq_true c3
        clear c3
        by_cases c4 : 0 ≤ x6_1
        · rw [if_pos c4] at H
          have c4b0 : decide (0 ≤ x6_1) = true := decide_eq_true c4
          clear c4
          by_cases c5 : (((Int.tmod (wrap64 ((wrap64 ((l0.length : Int) - 1)) - x6_1)) 2) == 0) == a1) = true
          · rw [if_pos c5] at H
            have c5b0 : (((Int.tmod (wrap64 ((wrap64 ((l0.length : Int) - 1)) - x6_1)) 2) == 0) == a1) = true := c5
            (try (have c5b1 : decide (((Int.tmod (wrap64 ((wrap64 ((l0.length : Int) - 1)) - x6_1)) 2) == 0) = a1) = true := by simpa using c5))
            (try (have c5b2 : (((Int.tmod (wrap64 ((wrap64 ((l0.length : Int) - 1)) - x6_1)) 2) == 0) == a1) = true := by simpa using c5))
            clear c5
            by_cases c6 : (2 * (((rd l0 x6_1) - 48) % 256)) > 9
            · rw [if_pos c6] at H
              have c6b0 : decide (9 < (2 * (((rd l0 x6_1) - 48) % 256))) = true := decide_eq_true c6
              clear c6
              have H' := Aside0.mk H
              clear H
              have p120 : 0 ≤ (x6_1 : Int) := of_decide_eq_true (by first | (with_reducible assumption) | assumption)
              have q120 : x6_1 < (l0.length : Int) := of_decide_eq_true (by first | (with_reducible assumption) | assumption)
              obtain ⟨ad120, e120, hx120_0⟩ := Kd.at_int HR0.out x6_1 p120 q120
              cases e120
              replace p120 := eq_true p120
              replace q120 := eq_true q120
              go_wp2
              go_roundg k1
              case measure => have := HK1.out; omega
              case rel => exact ⟨(wrap64 (x5_1 + ((2 * (((rd l0 x6_1) - 48) % 256)) - 9))), (wrap64 (x6_1 + 1)), (by first | rfl | (simp; done) | (simp [*]; done)), (by first | rfl | (simp; done) | (simp [*]; done)), H', ⟨by have := HK1.out; omega⟩, by repeat (first | exact Drawn0.refl _ | apply Drawn0.step)⟩
            · rw [if_neg c6] at H
              have c6b0 : decide (9 < (2 * (((rd l0 x6_1) - 48) % 256))) = false := decide_eq_false c6
              clear c6
              have H' := Aside0.mk H
              clear H
              have p120 : 0 ≤ (x6_1 : Int) := of_decide_eq_true (by first | (with_reducible assumption) | assumption)
              have q120 : x6_1 < (l0.length : Int) := of_decide_eq_true (by first | (with_reducible assumption) | assumption)
              obtain ⟨ad120, e120, hx120_0⟩ := Kd.at_int HR0.out x6_1 p120 q120
              cases e120
              replace p120 := eq_true p120
              replace q120 := eq_true q120
              go_wp2
              go_roundg k1
              case measure => have := HK1.out; omega
              case rel => exact ⟨(wrap64 (x5_1 + (2 * (((rd l0 x6_1) - 48) % 256)))), (wrap64 (x6_1 + 1)), (by first | rfl | (simp; done) | (simp [*]; done)), (by first | rfl | (simp; done) | (simp [*]; done)), H', ⟨by have := HK1.out; omega⟩, by repeat (first | exact Drawn0.refl _ | apply Drawn0.step)⟩
          · rw [if_neg c5] at H
            have c5b0 : (((Int.tmod (wrap64 ((wrap64 ((l0.length : Int) - 1)) - x6_1)) 2) == 0) == a1) = false := by simpa using c5
            (try (have c5b1 : decide (((Int.tmod (wrap64 ((wrap64 ((l0.length : Int) - 1)) - x6_1)) 2) == 0) = a1) = false := by simpa using c5))
            (try (have c5b2 : (((Int.tmod (wrap64 ((wrap64 ((l0.length : Int) - 1)) - x6_1)) 2) == 0) == a1) = false := by simpa using c5))
            (try (have c5b3 : ¬ (((Int.tmod (wrap64 ((wrap64 ((l0.length : Int) - 1)) - x6_1)) 2) == 0) = a1) := by simpa using c5))
            clear c5
            have H' := Aside0.mk H
            clear H
            have p120 : 0 ≤ (x6_1 : Int) := of_decide_eq_true (by first | (with_reducible assumption) | assumption)
            have q120 : x6_1 < (l0.length : Int) := of_decide_eq_true (by first | (with_reducible assumption) | assumption)
            obtain ⟨ad120, e120, hx120_0⟩ := Kd.at_int HR0.out x6_1 p120 q120
            cases e120
            replace p120 := eq_true p120
            replace q120 := eq_true q120
            go_wp2
            go_roundg k1
            case measure => have := HK1.out; omega
            case rel => exact ⟨(wrap64 (x5_1 + (((rd l0 x6_1) - 48) % 256))), (wrap64 (x6_1 + 1)), (by first | rfl | (simp; done) | (simp [*]; done)), (by first | rfl | (simp; done) | (simp [*]; done)), H', ⟨by have := HK1.out; omega⟩, by repeat (first | exact Drawn0.refl _ | apply Drawn0.step)⟩
        · rw [if_neg c4] at H
          exact absurd H (by simp)
      · rw [if_neg c3] at H
        have c3b0 : decide (x6_1 < (l0.length : Int)) = false := decide_eq_false c3
        clear c3
        obtain rfl := Option.some.inj H
        go_wp2
        go_ret
        exact ⟨by first | rfl | (simp; done) | (simp [*]; done), by repeat (first | exact Drawn0.refl _ | apply Drawn0.step)⟩

end Go.Proofs.YtkjdmbbaacjpmaaDoor.PLockboxDigits
