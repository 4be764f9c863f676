-- Written for this claim by a program of this session (turned from the kit's print).
import Derived.Test.YtkjdmbbaacjpmaaDoorLx0
import Derived.Test.YtkjdmbbaacjpmaaDoorLx1
import Derived.Test.YtkjdmbbaacjpmaaDoorLx2
namespace Go.Proofs.YtkjdmbbaacjpmaaDoor.L
open Go.RowKit Go.Proofs.YtkjdmbbaacjpmaaDoorW.PrintWords Go.Proofs.YtkjdmbbaacjpmaaDoorW.PrintLast Go.Proofs.YtkjdmbbaacjpmaaDoorW.PrintMore
attribute [local go_sem] max2_int min2_int max_two min_two max_three min_three max_four min_four   -- for this text's walks alone
set_option linter.unusedVariables false
set_option linter.unusedSimpArgs false

/-! ### arrearslaw20_LockboxLuhn: function 4 -/
mutual
def arrearslaw20_LockboxLuhn.j0 : Nat → Int → Int → Int → Int → Bool → Bool → Option (Bool)
  | 0, _, _, _, _, _, _ => none
  | k + 1, x0, x1, x2, x7, x8, x25 => if x25 = true then (if x7 = 0 then (some (!x8)) else (some false)) else (if x8 = true then (if x7 < 0 then (arrearslaw20_LockboxLuhn.j1 k x0 x1 x2 x7 true) else (arrearslaw20_LockboxLuhn.j1 k x0 x1 x2 x7 (decide (x7 > 9)))) else (arrearslaw20_LockboxLuhn.j1 k x0 x1 x2 x7 true))
def arrearslaw20_LockboxLuhn.j1 : Nat → Int → Int → Int → Int → Bool → Option (Bool)
  | 0, _, _, _, _, _ => none
  | k + 1, x0, x1, x2, x7, x41 => if x41 = true then (some false) else (arrearslaw20_LockboxLuhn.l0 k x0 x1 x2 x7 ([] : List Int) 100000)
def arrearslaw20_LockboxLuhn.l0 : Nat → Int → Int → Int → Int → List Int → Int → Option (Bool)
  | 0, _, _, _, _, _, _ => none
  | k + 1, x0, x1, x2, x7, x9, x10 => if x10 > 0 then (if x10 = 0 then (none) else (if x9.length < 140737488355328 then (arrearslaw20_LockboxLuhn.l0 k x0 x1 x2 x7 (x9 ++ [(wrap64 (48 + (Int.tmod (wrap64 (Int.tdiv x0 x10)) 10))) % 256]) (wrap64 (Int.tdiv x10 10))) else (none))) else (if x9.length < 140737488355328 then ((some (x9 ++ [(wrap64 (48 + x7)) % 256] : List Int)).bind fun y110 => ((arrearslaw20_text.f y110).bind fun t113 => ((lockbox_Valid.f t113).bind fun t114 => (if t114 = true then (if x1 < 0 then (arrearslaw20_LockboxLuhn.j3 k x1 x2 y110 true) else (if x1 ≥ (y110.length : Int) then (arrearslaw20_LockboxLuhn.j3 k x1 x2 y110 true) else (if x2 < 0 then (arrearslaw20_LockboxLuhn.j3 k x1 x2 y110 true) else (arrearslaw20_LockboxLuhn.j3 k x1 x2 y110 (decide (x2 > 9)))))) else (some false))))) else (none))
def arrearslaw20_LockboxLuhn.j3 : Nat → Int → Int → List Int → Bool → Option (Bool)
  | 0, _, _, _, _ => none
  | k + 1, x1, x2, x9, x80 => if x80 = true then (some true) else (if (wrap64 (x1 + 1)) < (x9.length : Int) then (if 0 ≤ x1 then (if x1 < (x9.length : Int) then (if 0 ≤ (wrap64 (x1 + 1)) then (arrearslaw20_LockboxLuhn.j4 k x1 x2 x9 ((rd x9 x1) != (rd x9 (wrap64 (x1 + 1))))) else (none)) else (none)) else (none)) else (arrearslaw20_LockboxLuhn.j4 k x1 x2 x9 false))
def arrearslaw20_LockboxLuhn.j4 : Nat → Int → Int → List Int → Bool → Option (Bool)
  | 0, _, _, _, _ => none
  | k + 1, x1, x2, x9, x97 => if x97 = true then ((arrearslaw19_CopyBytes.f k x9).bind fun t117 => (if 0 ≤ (wrap64 (x1 + 1)) then (if (wrap64 (x1 + 1)) < (x9.length : Int) then (if 0 ≤ x1 then (if x1 < (t117.length : Int) then (if x1 < (x9.length : Int) then (if (wrap64 (x1 + 1)) < (t117.length : Int) then ((some ((t117.set (x1 : Int).toNat (rd x9 (wrap64 (x1 + 1)))).set ((wrap64 (x1 + 1)) : Int).toNat (rd x9 x1) : List Int)).bind fun y123 => (if ((((rd x9 x1) - 48) % 256) + (((rd x9 (wrap64 (x1 + 1))) - 48) % 256)) = 9 then (if (rd x9 x1) = 48 then (arrearslaw20_LockboxLuhn.j5 k x1 x2 x9 y123 true) else (arrearslaw20_LockboxLuhn.j5 k x1 x2 x9 y123 ((rd x9 x1) == 57))) else (arrearslaw20_LockboxLuhn.j5 k x1 x2 x9 y123 false))) else (none)) else (none)) else (none)) else (none)) else (none)) else (none))) else (if 0 ≤ x1 then (if x1 < (x9.length : Int) then ((arrearslaw20_text.f (x9.set (x1 : Int).toNat ((wrap64 (48 + x2)) % 256))).bind fun t136 => ((lockbox_Valid.f t136).bind fun t137 => (some (t137 == ((rd x9 x1) == ((wrap64 (48 + x2)) % 256)))))) else (none)) else (none))
def arrearslaw20_LockboxLuhn.j5 : Nat → Int → Int → List Int → List Int → Bool → Option (Bool)
  | 0, _, _, _, _, _ => none
  | k + 1, x1, x2, x9, x11, x13 => (arrearslaw20_text.f x11).bind fun t128 => ((lockbox_Valid.f t128).bind fun t129 => (if (t129 != x13) = true then (some false) else (if 0 ≤ x1 then (if x1 < (x9.length : Int) then ((arrearslaw20_text.f (x9.set (x1 : Int).toNat ((wrap64 (48 + x2)) % 256))).bind fun t132 => ((lockbox_Valid.f t132).bind fun t133 => (some (t133 == ((rd x9 x1) == ((wrap64 (48 + x2)) % 256)))))) else (none)) else (none))))
end
def arrearslaw20_LockboxLuhn.f (k : Nat) (a0 : Int) (a1 : Int) (a2 : Int) : Option (Bool) := (lockbox_CheckDigit.f a0).bind fun bt105 => (if a0 < 0 then (arrearslaw20_LockboxLuhn.j0 k a0 a1 a2 bt105.1 bt105.2 true) else (arrearslaw20_LockboxLuhn.j0 k a0 a1 a2 bt105.1 bt105.2 (decide (a0 > 999999))))
theorem arrearslaw20_LockboxLuhn.mono_l : ∀ k, (∀ y0 y1 y2 y3 y4 y5, LeO (arrearslaw20_LockboxLuhn.j0 k y0 y1 y2 y3 y4 y5) (arrearslaw20_LockboxLuhn.j0 (k + 1) y0 y1 y2 y3 y4 y5)) ∧ (∀ y0 y1 y2 y3 y4, LeO (arrearslaw20_LockboxLuhn.j1 k y0 y1 y2 y3 y4) (arrearslaw20_LockboxLuhn.j1 (k + 1) y0 y1 y2 y3 y4)) ∧ (∀ y0 y1 y2 y3 y4 y5, LeO (arrearslaw20_LockboxLuhn.l0 k y0 y1 y2 y3 y4 y5) (arrearslaw20_LockboxLuhn.l0 (k + 1) y0 y1 y2 y3 y4 y5)) ∧ (∀ y0 y1 y2 y3, LeO (arrearslaw20_LockboxLuhn.j3 k y0 y1 y2 y3) (arrearslaw20_LockboxLuhn.j3 (k + 1) y0 y1 y2 y3)) ∧ (∀ y0 y1 y2 y3, LeO (arrearslaw20_LockboxLuhn.j4 k y0 y1 y2 y3) (arrearslaw20_LockboxLuhn.j4 (k + 1) y0 y1 y2 y3)) ∧ (∀ y0 y1 y2 y3 y4, LeO (arrearslaw20_LockboxLuhn.j5 k y0 y1 y2 y3 y4) (arrearslaw20_LockboxLuhn.j5 (k + 1) y0 y1 y2 y3 y4))
  | 0 => ⟨fun _ _ _ _ _ _ r h => by simp [arrearslaw20_LockboxLuhn.j0] at h, fun _ _ _ _ _ r h => by simp [arrearslaw20_LockboxLuhn.j1] at h, fun _ _ _ _ _ _ r h => by simp [arrearslaw20_LockboxLuhn.l0] at h, fun _ _ _ _ r h => by simp [arrearslaw20_LockboxLuhn.j3] at h, fun _ _ _ _ r h => by simp [arrearslaw20_LockboxLuhn.j4] at h, fun _ _ _ _ _ r h => by simp [arrearslaw20_LockboxLuhn.j5] at h⟩
  | k + 1 => by
    obtain ⟨ih0, ih1, ih2, ih3, ih4, ih5⟩ := arrearslaw20_LockboxLuhn.mono_l k
    refine ⟨?_, ?_, ?_, ?_, ?_, ?_⟩
    · intro y0 y1 y2 y3 y4 y5
      unfold arrearslaw20_LockboxLuhn.j0
      repeat' first
      | (with_reducible exact ih0 _ _ _ _ _ _)
      | (with_reducible exact ih1 _ _ _ _ _)
      | (with_reducible exact ih2 _ _ _ _ _ _)
      | (with_reducible exact ih3 _ _ _ _)
      | (with_reducible exact ih4 _ _ _ _)
      | (with_reducible exact ih5 _ _ _ _ _)
      | (with_reducible exact arrearslaw19_CopyBytes.mono _ _)
      | (with_reducible exact LeO.refl _)
      | (with_reducible exact LeO.none _)
      | (with_reducible refine LeO.ite ?_ ?_)
      | (with_reducible refine LeO.bind ?_ (fun _ => ?_))
      | exact ih0 _ _ _ _ _ _
      | exact ih1 _ _ _ _ _
      | exact ih2 _ _ _ _ _ _
      | exact ih3 _ _ _ _
      | exact ih4 _ _ _ _
      | exact ih5 _ _ _ _ _
      | exact arrearslaw19_CopyBytes.mono _ _
      | exact LeO.none _
      | refine LeO.ite ?_ ?_
      | refine LeO.bind ?_ (fun _ => ?_)
    · intro y0 y1 y2 y3 y4
      unfold arrearslaw20_LockboxLuhn.j1
      repeat' first
      | (with_reducible exact ih0 _ _ _ _ _ _)
      | (with_reducible exact ih1 _ _ _ _ _)
      | (with_reducible exact ih2 _ _ _ _ _ _)
      | (with_reducible exact ih3 _ _ _ _)
      | (with_reducible exact ih4 _ _ _ _)
      | (with_reducible exact ih5 _ _ _ _ _)
      | (with_reducible exact arrearslaw19_CopyBytes.mono _ _)
      | (with_reducible exact LeO.refl _)
      | (with_reducible exact LeO.none _)
      | (with_reducible refine LeO.ite ?_ ?_)
      | (with_reducible refine LeO.bind ?_ (fun _ => ?_))
      | exact ih0 _ _ _ _ _ _
      | exact ih1 _ _ _ _ _
      | exact ih2 _ _ _ _ _ _
      | exact ih3 _ _ _ _
      | exact ih4 _ _ _ _
      | exact ih5 _ _ _ _ _
      | exact arrearslaw19_CopyBytes.mono _ _
      | exact LeO.none _
      | refine LeO.ite ?_ ?_
      | refine LeO.bind ?_ (fun _ => ?_)
    · intro y0 y1 y2 y3 y4 y5
      unfold arrearslaw20_LockboxLuhn.l0
      repeat' first
      | (with_reducible exact ih0 _ _ _ _ _ _)
      | (with_reducible exact ih1 _ _ _ _ _)
      | (with_reducible exact ih2 _ _ _ _ _ _)
      | (with_reducible exact ih3 _ _ _ _)
      | (with_reducible exact ih4 _ _ _ _)
      | (with_reducible exact ih5 _ _ _ _ _)
      | (with_reducible exact arrearslaw19_CopyBytes.mono _ _)
      | (with_reducible exact LeO.refl _)
      | (with_reducible exact LeO.none _)
      | (with_reducible refine LeO.ite ?_ ?_)
      | (with_reducible refine LeO.bind ?_ (fun _ => ?_))
      | exact ih0 _ _ _ _ _ _
      | exact ih1 _ _ _ _ _
      | exact ih2 _ _ _ _ _ _
      | exact ih3 _ _ _ _
      | exact ih4 _ _ _ _
      | exact ih5 _ _ _ _ _
      | exact arrearslaw19_CopyBytes.mono _ _
      | exact LeO.none _
      | refine LeO.ite ?_ ?_
      | refine LeO.bind ?_ (fun _ => ?_)
    · intro y0 y1 y2 y3
      unfold arrearslaw20_LockboxLuhn.j3
      repeat' first
      | (with_reducible exact ih0 _ _ _ _ _ _)
      | (with_reducible exact ih1 _ _ _ _ _)
      | (with_reducible exact ih2 _ _ _ _ _ _)
      | (with_reducible exact ih3 _ _ _ _)
      | (with_reducible exact ih4 _ _ _ _)
      | (with_reducible exact ih5 _ _ _ _ _)
      | (with_reducible exact arrearslaw19_CopyBytes.mono _ _)
      | (with_reducible exact LeO.refl _)
      | (with_reducible exact LeO.none _)
      | (with_reducible refine LeO.ite ?_ ?_)
      | (with_reducible refine LeO.bind ?_ (fun _ => ?_))
      | exact ih0 _ _ _ _ _ _
      | exact ih1 _ _ _ _ _
      | exact ih2 _ _ _ _ _ _
      | exact ih3 _ _ _ _
      | exact ih4 _ _ _ _
      | exact ih5 _ _ _ _ _
      | exact arrearslaw19_CopyBytes.mono _ _
      | exact LeO.none _
      | refine LeO.ite ?_ ?_
      | refine LeO.bind ?_ (fun _ => ?_)
    · intro y0 y1 y2 y3
      unfold arrearslaw20_LockboxLuhn.j4
      repeat' first
      | (with_reducible exact ih0 _ _ _ _ _ _)
      | (with_reducible exact ih1 _ _ _ _ _)
      | (with_reducible exact ih2 _ _ _ _ _ _)
      | (with_reducible exact ih3 _ _ _ _)
      | (with_reducible exact ih4 _ _ _ _)
      | (with_reducible exact ih5 _ _ _ _ _)
      | (with_reducible exact arrearslaw19_CopyBytes.mono _ _)
      | (with_reducible exact LeO.refl _)
      | (with_reducible exact LeO.none _)
      | (with_reducible refine LeO.ite ?_ ?_)
      | (with_reducible refine LeO.bind ?_ (fun _ => ?_))
      | exact ih0 _ _ _ _ _ _
      | exact ih1 _ _ _ _ _
      | exact ih2 _ _ _ _ _ _
      | exact ih3 _ _ _ _
      | exact ih4 _ _ _ _
      | exact ih5 _ _ _ _ _
      | exact arrearslaw19_CopyBytes.mono _ _
      | exact LeO.none _
      | refine LeO.ite ?_ ?_
      | refine LeO.bind ?_ (fun _ => ?_)
    · intro y0 y1 y2 y3 y4
      unfold arrearslaw20_LockboxLuhn.j5
      repeat' first
      | (with_reducible exact ih0 _ _ _ _ _ _)
      | (with_reducible exact ih1 _ _ _ _ _)
      | (with_reducible exact ih2 _ _ _ _ _ _)
      | (with_reducible exact ih3 _ _ _ _)
      | (with_reducible exact ih4 _ _ _ _)
      | (with_reducible exact ih5 _ _ _ _ _)
      | (with_reducible exact arrearslaw19_CopyBytes.mono _ _)
      | (with_reducible exact LeO.refl _)
      | (with_reducible exact LeO.none _)
      | (with_reducible refine LeO.ite ?_ ?_)
      | (with_reducible refine LeO.bind ?_ (fun _ => ?_))
      | exact ih0 _ _ _ _ _ _
      | exact ih1 _ _ _ _ _
      | exact ih2 _ _ _ _ _ _
      | exact ih3 _ _ _ _
      | exact ih4 _ _ _ _
      | exact ih5 _ _ _ _ _
      | exact arrearslaw19_CopyBytes.mono _ _
      | exact LeO.none _
      | refine LeO.ite ?_ ?_
      | refine LeO.bind ?_ (fun _ => ?_)
theorem arrearslaw20_LockboxLuhn.mono : ∀ a0 a1 a2 k, LeO (arrearslaw20_LockboxLuhn.f k a0 a1 a2) (arrearslaw20_LockboxLuhn.f (k + 1) a0 a1 a2) := by
  intro a0 a1 a2 k
  obtain ⟨ih0, ih1, ih2, ih3, ih4, ih5⟩ := arrearslaw20_LockboxLuhn.mono_l k
  unfold arrearslaw20_LockboxLuhn.f
  repeat' first
      | (with_reducible exact ih0 _ _ _ _ _ _)
      | (with_reducible exact ih1 _ _ _ _ _)
      | (with_reducible exact ih2 _ _ _ _ _ _)
      | (with_reducible exact ih3 _ _ _ _)
      | (with_reducible exact ih4 _ _ _ _)
      | (with_reducible exact ih5 _ _ _ _ _)
      | (with_reducible exact arrearslaw19_CopyBytes.mono _ _)
      | (with_reducible exact LeO.refl _)
      | (with_reducible exact LeO.none _)
      | (with_reducible refine LeO.ite ?_ ?_)
      | (with_reducible refine LeO.bind ?_ (fun _ => ?_))
      | exact ih0 _ _ _ _ _ _
      | exact ih1 _ _ _ _ _
      | exact ih2 _ _ _ _ _ _
      | exact ih3 _ _ _ _
      | exact ih4 _ _ _ _
      | exact ih5 _ _ _ _ _
      | exact arrearslaw19_CopyBytes.mono _ _
      | exact LeO.none _
      | refine LeO.ite ?_ ?_
      | refine LeO.bind ?_ (fun _ => ?_)
set_option maxHeartbeats 8000000 in
set_option maxRecDepth 100000 in
theorem arrearslaw20_LockboxLuhn.calls (k : Nat) (a0 : Int) (a1 : Int) (a2 : Int) (r : Bool) (w : World) (h : arrearslaw20_LockboxLuhn.f k a0 a1 a2 = some r) (HT : Aside0 (Tab w) := by first | assumption | exact tab_auto (by assumption) (by repeat (first | (with_reducible first | (with_reducible exact Aside0.out (by assumption)) | apply below_alloc | apply pw_below_drewN | apply below_drew1)))) :
    Calls Tryd.prog 4 #[.int .i64 a0, .int .i64 a1, .int .i64 a2] w fun e w' => e = .returned (.bool r) ∧ Below w.heap.size w w' := by
  have HB := Aside0.mk (Below.refl w.heap.size w)
  have H : ((lockbox_CheckDigit.f a0).bind fun bt105 => (if a0 < 0 then (arrearslaw20_LockboxLuhn.j0 k a0 a1 a2 bt105.1 bt105.2 true) else (arrearslaw20_LockboxLuhn.j0 k a0 a1 a2 bt105.1 bt105.2 (decide (a0 > 999999))))) = some r := h
  clear h
  replace H := Option.bind_eq_some_iff.mp H
  obtain ⟨⟨t105, t106⟩, A40, H⟩ := H
  replace H : (if a0 < 0 then (arrearslaw20_LockboxLuhn.j0 k a0 a1 a2 t105 t106 true) else (arrearslaw20_LockboxLuhn.j0 k a0 a1 a2 t105 t106 (decide (a0 > 999999)))) = some r := H
  have A4 := Aside0.mk A40
  clear A40
  have HC5 := Aside0.mk H
  clear H
  go_enter Tryd.func4, Tryd.ntmps4
  go_upto_region 2 with (first | (go_at_call 9; (with_reducible refine (lockbox_CheckDigit.calls a0 t105 t106 _ A4.out).mono ?_); rintro e w6 ⟨rfl, hb⟩; have n0_ := Aside0.mk (below_step (by repeat (first | (with_reducible first | exact HB.out | apply below_alloc | apply pw_below_drewN | apply below_drew1) | exact HB.out)) hb); clear HB; have HB := n0_; clear n0_; (try clear hb); (try clear hb2); (try clear hk); (try clear hi)))
  repeat (go_quiet (first | (go_at_call 9; (with_reducible refine (lockbox_CheckDigit.calls a0 t105 t106 _ A4.out).mono ?_); rintro e w6 ⟨rfl, hb⟩; have n0_ := Aside0.mk (below_step (by repeat (first | (with_reducible first | exact HB.out | apply below_alloc | apply pw_below_drewN | apply below_drew1) | exact HB.out)) hb); clear HB; have HB := n0_; clear n0_; (try clear hb); (try clear hb2); (try clear hk); (try clear hi))); go_upto_region 2 with (first | (go_at_call 9; (with_reducible refine (lockbox_CheckDigit.calls a0 t105 t106 _ A4.out).mono ?_); rintro e w6 ⟨rfl, hb⟩; have n0_ := Aside0.mk (below_step (by repeat (first | (with_reducible first | exact HB.out | apply below_alloc | apply pw_below_drewN | apply below_drew1) | exact HB.out)) hb); clear HB; have HB := n0_; clear n0_; (try clear hb); (try clear hb2); (try clear hk); (try clear hi))))
  (try simp only [Act.put, List.setIfInBounds_toArray, List.set_cons_zero, List.set_cons_succ])
  go_cut [25] (fun v25 wc => ∃ (kq : Nat) (x25_4 : Bool), v25 = .bool x25_4 ∧ Aside0 (arrearslaw20_LockboxLuhn.j0 kq a0 a1 a2 t105 t106 x25_4 = some r) ∧ Aside0 (kq ≤ k) ∧ Aside0 (Below w.heap.size w wc))
  case first =>
    have H := HC5.out
    clear HC5
    by_cases c7 : a0 < 0
    · rw [if_pos c7] at H
      have c7b0 : decide (a0 < 0) = true := decide_eq_true c7
      clear c7
      (first | rw [c7b0] | (simp only [i64_w, i32_w]; rw [c7b0]) | skip)
      have H' := Aside0.mk H
      clear H
      go_wp2
      repeat (go_quiet (fail); try go_wp2)
      go_meet
      case rel => exact ⟨_, (true), (by first | rfl | (simp; done) | (simp [*]; done)), H', ⟨by first | omega | exact Nat.le_refl _⟩, ⟨by repeat (first | (with_reducible first | exact HB.out | apply below_alloc | apply pw_below_drewN | apply below_drew1) | exact HB.out)⟩⟩
    · rw [if_neg c7] at H
      have c7b0 : decide (a0 < 0) = false := decide_eq_false c7
      clear c7
      (first | rw [c7b0] | (simp only [i64_w, i32_w]; rw [c7b0]) | skip)
      have H' := Aside0.mk H
      clear H
      go_wp2
      repeat (go_quiet (fail); try go_wp2)
      go_meet
      case rel => exact ⟨_, (decide (a0 > 999999)), (by first | rfl | (simp; done) | (simp [*]; done)), H', ⟨by first | omega | exact Nat.le_refl _⟩, ⟨by repeat (first | (with_reducible first | exact HB.out | apply below_alloc | apply pw_below_drewN | apply below_drew1) | exact HB.out)⟩⟩
  case rest =>
    clear HC5
    try clear p2
    try clear c4
    try clear c7
    try clear c7b0
    obtain ⟨kq, x25_4, rfl, HA, HJ4, HB⟩ := hcut
    cases kq with
    | zero => exact absurd HA.out (by simp [arrearslaw20_LockboxLuhn.j0])
    | succ kj4 =>
      have H := HA.out
      clear HA
      simp only [arrearslaw20_LockboxLuhn.j0] at H
      by_cases c8 : x25_4 = true
      · subst c8
        have H1 : (if t105 = 0 then (some (!t106)) else (some false)) = some r := by rw [if_pos rfl] at H; exact H
        clear H
        have H := H1
        clear H1
        by_cases c9 : t105 = 0
        · rw [if_pos c9] at H
          have c9b0 : (t105 == 0) = true := beq_iff_eq.mpr c9
          have c9b1 : (t105 != 0) = false := bne_eq_false_iff_eq.mpr c9
          clear c9
          obtain rfl := Option.some.inj H
          go_wp2
          repeat (go_quiet (fail); try go_wp2)
          go_ret
          exact ⟨by first | rfl | (simp [errW_none, errW_some] <;> rfl) | (simp [*, errW_none, errW_some] <;> rfl), by repeat (first | (with_reducible first | exact HB.out | apply below_alloc | apply pw_below_drewN | apply below_drew1) | exact HB.out)⟩
        · rw [if_neg c9] at H
          have c9b0 : (t105 == 0) = false := beq_eq_false_iff_ne.mpr c9
          have c9b1 : (t105 != 0) = true := bne_iff_ne.mpr c9
          obtain rfl := Option.some.inj H
          go_wp2
          repeat (go_quiet (fail); try go_wp2)
          go_ret
          exact ⟨by first | rfl | (simp [errW_none, errW_some] <;> rfl) | (simp [*, errW_none, errW_some] <;> rfl), by repeat (first | (with_reducible first | exact HB.out | apply below_alloc | apply pw_below_drewN | apply below_drew1) | exact HB.out)⟩
      · replace c8 := Bool.eq_false_iff.mpr c8
        subst c8
        have H1 : (if t106 = true then (if t105 < 0 then (arrearslaw20_LockboxLuhn.j1 kj4 a0 a1 a2 t105 true) else (arrearslaw20_LockboxLuhn.j1 kj4 a0 a1 a2 t105 (decide (t105 > 9)))) else (arrearslaw20_LockboxLuhn.j1 kj4 a0 a1 a2 t105 true)) = some r := by rw [if_neg (show ¬ (false = true) by decide)] at H; exact H
        clear H
        have H := H1
        clear H1
        have HC10 := Aside0.mk H
        clear H
        go_upto_region 4 with (fail)
        repeat (go_quiet (fail); go_upto_region 4 with (fail))
        go_cut [41] (fun v41 wc => ∃ (kq : Nat) (x41_9 : Bool), v41 = .bool x41_9 ∧ Aside0 (arrearslaw20_LockboxLuhn.j1 kq a0 a1 a2 t105 x41_9 = some r) ∧ Aside0 (kq ≤ kj4) ∧ Aside0 (Below w.heap.size w wc))
        case first =>
          have H := HC10.out
          clear HC10
          by_cases c11 : t106 = true
          · subst c11
            have H1 : (if t105 < 0 then (arrearslaw20_LockboxLuhn.j1 kj4 a0 a1 a2 t105 true) else (arrearslaw20_LockboxLuhn.j1 kj4 a0 a1 a2 t105 (decide (t105 > 9)))) = some r := by rw [if_pos rfl] at H; exact H
            clear H
            have H := H1
            clear H1
            by_cases c12 : t105 < 0
            · rw [if_pos c12] at H
              have c12b0 : decide (t105 < 0) = true := decide_eq_true c12
              clear c12
              (first | rw [c12b0] | (simp only [i64_w, i32_w]; rw [c12b0]) | skip)
              have H' := Aside0.mk H
              clear H
              go_wp2
              repeat (go_quiet (fail); try go_wp2)
              go_meet
              case rel => exact ⟨_, (true), (by first | rfl | (simp; done) | (simp [*]; done)), H', ⟨by have := HJ4.out; first | omega | exact Nat.le_refl _⟩, ⟨by repeat (first | (with_reducible first | exact HB.out | apply below_alloc | apply pw_below_drewN | apply below_drew1) | exact HB.out)⟩⟩
            · rw [if_neg c12] at H
              have c12b0 : decide (t105 < 0) = false := decide_eq_false c12
              clear c12
              (first | rw [c12b0] | (simp only [i64_w, i32_w]; rw [c12b0]) | skip)
              have H' := Aside0.mk H
              clear H
              go_wp2
              repeat (go_quiet (fail); try go_wp2)
              go_meet
              case rel => exact ⟨_, (decide (t105 > 9)), (by first | rfl | (simp; done) | (simp [*]; done)), H', ⟨by have := HJ4.out; first | omega | exact Nat.le_refl _⟩, ⟨by repeat (first | (with_reducible first | exact HB.out | apply below_alloc | apply pw_below_drewN | apply below_drew1) | exact HB.out)⟩⟩
          · replace c11 := Bool.eq_false_iff.mpr c11
            subst c11
            have H1 : (arrearslaw20_LockboxLuhn.j1 kj4 a0 a1 a2 t105 true) = some r := by rw [if_neg (show ¬ (false = true) by decide)] at H; exact H
            clear H
            have H := H1
            clear H1
            have H' := Aside0.mk H
            clear H
            go_wp2
            repeat (go_quiet (fail); try go_wp2)
            go_meet
            case rel => exact ⟨_, (true), (by first | rfl | (simp; done) | (simp [*]; done)), H', ⟨by have := HJ4.out; first | omega | exact Nat.le_refl _⟩, ⟨by repeat (first | (with_reducible first | exact HB.out | apply below_alloc | apply pw_below_drewN | apply below_drew1) | exact HB.out)⟩⟩
        case rest =>
          clear HC10
          try clear c1
          try clear p2
          try clear c4
          try clear c7
          try clear c7b0
          try clear c8
          try clear c9
          try clear c9b0
          try clear c9b1
          try clear c11
          try clear c12
          try clear c12b0
          try clear p2
          obtain ⟨kq, x41_9, rfl, HA, HJ9, HB⟩ := hcut
          cases kq with
          | zero => exact absurd HA.out (by simp [arrearslaw20_LockboxLuhn.j1])
          | succ kj9 =>
            have H := HA.out
            clear HA
            simp only [arrearslaw20_LockboxLuhn.j1] at H
            by_cases c13 : x41_9 = true
            · subst c13
              have H1 : (some false) = some r := by rw [if_pos rfl] at H; exact H
              clear H
              have H := H1
              clear H1
              obtain rfl := Option.some.inj H
              go_wp2
              repeat (go_quiet (fail); try go_wp2)
              go_ret
              exact ⟨by first | rfl | (simp [errW_none, errW_some] <;> rfl) | (simp [*, errW_none, errW_some] <;> rfl), by repeat (first | (with_reducible first | exact HB.out | apply below_alloc | apply pw_below_drewN | apply below_drew1) | exact HB.out)⟩
            · replace c13 := Bool.eq_false_iff.mpr c13
              subst c13
              have H1 : (arrearslaw20_LockboxLuhn.l0 kj9 a0 a1 a2 t105 ([] : List Int) 100000) = some r := by rw [if_neg (show ¬ (false = true) by decide)] at H; exact H
              clear H
              have H := H1
              clear H1
              have H' := Aside0.mk H
              clear H
              go_wp2
              repeat (go_quiet (fail); try go_wp2)
              go_loopg [9, 10] kj9 (fun kq v9 v10 w' => ∃ (x9_3 : List Int) (x10_3 : Int), v10 = .int .i64 x10_3 ∧ Aside0 (arrearslaw20_LockboxLuhn.l0 kq a0 a1 a2 t105 x9_3 x10_3 = some r) ∧ Aside0 (kq ≤ kj9) ∧ Aside0 (Kd.R (Kd.int .u8) 5 w' w.heap.size (fun _ => True) v9 x9_3) ∧ Aside0 (Below w.heap.size w w'))
              case atStart => exact ⟨(([] : List Int)), (100000), (by first | rfl | (simp; done) | (simp [*]; done)), H', ⟨Nat.le_refl _⟩, ⟨by first | exact Kd.R_nil _ _ _ _ _ | exact Kd.N_nil _ _ _ _ _ | exact Kd.V_nil _ _ _ _ _ | exact Kd.Q_nil _ _ _ _ _ | exact Kd.S_nil _ _ _ _ _⟩, ⟨by repeat (first | (with_reducible first | exact HB.out | apply below_alloc | apply pw_below_drewN | apply below_drew1) | exact HB.out)⟩⟩
              case round =>
                clear H'
                try clear c1
                try clear p2
                try clear c4
                try clear c7
                try clear c7b0
                try clear c8
                try clear c9
                try clear c9b0
                try clear c9b1
                try clear c11
                try clear c12
                try clear c12b0
                try clear c13
                try clear p2
                obtain ⟨x9_3, x10_3, rfl, HA, HK3, HO_9, HB⟩ := hrel
                cases gk with
                | zero => exact absurd HA.out (by simp [arrearslaw20_LockboxLuhn.l0])
                | succ k3 =>
                  have H := HA.out
                  clear HA
                  simp only [arrearslaw20_LockboxLuhn.l0] at H
                  by_cases c14 : x10_3 > 0
                  · rw [if_pos c14] at H
                    have c14b0 : decide (0 < x10_3) = true := decide_eq_true c14
                    clear c14
                    by_cases c15 : x10_3 = 0
                    · rw [if_pos c15] at H
                      exact absurd H (by simp)
                    · rw [if_neg c15] at H
                      have c15b0 : (x10_3 == 0) = false := beq_eq_false_iff_ne.mpr c15
                      have c15b1 : (x10_3 != 0) = true := bne_iff_ne.mpr c15
                      by_cases c16 : x9_3.length < 140737488355328
                      · rw [if_pos c16] at H
                        have LMc16 := Aside0.mk c16
                        clear c16
                        obtain ⟨y107, hy107⟩ : ∃ y_ : List Int, y_ = (x9_3 ++ [(wrap64 (48 + (Int.tmod (wrap64 (Int.tdiv a0 x10_3)) 10))) % 256]) := ⟨_, rfl⟩
                        replace H : (arrearslaw20_LockboxLuhn.l0 k3 a0 a1 a2 t105 y107 (wrap64 (Int.tdiv x10_3 10))) = some r := by first | (rw [hy107]; with_reducible exact H) | (have H2_ := (Option.bind_some _ _).symm.trans H; rw [hy107]; with_reducible exact H2_) | (have H2_ := (Option.bind_some _ _).symm.trans H; with_reducible exact H2_) | with_reducible exact H | (rw [hy107]; exact H) | exact H
                        have Ny107 := Aside0.mk hy107
                        clear hy107
                        have H' := Aside0.mk H
                        clear H
                        go_wp2_with (first | ((with_reducible refine gate_builtin (b := .append) (xs := #[.tmp 46, .tmp 53]) rfl ?_); (try (refine gate_guard (by rfl) ?_; dsimp only)); at_builtin; refine Kd.R_append (Kd.int .u8) (w0 := w) w.heap.size rfl (.tmp 46) (.tmp 53) 26 5 (.int .u8 0) 1 rfl Tryd.underlying26 info5 rfl (by decide) (by omega) u9 x9_3 ((wrap64 (48 + (Int.tmod (wrap64 (Int.tdiv a0 x10_3)) 10))) % 256) [.int .u8 ((wrap64 (48 + (Int.tmod (wrap64 (Int.tdiv a0 x10_3)) 10))) % 256)] (fun _ => True) (fun _ => False) rfl rfl ?aP (fun _ hk => hk.elim) ?aF ?aO ?aB ?aS ?aL ?_; (case aP => exact rfl); (case aB => exact (by repeat (first | (with_reducible first | exact HB.out | apply below_alloc | apply pw_below_drewN | apply below_drew1) | exact HB.out))); (case aF => exact (fun _ _ => trivial)); (case aO => exact (by (with_reducible repeat (first | apply Kd.R_alloc | apply Kd.R_drewN | apply Kd.R_drew)); exact HO_9.out)); (case aS => exact (below_size (by repeat (first | (with_reducible first | exact HB.out | apply below_alloc | apply pw_below_drewN | apply below_drew1) | exact HB.out)))); (case aL => have := LMc16.out; omega); intro v108 w17 ho hb hg hat; rw [← Ny107.out] at ho; have n0_ := Aside0.mk (hb); have n1_ := Aside0.mk (ho); clear HB; clear HO_9; have HB := n0_; have HO109 := n1_; clear n0_ n1_; clear ho hb hg hat))
                        repeat (go_quiet (first | ((with_reducible refine gate_builtin (b := .append) (xs := #[.tmp 46, .tmp 53]) rfl ?_); (try (refine gate_guard (by rfl) ?_; dsimp only)); at_builtin; refine Kd.R_append (Kd.int .u8) (w0 := w) w.heap.size rfl (.tmp 46) (.tmp 53) 26 5 (.int .u8 0) 1 rfl Tryd.underlying26 info5 rfl (by decide) (by omega) u9 x9_3 ((wrap64 (48 + (Int.tmod (wrap64 (Int.tdiv a0 x10_3)) 10))) % 256) [.int .u8 ((wrap64 (48 + (Int.tmod (wrap64 (Int.tdiv a0 x10_3)) 10))) % 256)] (fun _ => True) (fun _ => False) rfl rfl ?aP (fun _ hk => hk.elim) ?aF ?aO ?aB ?aS ?aL ?_; (case aP => exact rfl); (case aB => exact (by repeat (first | (with_reducible first | exact HB.out | apply below_alloc | apply pw_below_drewN | apply below_drew1) | exact HB.out))); (case aF => exact (fun _ _ => trivial)); (case aO => exact (by (with_reducible repeat (first | apply Kd.R_alloc | apply Kd.R_drewN | apply Kd.R_drew)); exact HO_9.out)); (case aS => exact (below_size (by repeat (first | (with_reducible first | exact HB.out | apply below_alloc | apply pw_below_drewN | apply below_drew1) | exact HB.out)))); (case aL => have := LMc16.out; omega); intro v108 w17 ho hb hg hat; rw [← Ny107.out] at ho; have n0_ := Aside0.mk (hb); have n1_ := Aside0.mk (ho); clear HB; clear HO_9; have HB := n0_; have HO109 := n1_; clear n0_ n1_; clear ho hb hg hat)); try go_wp2_with (first | ((with_reducible refine gate_builtin (b := .append) (xs := #[.tmp 46, .tmp 53]) rfl ?_); (try (refine gate_guard (by rfl) ?_; dsimp only)); at_builtin; refine Kd.R_append (Kd.int .u8) (w0 := w) w.heap.size rfl (.tmp 46) (.tmp 53) 26 5 (.int .u8 0) 1 rfl Tryd.underlying26 info5 rfl (by decide) (by omega) u9 x9_3 ((wrap64 (48 + (Int.tmod (wrap64 (Int.tdiv a0 x10_3)) 10))) % 256) [.int .u8 ((wrap64 (48 + (Int.tmod (wrap64 (Int.tdiv a0 x10_3)) 10))) % 256)] (fun _ => True) (fun _ => False) rfl rfl ?aP (fun _ hk => hk.elim) ?aF ?aO ?aB ?aS ?aL ?_; (case aP => exact rfl); (case aB => exact (by repeat (first | (with_reducible first | exact HB.out | apply below_alloc | apply pw_below_drewN | apply below_drew1) | exact HB.out))); (case aF => exact (fun _ _ => trivial)); (case aO => exact (by (with_reducible repeat (first | apply Kd.R_alloc | apply Kd.R_drewN | apply Kd.R_drew)); exact HO_9.out)); (case aS => exact (below_size (by repeat (first | (with_reducible first | exact HB.out | apply below_alloc | apply pw_below_drewN | apply below_drew1) | exact HB.out)))); (case aL => have := LMc16.out; omega); intro v108 w17 ho hb hg hat; rw [← Ny107.out] at ho; have n0_ := Aside0.mk (hb); have n1_ := Aside0.mk (ho); clear HB; clear HO_9; have HB := n0_; have HO109 := n1_; clear n0_ n1_; clear ho hb hg hat)))
                        go_roundg k3
                        case measure => have := HJ4.out; have := HJ9.out; have := HK3.out; omega
                        case rel => exact ⟨(y107), (wrap64 (Int.tdiv x10_3 10)), (by first | rfl | (simp; done) | (simp [*]; done)), H', ⟨by have := HJ4.out; have := HJ9.out; have := HK3.out; omega⟩, ⟨by (with_reducible repeat (first | apply Kd.R_alloc | apply Kd.R_drewN | apply Kd.R_drew)); exact HO109.out⟩, ⟨by repeat (first | (with_reducible first | exact HB.out | apply below_alloc | apply pw_below_drewN | apply below_drew1) | exact HB.out)⟩⟩
                      · rw [if_neg c16] at H
                        exact absurd H (by simp)
                  · rw [if_neg c14] at H
                    have c14b0 : decide (0 < x10_3) = false := decide_eq_false c14
                    clear c14
                    by_cases c18 : x9_3.length < 140737488355328
                    · rw [if_pos c18] at H
                      have LMc18 := Aside0.mk c18
                      clear c18
                      obtain ⟨y110, hy110⟩ : ∃ y_ : List Int, y_ = (x9_3 ++ [(wrap64 (48 + t105)) % 256]) := ⟨_, rfl⟩
                      replace H : ((arrearslaw20_text.f y110).bind fun t113 => ((lockbox_Valid.f t113).bind fun t114 => (if t114 = true then (if a1 < 0 then (arrearslaw20_LockboxLuhn.j3 k3 a1 a2 y110 true) else (if a1 ≥ (y110.length : Int) then (arrearslaw20_LockboxLuhn.j3 k3 a1 a2 y110 true) else (if a2 < 0 then (arrearslaw20_LockboxLuhn.j3 k3 a1 a2 y110 true) else (arrearslaw20_LockboxLuhn.j3 k3 a1 a2 y110 (decide (a2 > 9)))))) else (some false)))) = some r := by first | (rw [hy110]; with_reducible exact H) | (have H2_ := (Option.bind_some _ _).symm.trans H; rw [hy110]; with_reducible exact H2_) | (have H2_ := (Option.bind_some _ _).symm.trans H; with_reducible exact H2_) | with_reducible exact H | (rw [hy110]; exact H) | exact H
                      have Ny110 := Aside0.mk hy110
                      clear hy110
                      replace H := Option.bind_eq_some_iff.mp H
                      obtain ⟨t113, A190, H⟩ := H
                      replace H : ((lockbox_Valid.f t113).bind fun t114 => (if t114 = true then (if a1 < 0 then (arrearslaw20_LockboxLuhn.j3 k3 a1 a2 y110 true) else (if a1 ≥ (y110.length : Int) then (arrearslaw20_LockboxLuhn.j3 k3 a1 a2 y110 true) else (if a2 < 0 then (arrearslaw20_LockboxLuhn.j3 k3 a1 a2 y110 true) else (arrearslaw20_LockboxLuhn.j3 k3 a1 a2 y110 (decide (a2 > 9)))))) else (some false))) = some r := H
                      have A19 := Aside0.mk A190
                      clear A190
                      replace H := Option.bind_eq_some_iff.mp H
                      obtain ⟨t114, A200, H⟩ := H
                      replace H : (if t114 = true then (if a1 < 0 then (arrearslaw20_LockboxLuhn.j3 k3 a1 a2 y110 true) else (if a1 ≥ (y110.length : Int) then (arrearslaw20_LockboxLuhn.j3 k3 a1 a2 y110 true) else (if a2 < 0 then (arrearslaw20_LockboxLuhn.j3 k3 a1 a2 y110 true) else (arrearslaw20_LockboxLuhn.j3 k3 a1 a2 y110 (decide (a2 > 9)))))) else (some false)) = some r := H
                      have A20 := Aside0.mk A200
                      clear A200
                      by_cases c21 : t114 = true
                      · subst c21
                        have H1 : (if a1 < 0 then (arrearslaw20_LockboxLuhn.j3 k3 a1 a2 y110 true) else (if a1 ≥ (y110.length : Int) then (arrearslaw20_LockboxLuhn.j3 k3 a1 a2 y110 true) else (if a2 < 0 then (arrearslaw20_LockboxLuhn.j3 k3 a1 a2 y110 true) else (arrearslaw20_LockboxLuhn.j3 k3 a1 a2 y110 (decide (a2 > 9)))))) = some r := by rw [if_pos rfl] at H; exact H
                        clear H
                        have H := H1
                        clear H1
                        have HC22 := Aside0.mk H
                        clear H
                        go_upto_region 14 with (first | ((with_reducible refine gate_builtin (b := .append) (xs := #[.tmp 55, .tmp 59]) rfl ?_); (try (refine gate_guard (by rfl) ?_; dsimp only)); at_builtin; refine Kd.R_append (Kd.int .u8) (w0 := w) w.heap.size rfl (.tmp 55) (.tmp 59) 26 5 (.int .u8 0) 1 rfl Tryd.underlying26 info5 rfl (by decide) (by omega) u9 x9_3 ((wrap64 (48 + t105)) % 256) [.int .u8 ((wrap64 (48 + t105)) % 256)] (fun _ => True) (fun _ => False) rfl rfl ?aP (fun _ hk => hk.elim) ?aF ?aO ?aB ?aS ?aL ?_; (case aP => exact rfl); (case aB => exact (by repeat (first | (with_reducible first | exact HB.out | apply below_alloc | apply pw_below_drewN | apply below_drew1) | exact HB.out))); (case aF => exact (fun _ _ => trivial)); (case aO => exact (by (with_reducible repeat (first | apply Kd.R_alloc | apply Kd.R_drewN | apply Kd.R_drew)); exact HO_9.out)); (case aS => exact (below_size (by repeat (first | (with_reducible first | exact HB.out | apply below_alloc | apply pw_below_drewN | apply below_drew1) | exact HB.out)))); (case aL => have := LMc18.out; omega); intro v111 w23 ho hb hg hat; rw [← Ny110.out] at ho; have n0_ := Aside0.mk (hb); have n1_ := Aside0.mk (ho); clear HB; clear HO_9; have HB := n0_; have HO112 := n1_; clear n0_ n1_; clear ho hb hg hat; obtain ⟨Ao24, co24, eo24⟩ := Kd.R_slice HO112.out; subst eo24) | (go_at_call 13; (with_reducible refine (arrearslaw20_text.calls _ _ y110 t113 _ ?side1 ?side2 A19.out).mono ?_); (case side1 => repeat (first | exact (Kd.R_reads' HO112.out).2.2 | (with_reducible refine Kd.C_alloc ?_ _) | (with_reducible refine Kd.C_drewN ?_ _) | (with_reducible refine Kd.C_drew ?_))); (case side2 => exact (Kd.R_reads' HO112.out).2.1); rintro e w' ⟨rfl, ⟨nd, rfl⟩⟩; (try first | exact ⟨rfl, _, World.drewN_drewN _ _ _⟩ | exact ⟨rfl, _, Eq.trans (World.drewN_drewN _ _ _) (congrArg (World.drewN _) (Nat.add_assoc _ _ _))⟩)) | (go_at_call 11; (with_reducible refine (lockbox_Valid.calls t113 true _ A20.out).mono ?_); rintro e w' ⟨rfl, ⟨nd, rfl⟩⟩; (try first | exact ⟨rfl, _, World.drewN_drewN _ _ _⟩ | exact ⟨rfl, _, Eq.trans (World.drewN_drewN _ _ _) (congrArg (World.drewN _) (Nat.add_assoc _ _ _))⟩)))
                        repeat (go_quiet (first | ((with_reducible refine gate_builtin (b := .append) (xs := #[.tmp 55, .tmp 59]) rfl ?_); (try (refine gate_guard (by rfl) ?_; dsimp only)); at_builtin; refine Kd.R_append (Kd.int .u8) (w0 := w) w.heap.size rfl (.tmp 55) (.tmp 59) 26 5 (.int .u8 0) 1 rfl Tryd.underlying26 info5 rfl (by decide) (by omega) u9 x9_3 ((wrap64 (48 + t105)) % 256) [.int .u8 ((wrap64 (48 + t105)) % 256)] (fun _ => True) (fun _ => False) rfl rfl ?aP (fun _ hk => hk.elim) ?aF ?aO ?aB ?aS ?aL ?_; (case aP => exact rfl); (case aB => exact (by repeat (first | (with_reducible first | exact HB.out | apply below_alloc | apply pw_below_drewN | apply below_drew1) | exact HB.out))); (case aF => exact (fun _ _ => trivial)); (case aO => exact (by (with_reducible repeat (first | apply Kd.R_alloc | apply Kd.R_drewN | apply Kd.R_drew)); exact HO_9.out)); (case aS => exact (below_size (by repeat (first | (with_reducible first | exact HB.out | apply below_alloc | apply pw_below_drewN | apply below_drew1) | exact HB.out)))); (case aL => have := LMc18.out; omega); intro v111 w23 ho hb hg hat; rw [← Ny110.out] at ho; have n0_ := Aside0.mk (hb); have n1_ := Aside0.mk (ho); clear HB; clear HO_9; have HB := n0_; have HO112 := n1_; clear n0_ n1_; clear ho hb hg hat; obtain ⟨Ao24, co24, eo24⟩ := Kd.R_slice HO112.out; subst eo24) | (go_at_call 13; (with_reducible refine (arrearslaw20_text.calls _ _ y110 t113 _ ?side1 ?side2 A19.out).mono ?_); (case side1 => repeat (first | exact (Kd.R_reads' HO112.out).2.2 | (with_reducible refine Kd.C_alloc ?_ _) | (with_reducible refine Kd.C_drewN ?_ _) | (with_reducible refine Kd.C_drew ?_))); (case side2 => exact (Kd.R_reads' HO112.out).2.1); rintro e w' ⟨rfl, ⟨nd, rfl⟩⟩; (try first | exact ⟨rfl, _, World.drewN_drewN _ _ _⟩ | exact ⟨rfl, _, Eq.trans (World.drewN_drewN _ _ _) (congrArg (World.drewN _) (Nat.add_assoc _ _ _))⟩)) | (go_at_call 11; (with_reducible refine (lockbox_Valid.calls t113 true _ A20.out).mono ?_); rintro e w' ⟨rfl, ⟨nd, rfl⟩⟩; (try first | exact ⟨rfl, _, World.drewN_drewN _ _ _⟩ | exact ⟨rfl, _, Eq.trans (World.drewN_drewN _ _ _) (congrArg (World.drewN _) (Nat.add_assoc _ _ _))⟩))); go_upto_region 14 with (first | ((with_reducible refine gate_builtin (b := .append) (xs := #[.tmp 55, .tmp 59]) rfl ?_); (try (refine gate_guard (by rfl) ?_; dsimp only)); at_builtin; refine Kd.R_append (Kd.int .u8) (w0 := w) w.heap.size rfl (.tmp 55) (.tmp 59) 26 5 (.int .u8 0) 1 rfl Tryd.underlying26 info5 rfl (by decide) (by omega) u9 x9_3 ((wrap64 (48 + t105)) % 256) [.int .u8 ((wrap64 (48 + t105)) % 256)] (fun _ => True) (fun _ => False) rfl rfl ?aP (fun _ hk => hk.elim) ?aF ?aO ?aB ?aS ?aL ?_; (case aP => exact rfl); (case aB => exact (by repeat (first | (with_reducible first | exact HB.out | apply below_alloc | apply pw_below_drewN | apply below_drew1) | exact HB.out))); (case aF => exact (fun _ _ => trivial)); (case aO => exact (by (with_reducible repeat (first | apply Kd.R_alloc | apply Kd.R_drewN | apply Kd.R_drew)); exact HO_9.out)); (case aS => exact (below_size (by repeat (first | (with_reducible first | exact HB.out | apply below_alloc | apply pw_below_drewN | apply below_drew1) | exact HB.out)))); (case aL => have := LMc18.out; omega); intro v111 w23 ho hb hg hat; rw [← Ny110.out] at ho; have n0_ := Aside0.mk (hb); have n1_ := Aside0.mk (ho); clear HB; clear HO_9; have HB := n0_; have HO112 := n1_; clear n0_ n1_; clear ho hb hg hat; obtain ⟨Ao24, co24, eo24⟩ := Kd.R_slice HO112.out; subst eo24) | (go_at_call 13; (with_reducible refine (arrearslaw20_text.calls _ _ y110 t113 _ ?side1 ?side2 A19.out).mono ?_); (case side1 => repeat (first | exact (Kd.R_reads' HO112.out).2.2 | (with_reducible refine Kd.C_alloc ?_ _) | (with_reducible refine Kd.C_drewN ?_ _) | (with_reducible refine Kd.C_drew ?_))); (case side2 => exact (Kd.R_reads' HO112.out).2.1); rintro e w' ⟨rfl, ⟨nd, rfl⟩⟩; (try first | exact ⟨rfl, _, World.drewN_drewN _ _ _⟩ | exact ⟨rfl, _, Eq.trans (World.drewN_drewN _ _ _) (congrArg (World.drewN _) (Nat.add_assoc _ _ _))⟩)) | (go_at_call 11; (with_reducible refine (lockbox_Valid.calls t113 true _ A20.out).mono ?_); rintro e w' ⟨rfl, ⟨nd, rfl⟩⟩; (try first | exact ⟨rfl, _, World.drewN_drewN _ _ _⟩ | exact ⟨rfl, _, Eq.trans (World.drewN_drewN _ _ _) (congrArg (World.drewN _) (Nat.add_assoc _ _ _))⟩))))
                        (try simp only [Act.put, List.setIfInBounds_toArray, List.set_cons_zero, List.set_cons_succ])
                        go_cut [80] (fun v80 wc => ∃ (kq : Nat) (x80_21 : Bool), v80 = .bool x80_21 ∧ Aside0 (arrearslaw20_LockboxLuhn.j3 kq a1 a2 y110 x80_21 = some r) ∧ Aside0 (kq ≤ k3) ∧ Aside0 (Kd.R (Kd.int .u8) 5 wc w.heap.size (fun _ => True) (.slice Ao24 y110.length co24) y110) ∧ Aside0 (Below w.heap.size w wc))
                        case first =>
                          have H := HC22.out
                          clear HC22
                          by_cases c25 : a1 < 0
                          · rw [if_pos c25] at H
                            have c25b0 : decide (a1 < 0) = true := decide_eq_true c25
                            clear c25
                            (first | rw [c25b0] | (simp only [i64_w, i32_w]; rw [c25b0]) | skip)
                            have H' := Aside0.mk H
                            clear H
                            go_wp2
                            repeat (go_quiet (fail); try go_wp2)
                            go_meet
                            case rel => exact ⟨_, (true), (by first | rfl | (simp; done) | (simp [*]; done)), H', ⟨by have := HJ4.out; have := HJ9.out; have := HK3.out; first | omega | exact Nat.le_refl _⟩, ⟨by (with_reducible repeat (first | apply Kd.R_alloc | apply Kd.R_drewN | apply Kd.R_drew)); exact HO112.out⟩, ⟨by repeat (first | (with_reducible first | exact HB.out | apply below_alloc | apply pw_below_drewN | apply below_drew1) | exact HB.out)⟩⟩
                          · rw [if_neg c25] at H
                            have c25b0 : decide (a1 < 0) = false := decide_eq_false c25
                            clear c25
                            (first | rw [c25b0] | (simp only [i64_w, i32_w]; rw [c25b0]) | skip)
                            by_cases c26 : a1 ≥ (y110.length : Int)
                            · rw [if_pos c26] at H
                              have c26b0 : decide ((y110.length : Int) ≤ a1) = true := decide_eq_true c26
                              clear c26
                              have H' := Aside0.mk H
                              clear H
                              go_wp2
                              repeat (go_quiet (fail); try go_wp2)
                              go_meet
                              case rel => exact ⟨_, (true), (by first | rfl | (simp; done) | (simp [*]; done)), H', ⟨by have := HJ4.out; have := HJ9.out; have := HK3.out; first | omega | exact Nat.le_refl _⟩, ⟨by (with_reducible repeat (first | apply Kd.R_alloc | apply Kd.R_drewN | apply Kd.R_drew)); exact HO112.out⟩, ⟨by repeat (first | (with_reducible first | exact HB.out | apply below_alloc | apply pw_below_drewN | apply below_drew1) | exact HB.out)⟩⟩
                            · rw [if_neg c26] at H
                              have c26b0 : decide ((y110.length : Int) ≤ a1) = false := decide_eq_false c26
                              clear c26
                              by_cases c27 : a2 < 0
                              · rw [if_pos c27] at H
                                have c27b0 : decide (a2 < 0) = true := decide_eq_true c27
                                clear c27
                                have H' := Aside0.mk H
                                clear H
                                go_wp2
                                repeat (go_quiet (fail); try go_wp2)
                                go_meet
                                case rel => exact ⟨_, (true), (by first | rfl | (simp; done) | (simp [*]; done)), H', ⟨by have := HJ4.out; have := HJ9.out; have := HK3.out; first | omega | exact Nat.le_refl _⟩, ⟨by (with_reducible repeat (first | apply Kd.R_alloc | apply Kd.R_drewN | apply Kd.R_drew)); exact HO112.out⟩, ⟨by repeat (first | (with_reducible first | exact HB.out | apply below_alloc | apply pw_below_drewN | apply below_drew1) | exact HB.out)⟩⟩
                              · rw [if_neg c27] at H
                                have c27b0 : decide (a2 < 0) = false := decide_eq_false c27
                                clear c27
                                have H' := Aside0.mk H
                                clear H
                                go_wp2
                                repeat (go_quiet (fail); try go_wp2)
                                go_meet
                                case rel => exact ⟨_, (decide (a2 > 9)), (by first | rfl | (simp; done) | (simp [*]; done)), H', ⟨by have := HJ4.out; have := HJ9.out; have := HK3.out; first | omega | exact Nat.le_refl _⟩, ⟨by (with_reducible repeat (first | apply Kd.R_alloc | apply Kd.R_drewN | apply Kd.R_drew)); exact HO112.out⟩, ⟨by repeat (first | (with_reducible first | exact HB.out | apply below_alloc | apply pw_below_drewN | apply below_drew1) | exact HB.out)⟩⟩
                        case rest =>
                          clear HC22
                          try clear c1
                          try clear c2
                          try clear p2
                          try clear c4
                          try clear p6
                          try clear c7
                          try clear c7b0
                          try clear c8
                          try clear c9
                          try clear c9b0
                          try clear c9b1
                          try clear c11
                          try clear c12
                          try clear c12b0
                          try clear c13
                          try clear c14
                          try clear c14b0
                          try clear c15
                          try clear c15b0
                          try clear c15b1
                          try clear c16
                          try clear c18
                          try clear c21
                          try clear c25
                          try clear c25b0
                          try clear c26
                          try clear c26b0
                          try clear c27
                          try clear c27b0
                          try clear p2
                          obtain ⟨kq, x80_21, rfl, HA, HJ21, HO_9, HB⟩ := hcut
                          cases kq with
                          | zero => exact absurd HA.out (by simp [arrearslaw20_LockboxLuhn.j3])
                          | succ kj21 =>
                            have H := HA.out
                            clear HA
                            simp only [arrearslaw20_LockboxLuhn.j3] at H
                            by_cases c28 : x80_21 = true
                            · subst c28
                              have H1 : (some true) = some r := by rw [if_pos rfl] at H; exact H
                              clear H
                              have H := H1
                              clear H1
                              obtain rfl := Option.some.inj H
                              go_wp2
                              repeat (go_quiet (fail); try go_wp2)
                              go_ret
                              exact ⟨by first | rfl | (simp [errW_none, errW_some] <;> rfl) | (simp [*, errW_none, errW_some] <;> rfl), by repeat (first | (with_reducible first | exact HB.out | apply below_alloc | apply pw_below_drewN | apply below_drew1) | exact HB.out)⟩
                            · replace c28 := Bool.eq_false_iff.mpr c28
                              subst c28
                              have H1 : (if (wrap64 (a1 + 1)) < (y110.length : Int) then (if 0 ≤ a1 then (if a1 < (y110.length : Int) then (if 0 ≤ (wrap64 (a1 + 1)) then (arrearslaw20_LockboxLuhn.j4 kj21 a1 a2 y110 ((rd y110 a1) != (rd y110 (wrap64 (a1 + 1))))) else (none)) else (none)) else (none)) else (arrearslaw20_LockboxLuhn.j4 kj21 a1 a2 y110 false)) = some r := by rw [if_neg (show ¬ (false = true) by decide)] at H; exact H
                              clear H
                              have H := H1
                              clear H1
                              have HC29 := Aside0.mk H
                              clear H
                              go_upto_region 16 with (fail)
                              repeat (go_quiet (fail); go_upto_region 16 with (fail))
                              go_cut [97] (fun v97 wc => ∃ (kq : Nat) (x97_28 : Bool), v97 = .bool x97_28 ∧ Aside0 (arrearslaw20_LockboxLuhn.j4 kq a1 a2 y110 x97_28 = some r) ∧ Aside0 (kq ≤ kj21) ∧ Aside0 (Kd.R (Kd.int .u8) 5 wc w.heap.size (fun _ => True) (.slice Ao24 y110.length co24) y110) ∧ Aside0 (Below w.heap.size w wc))
                              case first =>
                                have H := HC29.out
                                clear HC29
                                by_cases c30 : (wrap64 (a1 + 1)) < (y110.length : Int)
                                · rw [if_pos c30] at H
                                  have c30b0 : decide ((wrap64 (a1 + 1)) < (y110.length : Int)) = true := decide_eq_true c30
                                  clear c30
                                  (first | rw [c30b0] | (simp only [i64_w, i32_w]; rw [c30b0]) | skip)
                                  by_cases c31 : 0 ≤ a1
                                  · rw [if_pos c31] at H
                                    have c31b0 : decide (0 ≤ a1) = true := decide_eq_true c31
                                    clear c31
                                    by_cases c32 : a1 < (y110.length : Int)
                                    · rw [if_pos c32] at H
                                      have c32b0 : decide (a1 < (y110.length : Int)) = true := decide_eq_true c32
                                      clear c32
                                      obtain ⟨ji33, hji33⟩ : ∃ j_ : Int, (wrap64 (a1 + 1)) = j_ := ⟨_, rfl⟩
                                      replace H : (if 0 ≤ (ji33) then (arrearslaw20_LockboxLuhn.j4 kj21 a1 a2 y110 ((rd y110 a1) != (rd y110 (ji33)))) else (none)) = some r := by first | (rw [hji33] at H; exact H) | (simp only [hji33] at H ⊢; exact H)
                                      (try rw [hji33] at c30b0)
                                      have hji33w : (IntKind.i64.wrap (a1 + 1)) = ji33 := (i64_w _).trans hji33
                                      by_cases c34 : 0 ≤ (ji33)
                                      · rw [if_pos c34] at H
                                        have c34b0 : decide (0 ≤ (ji33)) = true := decide_eq_true c34
                                        clear c34
                                        have H' := Aside0.mk H
                                        clear H
                                        have p115 : 0 ≤ (a1 : Int) := of_decide_eq_true (by first | (with_reducible assumption) | assumption)
                                        have q115 : a1 < (y110.length : Int) := of_decide_eq_true (by first | (with_reducible assumption) | assumption)
                                        obtain ⟨ad115, e115, hx115_0⟩ := Kd.at_int (Kd.R_reads' HO_9.out).2.2 a1 p115 q115
                                        cases e115
                                        replace p115 := eq_true p115
                                        replace q115 := eq_true q115
                                        have p116 : 0 ≤ ((ji33) : Int) := of_decide_eq_true (by first | (with_reducible assumption) | assumption)
                                        have q116 : (ji33) < (y110.length : Int) := of_decide_eq_true (by first | (with_reducible assumption) | assumption)
                                        obtain ⟨ad116, e116, hx116_0⟩ := Kd.at_int (Kd.R_reads' HO_9.out).2.2 (ji33) p116 q116
                                        obtain rfl : ad115 = ad116 := (by injection e116)
                                        replace p116 := eq_true p116
                                        replace q116 := eq_true q116
                                        go_wp2
                                        repeat (go_quiet (fail); try go_wp2)
                                        go_meet
                                        case rel => exact ⟨_, (((rd y110 a1) != (rd y110 (ji33)))), (by first | rfl | (simp; done) | (simp only [← hji33] <;> (first | rfl | simp)) | (simp [*]; done)), H', ⟨by have := HJ4.out; have := HJ9.out; have := HK3.out; have := HJ21.out; first | omega | exact Nat.le_refl _⟩, ⟨by (with_reducible repeat (first | apply Kd.R_alloc | apply Kd.R_drewN | apply Kd.R_drew)); exact HO_9.out⟩, ⟨by repeat (first | (with_reducible first | exact HB.out | apply below_alloc | apply pw_below_drewN | apply below_drew1) | exact HB.out)⟩⟩
                                      · rw [if_neg c34] at H
                                        exact absurd H (by simp)
                                    · rw [if_neg c32] at H
                                      exact absurd H (by simp)
                                  · rw [if_neg c31] at H
                                    exact absurd H (by simp)
                                · rw [if_neg c30] at H
                                  have c30b0 : decide ((wrap64 (a1 + 1)) < (y110.length : Int)) = false := decide_eq_false c30
                                  clear c30
                                  (first | rw [c30b0] | (simp only [i64_w, i32_w]; rw [c30b0]) | skip)
                                  have H' := Aside0.mk H
                                  clear H
                                  go_wp2
                                  repeat (go_quiet (fail); try go_wp2)
                                  go_meet
                                  case rel => exact ⟨_, (false), (by first | rfl | (simp; done) | (simp [*]; done)), H', ⟨by have := HJ4.out; have := HJ9.out; have := HK3.out; have := HJ21.out; first | omega | exact Nat.le_refl _⟩, ⟨by (with_reducible repeat (first | apply Kd.R_alloc | apply Kd.R_drewN | apply Kd.R_drew)); exact HO_9.out⟩, ⟨by repeat (first | (with_reducible first | exact HB.out | apply below_alloc | apply pw_below_drewN | apply below_drew1) | exact HB.out)⟩⟩
                              case rest =>
                                clear HC29
                                try clear c1
                                try clear p1
                                try clear q1
                                try clear hx1
                                try clear c2
                                try clear p2
                                try clear c3
                                try clear c4
                                try clear p6
                                try clear c7
                                try clear c7b0
                                try clear c8
                                try clear c9
                                try clear c9b0
                                try clear c9b1
                                try clear c11
                                try clear p11
                                try clear q11
                                try clear hx11
                                try clear c12
                                try clear c12b0
                                try clear c13
                                try clear c14
                                try clear c14b0
                                try clear c15
                                try clear c15b0
                                try clear c15b1
                                try clear c16
                                try clear c18
                                try clear c21
                                try clear c25
                                try clear c25b0
                                try clear c26
                                try clear c26b0
                                try clear c27
                                try clear c27b0
                                try clear c28
                                try clear c30
                                try clear c30b0
                                try clear c31
                                try clear c31b0
                                try clear c32
                                try clear c32b0
                                try clear c34
                                try clear c34b0
                                try clear hx115_0
                                try clear hx116_0
                                try clear p115
                                try clear p116
                                try clear p2
                                try clear p6
                                try clear q115
                                try clear q116
                                obtain ⟨kq, x97_28, rfl, HA, HJ28, HO_9, HB⟩ := hcut
                                cases kq with
                                | zero => exact absurd HA.out (by simp [arrearslaw20_LockboxLuhn.j4])
                                | succ kj28 =>
                                  have H := HA.out
                                  clear HA
                                  simp only [arrearslaw20_LockboxLuhn.j4] at H
                                  by_cases c35 : x97_28 = true
                                  · subst c35
                                    have H1 : ((arrearslaw19_CopyBytes.f kj28 y110).bind fun t117 => (if 0 ≤ (wrap64 (a1 + 1)) then (if (wrap64 (a1 + 1)) < (y110.length : Int) then (if 0 ≤ a1 then (if a1 < (t117.length : Int) then (if a1 < (y110.length : Int) then (if (wrap64 (a1 + 1)) < (t117.length : Int) then ((some ((t117.set (a1 : Int).toNat (rd y110 (wrap64 (a1 + 1)))).set ((wrap64 (a1 + 1)) : Int).toNat (rd y110 a1) : List Int)).bind fun y123 => (if ((((rd y110 a1) - 48) % 256) + (((rd y110 (wrap64 (a1 + 1))) - 48) % 256)) = 9 then (if (rd y110 a1) = 48 then (arrearslaw20_LockboxLuhn.j5 kj28 a1 a2 y110 y123 true) else (arrearslaw20_LockboxLuhn.j5 kj28 a1 a2 y110 y123 ((rd y110 a1) == 57))) else (arrearslaw20_LockboxLuhn.j5 kj28 a1 a2 y110 y123 false))) else (none)) else (none)) else (none)) else (none)) else (none)) else (none))) = some r := by rw [if_pos rfl] at H; exact H
                                    clear H
                                    have H := H1
                                    clear H1
                                    replace H := Option.bind_eq_some_iff.mp H
                                    obtain ⟨t117, A360, H⟩ := H
                                    replace H : (if 0 ≤ (wrap64 (a1 + 1)) then (if (wrap64 (a1 + 1)) < (y110.length : Int) then (if 0 ≤ a1 then (if a1 < (t117.length : Int) then (if a1 < (y110.length : Int) then (if (wrap64 (a1 + 1)) < (t117.length : Int) then ((some ((t117.set (a1 : Int).toNat (rd y110 (wrap64 (a1 + 1)))).set ((wrap64 (a1 + 1)) : Int).toNat (rd y110 a1) : List Int)).bind fun y123 => (if ((((rd y110 a1) - 48) % 256) + (((rd y110 (wrap64 (a1 + 1))) - 48) % 256)) = 9 then (if (rd y110 a1) = 48 then (arrearslaw20_LockboxLuhn.j5 kj28 a1 a2 y110 y123 true) else (arrearslaw20_LockboxLuhn.j5 kj28 a1 a2 y110 y123 ((rd y110 a1) == 57))) else (arrearslaw20_LockboxLuhn.j5 kj28 a1 a2 y110 y123 false))) else (none)) else (none)) else (none)) else (none)) else (none)) else (none)) = some r := H
                                    have A36 := Aside0.mk A360
                                    clear A360
                                    obtain ⟨ji37, hji37⟩ : ∃ j_ : Int, (wrap64 (a1 + 1)) = j_ := ⟨_, rfl⟩
                                    replace H : (if 0 ≤ (ji37) then (if (ji37) < (y110.length : Int) then (if 0 ≤ a1 then (if a1 < (t117.length : Int) then (if a1 < (y110.length : Int) then (if (ji37) < (t117.length : Int) then ((some ((t117.set (a1 : Int).toNat (rd y110 (ji37))).set ((ji37) : Int).toNat (rd y110 a1) : List Int)).bind fun y123 => (if ((((rd y110 a1) - 48) % 256) + (((rd y110 (ji37)) - 48) % 256)) = 9 then (if (rd y110 a1) = 48 then (arrearslaw20_LockboxLuhn.j5 kj28 a1 a2 y110 y123 true) else (arrearslaw20_LockboxLuhn.j5 kj28 a1 a2 y110 y123 ((rd y110 a1) == 57))) else (arrearslaw20_LockboxLuhn.j5 kj28 a1 a2 y110 y123 false))) else (none)) else (none)) else (none)) else (none)) else (none)) else (none)) = some r := by first | (rw [hji37] at H; exact H) | (simp only [hji37] at H ⊢; exact H)
                                    (try rw [hji37] at A36)
                                    have hji37w : (IntKind.i64.wrap (a1 + 1)) = ji37 := (i64_w _).trans hji37
                                    by_cases c38 : 0 ≤ (ji37)
                                    · rw [if_pos c38] at H
                                      have c38b0 : decide (0 ≤ (ji37)) = true := decide_eq_true c38
                                      clear c38
                                      by_cases c39 : (ji37) < (y110.length : Int)
                                      · rw [if_pos c39] at H
                                        have c39b0 : decide ((ji37) < (y110.length : Int)) = true := decide_eq_true c39
                                        clear c39
                                        by_cases c40 : 0 ≤ a1
                                        · rw [if_pos c40] at H
                                          have c40b0 : decide (0 ≤ a1) = true := decide_eq_true c40
                                          clear c40
                                          by_cases c41 : a1 < (t117.length : Int)
                                          · rw [if_pos c41] at H
                                            have c41b0 : decide (a1 < (t117.length : Int)) = true := decide_eq_true c41
                                            clear c41
                                            obtain ⟨y121, hy121⟩ : ∃ y_ : List Int, y_ = (t117.set (a1 : Int).toNat (rd y110 (ji37))) := ⟨_, rfl⟩
                                            replace H : (if a1 < (y110.length : Int) then (if (ji37) < (t117.length : Int) then ((some (y121.set ((ji37) : Int).toNat (rd y110 a1) : List Int)).bind fun y123 => (if ((((rd y110 a1) - 48) % 256) + (((rd y110 (ji37)) - 48) % 256)) = 9 then (if (rd y110 a1) = 48 then (arrearslaw20_LockboxLuhn.j5 kj28 a1 a2 y110 y123 true) else (arrearslaw20_LockboxLuhn.j5 kj28 a1 a2 y110 y123 ((rd y110 a1) == 57))) else (arrearslaw20_LockboxLuhn.j5 kj28 a1 a2 y110 y123 false))) else (none)) else (none)) = some r := by first | (rw [hy121]; with_reducible exact H) | (have H2_ := (Option.bind_some _ _).symm.trans H; rw [hy121]; with_reducible exact H2_) | (have H2_ := (Option.bind_some _ _).symm.trans H; with_reducible exact H2_) | with_reducible exact H | (rw [hy121]; exact H) | exact H
                                            have Ny121 := Aside0.mk hy121
                                            clear hy121
                                            by_cases c43 : a1 < (y110.length : Int)
                                            · rw [if_pos c43] at H
                                              have c43b0 : decide (a1 < (y110.length : Int)) = true := decide_eq_true c43
                                              clear c43
                                              by_cases c44 : (ji37) < (t117.length : Int)
                                              · rw [if_pos c44] at H
                                                have c44b0 : decide ((ji37) < (t117.length : Int)) = true := decide_eq_true c44
                                                clear c44
                                                obtain ⟨y123, hy123⟩ : ∃ y_ : List Int, y_ = (y121.set ((ji37) : Int).toNat (rd y110 a1)) := ⟨_, rfl⟩
                                                replace H : (if ((((rd y110 a1) - 48) % 256) + (((rd y110 (ji37)) - 48) % 256)) = 9 then (if (rd y110 a1) = 48 then (arrearslaw20_LockboxLuhn.j5 kj28 a1 a2 y110 y123 true) else (arrearslaw20_LockboxLuhn.j5 kj28 a1 a2 y110 y123 ((rd y110 a1) == 57))) else (arrearslaw20_LockboxLuhn.j5 kj28 a1 a2 y110 y123 false)) = some r := by first | (rw [hy123]; with_reducible exact H) | (have H2_ := (Option.bind_some _ _).symm.trans H; rw [hy123]; with_reducible exact H2_) | (have H2_ := (Option.bind_some _ _).symm.trans H; with_reducible exact H2_) | with_reducible exact H | (rw [hy123]; exact H) | exact H
                                                have Ny123 := Aside0.mk hy123
                                                clear hy123
                                                have HC46 := Aside0.mk H
                                                clear H
                                                go_upto_region 21 with (first | (go_at_call 14; (with_reducible refine (arrearslaw19_CopyBytes.calls kj28 _ _ y110 t117 _ ?side1 ?side2 A36.out).mono ?_); (case side1 => repeat (first | exact (Kd.R_reads' HO_9.out).2.2 | (with_reducible refine Kd.C_alloc ?_ _) | (with_reducible refine Kd.C_drewN ?_ _) | (with_reducible refine Kd.C_drew ?_))); (case side2 => exact (Kd.R_reads' HO_9.out).2.1); rintro e w47 ⟨v118, rfl, ho0, hb⟩; have n0_ := Aside0.mk (Kd.R_elder' (by (with_reducible repeat (first | apply Kd.R_alloc | apply Kd.R_drewN | apply Kd.R_drew)); exact HO_9.out) (Kd.R_base ho0) hb); have n1_ := Aside0.mk (Kd.R_lower (Kd.R_new' ho0 (Kd.R_lt (by (with_reducible repeat (first | apply Kd.R_alloc | apply Kd.R_drewN | apply Kd.R_drew)); exact HO_9.out))) (below_size (by repeat (first | (with_reducible first | exact HB.out | apply below_alloc | apply pw_below_drewN | apply below_drew1) | exact HB.out)))); have n2_ := Aside0.mk (below_step (by repeat (first | (with_reducible first | exact HB.out | apply below_alloc | apply pw_below_drewN | apply below_drew1) | exact HB.out)) hb); clear HO_9; clear HB; have HO_9 := n0_; have HO119 := n1_; have HB := n2_; clear n0_ n1_ n2_; (try clear hb); (try clear hb2); (try clear hk); (try clear hi); (try clear ho0); have p120 : 0 ≤ ((ji37) : Int) := of_decide_eq_true (by first | (with_reducible assumption) | assumption); have q120 : (ji37) < (y110.length : Int) := of_decide_eq_true (by first | (with_reducible assumption) | assumption); obtain ⟨ad120, e120, hx120_0⟩ := Kd.at_int (Kd.R_reads' HO_9.out).2.2 (ji37) p120 q120; cases e120; replace p120 := eq_true p120; replace q120 := eq_true q120; have p42 : 0 ≤ (a1 : Int) := of_decide_eq_true (by first | (with_reducible assumption) | assumption); have q42 : (a1 : Int) < ((t117.length : Int) : Int) := of_decide_eq_true (by first | (with_reducible assumption) | assumption); obtain ⟨go42, co42, eo42, gb42, gl42, cl42, HG42⟩ := Kd.R_form HO119.out (by omega); (first | cases eo42 | (injection eo42 with ea_ en_ ec_; (first | subst ea_ | (injection ea_ with ea_; subst ea_)); subst ec_; clear en_)); have GB42 := Aside0.mk gb42; have GG42 := Aside0.mk HG42; clear gb42 gl42 HG42; obtain ⟨hx42_0, hf42_0⟩ := Kd.R_celln 0 HO119.out (a1 : Int) p42 q42; replace p42 := eq_true p42; replace q42 := eq_true q42; have n_ := Aside0.mk (Kd.R_mono (ok' := (fun k_ => some k_ ≠ (.slice (some ad120) y110.length co24 : Value).ownBlock)) HO119.out (fun k_ hk => hk.2)); clear HO119; have HO119 := n_; clear n_; obtain ⟨hy48_, hz48_⟩ := Kd.R_celln 0 HO119.out (a1 : Int) (of_decide_eq_true (by first | (with_reducible assumption) | assumption)) (of_decide_eq_true (by first | (with_reducible assumption) | assumption)); have HP48 := Kd.R_putg HO119.out (a1 : Int) (rd y110 (ji37))) | ((with_reducible refine gate_store (t := 5) (p := 107) rfl ?_); (try (rw [drewN_self w47]; generalize hq_ : World.drewN w47 _ = w47; have n0_ := Aside0.mk (Kd.R_at hq_ HO_9.out); have n1_ := Aside0.mk (Kd.R_at hq_ HO119.out); have n2_ := Aside0.mk (below_at hq_ HB.out); clear hq_ HO_9 HO119 HB; have HO_9 := n0_; have HO119 := n1_; have HB := n2_; clear n0_ n1_ n2_; (try (have n_ := Aside0.mk (Kd.R_mono (ok' := (fun k_ => some k_ ≠ (.slice (some ad120) y110.length co24 : Value).ownBlock)) HO119.out (fun k_ hk => hk.2)); clear HO119; have HO119 := n_; clear n_)); (try (obtain ⟨hy48_, hz48_⟩ := Kd.R_celln 0 HO119.out (a1 : Int) (of_decide_eq_true (by first | (with_reducible assumption) | assumption)) (of_decide_eq_true (by first | (with_reducible assumption) | assumption)))); (try (have HP48 := Kd.R_putg HO119.out (a1 : Int) (rd y110 (ji37)))))); refine store_event (t := 5) (p := 107) (v := ?vo_w49) (w1 := (w47.setCell ⟨go42, (a1 : Int).toNat, none⟩ (.int .u8 (rd y110 (ji37))))) ?hg ?ho ?hn ?hr ?_; (case ho => rfl); (case hg => rfl); (case hn => rfl); (case hr => first | (go_simp; done) | (go_simp; rfl)); intro w49 hw; have hg : w47.grownBy w49 (some go42) := (by rw [hw]; exact HP48.2); have hp_ : Kd.R (Kd.int .u8) 5 w49 w.heap.size (fun k_ => some k_ ≠ (.slice (some ad120) y110.length co24 : Value).ownBlock) (.slice (some ⟨go42, 0, none⟩) t117.length co42) y121 := (by rw [hw, Ny121.out]; exact HP48.1); clear HP48; have n0_ := Aside0.mk (Kd.R_after (v := (.slice (some ⟨go42, 0, none⟩) t117.length co42)) (v1 := (.slice (some ⟨go42, 0, none⟩) t117.length co42)) (ok := (fun _ => True)) (by (with_reducible repeat (first | apply Kd.R_alloc | apply Kd.R_drewN | apply Kd.R_drew)); exact HO_9.out) hg (.inl rfl)); have n1_ := Aside0.mk (hp_); have n2_ := Aside0.mk ((by rw [hw]; exact below_set (HB.out) GB42.out : Below w.heap.size w w49)); clear HO_9; clear HO119; clear HB; have HO_9 := n0_; have HO119 := n1_; have HB := n2_; clear n0_ n1_ n2_; clear hg hw hp_; have p122 : 0 ≤ (a1 : Int) := of_decide_eq_true (by first | (with_reducible assumption) | assumption); have q122 : a1 < (y110.length : Int) := of_decide_eq_true (by first | (with_reducible assumption) | assumption); obtain ⟨ad122, e122, hx122_0⟩ := Kd.at_int (Kd.R_reads' HO_9.out).2.2 a1 p122 q122; obtain rfl : ad120 = ad122 := (by injection e122); replace p122 := eq_true p122; replace q122 := eq_true q122; have p45 : 0 ≤ ((ji37) : Int) := of_decide_eq_true (by first | (with_reducible assumption) | assumption); have q45 : ((ji37) : Int) < ((t117.length : Int) : Int) := of_decide_eq_true (by first | (with_reducible assumption) | assumption); obtain ⟨hx45_0, hf45_0⟩ := Kd.R_celln 0 HO119.out ((ji37) : Int) p45 q45; replace p45 := eq_true p45; replace q45 := eq_true q45; obtain ⟨hy50_, hz50_⟩ := Kd.R_celln 0 HO119.out ((ji37) : Int) (of_decide_eq_true (by first | (with_reducible assumption) | assumption)) (of_decide_eq_true (by first | (with_reducible assumption) | assumption)); have HP50 := Kd.R_putg HO119.out ((ji37) : Int) (rd y110 a1)) | ((with_reducible refine gate_store (t := 5) (p := 115) rfl ?_); (try (rw [drewN_self w49]; generalize hq_ : World.drewN w49 _ = w49; have n0_ := Aside0.mk (Kd.R_at hq_ HO_9.out); have n1_ := Aside0.mk (Kd.R_at hq_ HO119.out); have n2_ := Aside0.mk (below_at hq_ HB.out); clear hq_ HO_9 HO119 HB; have HO_9 := n0_; have HO119 := n1_; have HB := n2_; clear n0_ n1_ n2_; (try (obtain ⟨hy50_, hz50_⟩ := Kd.R_celln 0 HO119.out ((ji37) : Int) (of_decide_eq_true (by first | (with_reducible assumption) | assumption)) (of_decide_eq_true (by first | (with_reducible assumption) | assumption)))); (try (have HP50 := Kd.R_putg HO119.out ((ji37) : Int) (rd y110 a1))))); refine store_event (t := 5) (p := 115) (v := ?vo_w51) (w1 := (w49.setCell ⟨go42, ((ji37) : Int).toNat, none⟩ (.int .u8 (rd y110 a1)))) ?hg ?ho ?hn ?hr ?_; (case ho => rfl); (case hg => rfl); (case hn => rfl); (case hr => first | (go_simp; done) | (go_simp; rfl)); intro w51 hw; have hg : w49.grownBy w51 (some go42) := (by rw [hw]; exact HP50.2); have hp_ : Kd.R (Kd.int .u8) 5 w51 w.heap.size (fun k_ => some k_ ≠ (.slice (some ad120) y110.length co24 : Value).ownBlock) (.slice (some ⟨go42, 0, none⟩) t117.length co42) y123 := (by rw [hw, Ny123.out]; exact HP50.1); clear HP50; have n0_ := Aside0.mk (Kd.R_after (v := (.slice (some ⟨go42, 0, none⟩) t117.length co42)) (v1 := (.slice (some ⟨go42, 0, none⟩) t117.length co42)) (ok := (fun _ => True)) (by (with_reducible repeat (first | apply Kd.R_alloc | apply Kd.R_drewN | apply Kd.R_drew)); exact HO_9.out) hg (.inl rfl)); have n1_ := Aside0.mk (hp_); have n2_ := Aside0.mk ((by rw [hw]; exact below_set (HB.out) GB42.out : Below w.heap.size w w51)); clear HO_9; clear HO119; clear HB; have HO_9 := n0_; have HO119 := n1_; have HB := n2_; clear n0_ n1_ n2_; clear hg hw hp_; have p124 : 0 ≤ (a1 : Int) := of_decide_eq_true (by first | (with_reducible assumption) | assumption); have q124 : a1 < (y110.length : Int) := of_decide_eq_true (by first | (with_reducible assumption) | assumption); obtain ⟨ad124, e124, hx124_0⟩ := Kd.at_int (Kd.R_reads' HO_9.out).2.2 a1 p124 q124; obtain rfl : ad120 = ad124 := (by injection e124); replace p124 := eq_true p124; replace q124 := eq_true q124; have p125 : 0 ≤ ((ji37) : Int) := of_decide_eq_true (by first | (with_reducible assumption) | assumption); have q125 : (ji37) < (y110.length : Int) := of_decide_eq_true (by first | (with_reducible assumption) | assumption); obtain ⟨ad125, e125, hx125_0⟩ := Kd.at_int (Kd.R_reads' HO_9.out).2.2 (ji37) p125 q125; obtain rfl : ad120 = ad125 := (by injection e125); replace p125 := eq_true p125; replace q125 := eq_true q125))
                                                repeat (go_quiet (first | (go_at_call 14; (with_reducible refine (arrearslaw19_CopyBytes.calls kj28 _ _ y110 t117 _ ?side1 ?side2 A36.out).mono ?_); (case side1 => repeat (first | exact (Kd.R_reads' HO_9.out).2.2 | (with_reducible refine Kd.C_alloc ?_ _) | (with_reducible refine Kd.C_drewN ?_ _) | (with_reducible refine Kd.C_drew ?_))); (case side2 => exact (Kd.R_reads' HO_9.out).2.1); rintro e w47 ⟨v118, rfl, ho0, hb⟩; have n0_ := Aside0.mk (Kd.R_elder' (by (with_reducible repeat (first | apply Kd.R_alloc | apply Kd.R_drewN | apply Kd.R_drew)); exact HO_9.out) (Kd.R_base ho0) hb); have n1_ := Aside0.mk (Kd.R_lower (Kd.R_new' ho0 (Kd.R_lt (by (with_reducible repeat (first | apply Kd.R_alloc | apply Kd.R_drewN | apply Kd.R_drew)); exact HO_9.out))) (below_size (by repeat (first | (with_reducible first | exact HB.out | apply below_alloc | apply pw_below_drewN | apply below_drew1) | exact HB.out)))); have n2_ := Aside0.mk (below_step (by repeat (first | (with_reducible first | exact HB.out | apply below_alloc | apply pw_below_drewN | apply below_drew1) | exact HB.out)) hb); clear HO_9; clear HB; have HO_9 := n0_; have HO119 := n1_; have HB := n2_; clear n0_ n1_ n2_; (try clear hb); (try clear hb2); (try clear hk); (try clear hi); (try clear ho0); have p120 : 0 ≤ ((ji37) : Int) := of_decide_eq_true (by first | (with_reducible assumption) | assumption); have q120 : (ji37) < (y110.length : Int) := of_decide_eq_true (by first | (with_reducible assumption) | assumption); obtain ⟨ad120, e120, hx120_0⟩ := Kd.at_int (Kd.R_reads' HO_9.out).2.2 (ji37) p120 q120; cases e120; replace p120 := eq_true p120; replace q120 := eq_true q120; have p42 : 0 ≤ (a1 : Int) := of_decide_eq_true (by first | (with_reducible assumption) | assumption); have q42 : (a1 : Int) < ((t117.length : Int) : Int) := of_decide_eq_true (by first | (with_reducible assumption) | assumption); obtain ⟨go42, co42, eo42, gb42, gl42, cl42, HG42⟩ := Kd.R_form HO119.out (by omega); (first | cases eo42 | (injection eo42 with ea_ en_ ec_; (first | subst ea_ | (injection ea_ with ea_; subst ea_)); subst ec_; clear en_)); have GB42 := Aside0.mk gb42; have GG42 := Aside0.mk HG42; clear gb42 gl42 HG42; obtain ⟨hx42_0, hf42_0⟩ := Kd.R_celln 0 HO119.out (a1 : Int) p42 q42; replace p42 := eq_true p42; replace q42 := eq_true q42; have n_ := Aside0.mk (Kd.R_mono (ok' := (fun k_ => some k_ ≠ (.slice (some ad120) y110.length co24 : Value).ownBlock)) HO119.out (fun k_ hk => hk.2)); clear HO119; have HO119 := n_; clear n_; obtain ⟨hy48_, hz48_⟩ := Kd.R_celln 0 HO119.out (a1 : Int) (of_decide_eq_true (by first | (with_reducible assumption) | assumption)) (of_decide_eq_true (by first | (with_reducible assumption) | assumption)); have HP48 := Kd.R_putg HO119.out (a1 : Int) (rd y110 (ji37))) | ((with_reducible refine gate_store (t := 5) (p := 107) rfl ?_); (try (rw [drewN_self w47]; generalize hq_ : World.drewN w47 _ = w47; have n0_ := Aside0.mk (Kd.R_at hq_ HO_9.out); have n1_ := Aside0.mk (Kd.R_at hq_ HO119.out); have n2_ := Aside0.mk (below_at hq_ HB.out); clear hq_ HO_9 HO119 HB; have HO_9 := n0_; have HO119 := n1_; have HB := n2_; clear n0_ n1_ n2_; (try (have n_ := Aside0.mk (Kd.R_mono (ok' := (fun k_ => some k_ ≠ (.slice (some ad120) y110.length co24 : Value).ownBlock)) HO119.out (fun k_ hk => hk.2)); clear HO119; have HO119 := n_; clear n_)); (try (obtain ⟨hy48_, hz48_⟩ := Kd.R_celln 0 HO119.out (a1 : Int) (of_decide_eq_true (by first | (with_reducible assumption) | assumption)) (of_decide_eq_true (by first | (with_reducible assumption) | assumption)))); (try (have HP48 := Kd.R_putg HO119.out (a1 : Int) (rd y110 (ji37)))))); refine store_event (t := 5) (p := 107) (v := ?vo_w49) (w1 := (w47.setCell ⟨go42, (a1 : Int).toNat, none⟩ (.int .u8 (rd y110 (ji37))))) ?hg ?ho ?hn ?hr ?_; (case ho => rfl); (case hg => rfl); (case hn => rfl); (case hr => first | (go_simp; done) | (go_simp; rfl)); intro w49 hw; have hg : w47.grownBy w49 (some go42) := (by rw [hw]; exact HP48.2); have hp_ : Kd.R (Kd.int .u8) 5 w49 w.heap.size (fun k_ => some k_ ≠ (.slice (some ad120) y110.length co24 : Value).ownBlock) (.slice (some ⟨go42, 0, none⟩) t117.length co42) y121 := (by rw [hw, Ny121.out]; exact HP48.1); clear HP48; have n0_ := Aside0.mk (Kd.R_after (v := (.slice (some ⟨go42, 0, none⟩) t117.length co42)) (v1 := (.slice (some ⟨go42, 0, none⟩) t117.length co42)) (ok := (fun _ => True)) (by (with_reducible repeat (first | apply Kd.R_alloc | apply Kd.R_drewN | apply Kd.R_drew)); exact HO_9.out) hg (.inl rfl)); have n1_ := Aside0.mk (hp_); have n2_ := Aside0.mk ((by rw [hw]; exact below_set (HB.out) GB42.out : Below w.heap.size w w49)); clear HO_9; clear HO119; clear HB; have HO_9 := n0_; have HO119 := n1_; have HB := n2_; clear n0_ n1_ n2_; clear hg hw hp_; have p122 : 0 ≤ (a1 : Int) := of_decide_eq_true (by first | (with_reducible assumption) | assumption); have q122 : a1 < (y110.length : Int) := of_decide_eq_true (by first | (with_reducible assumption) | assumption); obtain ⟨ad122, e122, hx122_0⟩ := Kd.at_int (Kd.R_reads' HO_9.out).2.2 a1 p122 q122; obtain rfl : ad120 = ad122 := (by injection e122); replace p122 := eq_true p122; replace q122 := eq_true q122; have p45 : 0 ≤ ((ji37) : Int) := of_decide_eq_true (by first | (with_reducible assumption) | assumption); have q45 : ((ji37) : Int) < ((t117.length : Int) : Int) := of_decide_eq_true (by first | (with_reducible assumption) | assumption); obtain ⟨hx45_0, hf45_0⟩ := Kd.R_celln 0 HO119.out ((ji37) : Int) p45 q45; replace p45 := eq_true p45; replace q45 := eq_true q45; obtain ⟨hy50_, hz50_⟩ := Kd.R_celln 0 HO119.out ((ji37) : Int) (of_decide_eq_true (by first | (with_reducible assumption) | assumption)) (of_decide_eq_true (by first | (with_reducible assumption) | assumption)); have HP50 := Kd.R_putg HO119.out ((ji37) : Int) (rd y110 a1)) | ((with_reducible refine gate_store (t := 5) (p := 115) rfl ?_); (try (rw [drewN_self w49]; generalize hq_ : World.drewN w49 _ = w49; have n0_ := Aside0.mk (Kd.R_at hq_ HO_9.out); have n1_ := Aside0.mk (Kd.R_at hq_ HO119.out); have n2_ := Aside0.mk (below_at hq_ HB.out); clear hq_ HO_9 HO119 HB; have HO_9 := n0_; have HO119 := n1_; have HB := n2_; clear n0_ n1_ n2_; (try (obtain ⟨hy50_, hz50_⟩ := Kd.R_celln 0 HO119.out ((ji37) : Int) (of_decide_eq_true (by first | (with_reducible assumption) | assumption)) (of_decide_eq_true (by first | (with_reducible assumption) | assumption)))); (try (have HP50 := Kd.R_putg HO119.out ((ji37) : Int) (rd y110 a1))))); refine store_event (t := 5) (p := 115) (v := ?vo_w51) (w1 := (w49.setCell ⟨go42, ((ji37) : Int).toNat, none⟩ (.int .u8 (rd y110 a1)))) ?hg ?ho ?hn ?hr ?_; (case ho => rfl); (case hg => rfl); (case hn => rfl); (case hr => first | (go_simp; done) | (go_simp; rfl)); intro w51 hw; have hg : w49.grownBy w51 (some go42) := (by rw [hw]; exact HP50.2); have hp_ : Kd.R (Kd.int .u8) 5 w51 w.heap.size (fun k_ => some k_ ≠ (.slice (some ad120) y110.length co24 : Value).ownBlock) (.slice (some ⟨go42, 0, none⟩) t117.length co42) y123 := (by rw [hw, Ny123.out]; exact HP50.1); clear HP50; have n0_ := Aside0.mk (Kd.R_after (v := (.slice (some ⟨go42, 0, none⟩) t117.length co42)) (v1 := (.slice (some ⟨go42, 0, none⟩) t117.length co42)) (ok := (fun _ => True)) (by (with_reducible repeat (first | apply Kd.R_alloc | apply Kd.R_drewN | apply Kd.R_drew)); exact HO_9.out) hg (.inl rfl)); have n1_ := Aside0.mk (hp_); have n2_ := Aside0.mk ((by rw [hw]; exact below_set (HB.out) GB42.out : Below w.heap.size w w51)); clear HO_9; clear HO119; clear HB; have HO_9 := n0_; have HO119 := n1_; have HB := n2_; clear n0_ n1_ n2_; clear hg hw hp_; have p124 : 0 ≤ (a1 : Int) := of_decide_eq_true (by first | (with_reducible assumption) | assumption); have q124 : a1 < (y110.length : Int) := of_decide_eq_true (by first | (with_reducible assumption) | assumption); obtain ⟨ad124, e124, hx124_0⟩ := Kd.at_int (Kd.R_reads' HO_9.out).2.2 a1 p124 q124; obtain rfl : ad120 = ad124 := (by injection e124); replace p124 := eq_true p124; replace q124 := eq_true q124; have p125 : 0 ≤ ((ji37) : Int) := of_decide_eq_true (by first | (with_reducible assumption) | assumption); have q125 : (ji37) < (y110.length : Int) := of_decide_eq_true (by first | (with_reducible assumption) | assumption); obtain ⟨ad125, e125, hx125_0⟩ := Kd.at_int (Kd.R_reads' HO_9.out).2.2 (ji37) p125 q125; obtain rfl : ad120 = ad125 := (by injection e125); replace p125 := eq_true p125; replace q125 := eq_true q125)); go_upto_region 21 with (first | (go_at_call 14; (with_reducible refine (arrearslaw19_CopyBytes.calls kj28 _ _ y110 t117 _ ?side1 ?side2 A36.out).mono ?_); (case side1 => repeat (first | exact (Kd.R_reads' HO_9.out).2.2 | (with_reducible refine Kd.C_alloc ?_ _) | (with_reducible refine Kd.C_drewN ?_ _) | (with_reducible refine Kd.C_drew ?_))); (case side2 => exact (Kd.R_reads' HO_9.out).2.1); rintro e w47 ⟨v118, rfl, ho0, hb⟩; have n0_ := Aside0.mk (Kd.R_elder' (by (with_reducible repeat (first | apply Kd.R_alloc | apply Kd.R_drewN | apply Kd.R_drew)); exact HO_9.out) (Kd.R_base ho0) hb); have n1_ := Aside0.mk (Kd.R_lower (Kd.R_new' ho0 (Kd.R_lt (by (with_reducible repeat (first | apply Kd.R_alloc | apply Kd.R_drewN | apply Kd.R_drew)); exact HO_9.out))) (below_size (by repeat (first | (with_reducible first | exact HB.out | apply below_alloc | apply pw_below_drewN | apply below_drew1) | exact HB.out)))); have n2_ := Aside0.mk (below_step (by repeat (first | (with_reducible first | exact HB.out | apply below_alloc | apply pw_below_drewN | apply below_drew1) | exact HB.out)) hb); clear HO_9; clear HB; have HO_9 := n0_; have HO119 := n1_; have HB := n2_; clear n0_ n1_ n2_; (try clear hb); (try clear hb2); (try clear hk); (try clear hi); (try clear ho0); have p120 : 0 ≤ ((ji37) : Int) := of_decide_eq_true (by first | (with_reducible assumption) | assumption); have q120 : (ji37) < (y110.length : Int) := of_decide_eq_true (by first | (with_reducible assumption) | assumption); obtain ⟨ad120, e120, hx120_0⟩ := Kd.at_int (Kd.R_reads' HO_9.out).2.2 (ji37) p120 q120; cases e120; replace p120 := eq_true p120; replace q120 := eq_true q120; have p42 : 0 ≤ (a1 : Int) := of_decide_eq_true (by first | (with_reducible assumption) | assumption); have q42 : (a1 : Int) < ((t117.length : Int) : Int) := of_decide_eq_true (by first | (with_reducible assumption) | assumption); obtain ⟨go42, co42, eo42, gb42, gl42, cl42, HG42⟩ := Kd.R_form HO119.out (by omega); (first | cases eo42 | (injection eo42 with ea_ en_ ec_; (first | subst ea_ | (injection ea_ with ea_; subst ea_)); subst ec_; clear en_)); have GB42 := Aside0.mk gb42; have GG42 := Aside0.mk HG42; clear gb42 gl42 HG42; obtain ⟨hx42_0, hf42_0⟩ := Kd.R_celln 0 HO119.out (a1 : Int) p42 q42; replace p42 := eq_true p42; replace q42 := eq_true q42; have n_ := Aside0.mk (Kd.R_mono (ok' := (fun k_ => some k_ ≠ (.slice (some ad120) y110.length co24 : Value).ownBlock)) HO119.out (fun k_ hk => hk.2)); clear HO119; have HO119 := n_; clear n_; obtain ⟨hy48_, hz48_⟩ := Kd.R_celln 0 HO119.out (a1 : Int) (of_decide_eq_true (by first | (with_reducible assumption) | assumption)) (of_decide_eq_true (by first | (with_reducible assumption) | assumption)); have HP48 := Kd.R_putg HO119.out (a1 : Int) (rd y110 (ji37))) | ((with_reducible refine gate_store (t := 5) (p := 107) rfl ?_); (try (rw [drewN_self w47]; generalize hq_ : World.drewN w47 _ = w47; have n0_ := Aside0.mk (Kd.R_at hq_ HO_9.out); have n1_ := Aside0.mk (Kd.R_at hq_ HO119.out); have n2_ := Aside0.mk (below_at hq_ HB.out); clear hq_ HO_9 HO119 HB; have HO_9 := n0_; have HO119 := n1_; have HB := n2_; clear n0_ n1_ n2_; (try (have n_ := Aside0.mk (Kd.R_mono (ok' := (fun k_ => some k_ ≠ (.slice (some ad120) y110.length co24 : Value).ownBlock)) HO119.out (fun k_ hk => hk.2)); clear HO119; have HO119 := n_; clear n_)); (try (obtain ⟨hy48_, hz48_⟩ := Kd.R_celln 0 HO119.out (a1 : Int) (of_decide_eq_true (by first | (with_reducible assumption) | assumption)) (of_decide_eq_true (by first | (with_reducible assumption) | assumption)))); (try (have HP48 := Kd.R_putg HO119.out (a1 : Int) (rd y110 (ji37)))))); refine store_event (t := 5) (p := 107) (v := ?vo_w49) (w1 := (w47.setCell ⟨go42, (a1 : Int).toNat, none⟩ (.int .u8 (rd y110 (ji37))))) ?hg ?ho ?hn ?hr ?_; (case ho => rfl); (case hg => rfl); (case hn => rfl); (case hr => first | (go_simp; done) | (go_simp; rfl)); intro w49 hw; have hg : w47.grownBy w49 (some go42) := (by rw [hw]; exact HP48.2); have hp_ : Kd.R (Kd.int .u8) 5 w49 w.heap.size (fun k_ => some k_ ≠ (.slice (some ad120) y110.length co24 : Value).ownBlock) (.slice (some ⟨go42, 0, none⟩) t117.length co42) y121 := (by rw [hw, Ny121.out]; exact HP48.1); clear HP48; have n0_ := Aside0.mk (Kd.R_after (v := (.slice (some ⟨go42, 0, none⟩) t117.length co42)) (v1 := (.slice (some ⟨go42, 0, none⟩) t117.length co42)) (ok := (fun _ => True)) (by (with_reducible repeat (first | apply Kd.R_alloc | apply Kd.R_drewN | apply Kd.R_drew)); exact HO_9.out) hg (.inl rfl)); have n1_ := Aside0.mk (hp_); have n2_ := Aside0.mk ((by rw [hw]; exact below_set (HB.out) GB42.out : Below w.heap.size w w49)); clear HO_9; clear HO119; clear HB; have HO_9 := n0_; have HO119 := n1_; have HB := n2_; clear n0_ n1_ n2_; clear hg hw hp_; have p122 : 0 ≤ (a1 : Int) := of_decide_eq_true (by first | (with_reducible assumption) | assumption); have q122 : a1 < (y110.length : Int) := of_decide_eq_true (by first | (with_reducible assumption) | assumption); obtain ⟨ad122, e122, hx122_0⟩ := Kd.at_int (Kd.R_reads' HO_9.out).2.2 a1 p122 q122; obtain rfl : ad120 = ad122 := (by injection e122); replace p122 := eq_true p122; replace q122 := eq_true q122; have p45 : 0 ≤ ((ji37) : Int) := of_decide_eq_true (by first | (with_reducible assumption) | assumption); have q45 : ((ji37) : Int) < ((t117.length : Int) : Int) := of_decide_eq_true (by first | (with_reducible assumption) | assumption); obtain ⟨hx45_0, hf45_0⟩ := Kd.R_celln 0 HO119.out ((ji37) : Int) p45 q45; replace p45 := eq_true p45; replace q45 := eq_true q45; obtain ⟨hy50_, hz50_⟩ := Kd.R_celln 0 HO119.out ((ji37) : Int) (of_decide_eq_true (by first | (with_reducible assumption) | assumption)) (of_decide_eq_true (by first | (with_reducible assumption) | assumption)); have HP50 := Kd.R_putg HO119.out ((ji37) : Int) (rd y110 a1)) | ((with_reducible refine gate_store (t := 5) (p := 115) rfl ?_); (try (rw [drewN_self w49]; generalize hq_ : World.drewN w49 _ = w49; have n0_ := Aside0.mk (Kd.R_at hq_ HO_9.out); have n1_ := Aside0.mk (Kd.R_at hq_ HO119.out); have n2_ := Aside0.mk (below_at hq_ HB.out); clear hq_ HO_9 HO119 HB; have HO_9 := n0_; have HO119 := n1_; have HB := n2_; clear n0_ n1_ n2_; (try (obtain ⟨hy50_, hz50_⟩ := Kd.R_celln 0 HO119.out ((ji37) : Int) (of_decide_eq_true (by first | (with_reducible assumption) | assumption)) (of_decide_eq_true (by first | (with_reducible assumption) | assumption)))); (try (have HP50 := Kd.R_putg HO119.out ((ji37) : Int) (rd y110 a1))))); refine store_event (t := 5) (p := 115) (v := ?vo_w51) (w1 := (w49.setCell ⟨go42, ((ji37) : Int).toNat, none⟩ (.int .u8 (rd y110 a1)))) ?hg ?ho ?hn ?hr ?_; (case ho => rfl); (case hg => rfl); (case hn => rfl); (case hr => first | (go_simp; done) | (go_simp; rfl)); intro w51 hw; have hg : w49.grownBy w51 (some go42) := (by rw [hw]; exact HP50.2); have hp_ : Kd.R (Kd.int .u8) 5 w51 w.heap.size (fun k_ => some k_ ≠ (.slice (some ad120) y110.length co24 : Value).ownBlock) (.slice (some ⟨go42, 0, none⟩) t117.length co42) y123 := (by rw [hw, Ny123.out]; exact HP50.1); clear HP50; have n0_ := Aside0.mk (Kd.R_after (v := (.slice (some ⟨go42, 0, none⟩) t117.length co42)) (v1 := (.slice (some ⟨go42, 0, none⟩) t117.length co42)) (ok := (fun _ => True)) (by (with_reducible repeat (first | apply Kd.R_alloc | apply Kd.R_drewN | apply Kd.R_drew)); exact HO_9.out) hg (.inl rfl)); have n1_ := Aside0.mk (hp_); have n2_ := Aside0.mk ((by rw [hw]; exact below_set (HB.out) GB42.out : Below w.heap.size w w51)); clear HO_9; clear HO119; clear HB; have HO_9 := n0_; have HO119 := n1_; have HB := n2_; clear n0_ n1_ n2_; clear hg hw hp_; have p124 : 0 ≤ (a1 : Int) := of_decide_eq_true (by first | (with_reducible assumption) | assumption); have q124 : a1 < (y110.length : Int) := of_decide_eq_true (by first | (with_reducible assumption) | assumption); obtain ⟨ad124, e124, hx124_0⟩ := Kd.at_int (Kd.R_reads' HO_9.out).2.2 a1 p124 q124; obtain rfl : ad120 = ad124 := (by injection e124); replace p124 := eq_true p124; replace q124 := eq_true q124; have p125 : 0 ≤ ((ji37) : Int) := of_decide_eq_true (by first | (with_reducible assumption) | assumption); have q125 : (ji37) < (y110.length : Int) := of_decide_eq_true (by first | (with_reducible assumption) | assumption); obtain ⟨ad125, e125, hx125_0⟩ := Kd.at_int (Kd.R_reads' HO_9.out).2.2 (ji37) p125 q125; obtain rfl : ad120 = ad125 := (by injection e125); replace p125 := eq_true p125; replace q125 := eq_true q125)))
                                                (try simp only [Act.put, List.setIfInBounds_toArray, List.set_cons_zero, List.set_cons_succ])
                                                go_cut [13] (fun v13 wc => ∃ (kq : Nat) (x13_45 : Bool), v13 = .bool x13_45 ∧ Aside0 (arrearslaw20_LockboxLuhn.j5 kq a1 a2 y110 y123 x13_45 = some r) ∧ Aside0 (kq ≤ kj28) ∧ Aside0 (Kd.R (Kd.int .u8) 5 wc w.heap.size (fun k_ => some k_ ≠ ((.slice (some ⟨go42, 0, none⟩) t117.length co42) : Value).ownBlock) (.slice (some ad120) y110.length co24) y110) ∧ Aside0 (Kd.R (Kd.int .u8) 5 wc w.heap.size (fun k_ => some k_ ≠ ((.slice (some ad120) y110.length co24) : Value).ownBlock) (.slice (some ⟨go42, 0, none⟩) t117.length co42) y123) ∧ Aside0 (Below w.heap.size w wc))
                                                case first =>
                                                  have H := HC46.out
                                                  clear HC46
                                                  by_cases c52 : ((((rd y110 a1) - 48) % 256) + (((rd y110 (ji37)) - 48) % 256)) = 9
                                                  · rw [if_pos c52] at H
                                                    have c52b0 : (((((rd y110 a1) - 48) % 256) + (((rd y110 (ji37)) - 48) % 256)) == 9) = true := beq_iff_eq.mpr c52
                                                    have c52b1 : (((((rd y110 a1) - 48) % 256) + (((rd y110 (ji37)) - 48) % 256)) != 9) = false := bne_eq_false_iff_eq.mpr c52
                                                    clear c52
                                                    (first | rw [c52b0] | (simp only [i64_w, i32_w]; rw [c52b0]) | skip)
                                                    by_cases c53 : (rd y110 a1) = 48
                                                    · rw [if_pos c53] at H
                                                      have c53b0 : ((rd y110 a1) == 48) = true := beq_iff_eq.mpr c53
                                                      have c53b1 : ((rd y110 a1) != 48) = false := bne_eq_false_iff_eq.mpr c53
                                                      clear c53
                                                      have H' := Aside0.mk H
                                                      clear H
                                                      have p126 : 0 ≤ (a1 : Int) := of_decide_eq_true (by first | (with_reducible assumption) | assumption)
                                                      have q126 : a1 < (y110.length : Int) := of_decide_eq_true (by first | (with_reducible assumption) | assumption)
                                                      obtain ⟨ad126, e126, hx126_0⟩ := Kd.at_int (Kd.R_reads' HO_9.out).2.2 a1 p126 q126
                                                      obtain rfl : ad120 = ad126 := (by injection e126)
                                                      replace p126 := eq_true p126
                                                      replace q126 := eq_true q126
                                                      go_wp2
                                                      repeat (go_quiet (fail); try go_wp2)
                                                      go_meet
                                                      case rel => exact ⟨_, (true), (by first | rfl | (simp; done) | (simp [*]; done)), H', ⟨by have := HJ4.out; have := HJ9.out; have := HK3.out; have := HJ21.out; have := HJ28.out; first | omega | exact Nat.le_refl _⟩, ⟨by (with_reducible repeat (first | apply Kd.R_alloc | apply Kd.R_drewN | apply Kd.R_drew)); exact Kd.R_mono HO_9.out (fun _ hk => hk.2)⟩, ⟨by (with_reducible repeat (first | apply Kd.R_alloc | apply Kd.R_drewN | apply Kd.R_drew)); exact HO119.out⟩, ⟨by repeat (first | (with_reducible first | exact HB.out | apply below_alloc | apply pw_below_drewN | apply below_drew1) | exact HB.out)⟩⟩
                                                    · rw [if_neg c53] at H
                                                      have c53b0 : ((rd y110 a1) == 48) = false := beq_eq_false_iff_ne.mpr c53
                                                      have c53b1 : ((rd y110 a1) != 48) = true := bne_iff_ne.mpr c53
                                                      have H' := Aside0.mk H
                                                      clear H
                                                      have p126 : 0 ≤ (a1 : Int) := of_decide_eq_true (by first | (with_reducible assumption) | assumption)
                                                      have q126 : a1 < (y110.length : Int) := of_decide_eq_true (by first | (with_reducible assumption) | assumption)
                                                      obtain ⟨ad126, e126, hx126_0⟩ := Kd.at_int (Kd.R_reads' HO_9.out).2.2 a1 p126 q126
                                                      obtain rfl : ad120 = ad126 := (by injection e126)
                                                      replace p126 := eq_true p126
                                                      replace q126 := eq_true q126
                                                      have p127 : 0 ≤ (a1 : Int) := of_decide_eq_true (by first | (with_reducible assumption) | assumption)
                                                      have q127 : a1 < (y110.length : Int) := of_decide_eq_true (by first | (with_reducible assumption) | assumption)
                                                      obtain ⟨ad127, e127, hx127_0⟩ := Kd.at_int (Kd.R_reads' HO_9.out).2.2 a1 p127 q127
                                                      obtain rfl : ad120 = ad127 := (by injection e127)
                                                      replace p127 := eq_true p127
                                                      replace q127 := eq_true q127
                                                      go_wp2
                                                      repeat (go_quiet (fail); try go_wp2)
                                                      go_meet
                                                      case rel => exact ⟨_, (((rd y110 a1) == 57)), (by first | rfl | (simp; done) | (simp [*]; done)), H', ⟨by have := HJ4.out; have := HJ9.out; have := HK3.out; have := HJ21.out; have := HJ28.out; first | omega | exact Nat.le_refl _⟩, ⟨by (with_reducible repeat (first | apply Kd.R_alloc | apply Kd.R_drewN | apply Kd.R_drew)); exact Kd.R_mono HO_9.out (fun _ hk => hk.2)⟩, ⟨by (with_reducible repeat (first | apply Kd.R_alloc | apply Kd.R_drewN | apply Kd.R_drew)); exact HO119.out⟩, ⟨by repeat (first | (with_reducible first | exact HB.out | apply below_alloc | apply pw_below_drewN | apply below_drew1) | exact HB.out)⟩⟩
                                                  · rw [if_neg c52] at H
                                                    have c52b0 : (((((rd y110 a1) - 48) % 256) + (((rd y110 (ji37)) - 48) % 256)) == 9) = false := beq_eq_false_iff_ne.mpr c52
                                                    have c52b1 : (((((rd y110 a1) - 48) % 256) + (((rd y110 (ji37)) - 48) % 256)) != 9) = true := bne_iff_ne.mpr c52
                                                    (first | rw [c52b0] | (simp only [i64_w, i32_w]; rw [c52b0]) | skip)
                                                    have H' := Aside0.mk H
                                                    clear H
                                                    go_wp2
                                                    repeat (go_quiet (fail); try go_wp2)
                                                    go_meet
                                                    case rel => exact ⟨_, (false), (by first | rfl | (simp; done) | (simp [*]; done)), H', ⟨by have := HJ4.out; have := HJ9.out; have := HK3.out; have := HJ21.out; have := HJ28.out; first | omega | exact Nat.le_refl _⟩, ⟨by (with_reducible repeat (first | apply Kd.R_alloc | apply Kd.R_drewN | apply Kd.R_drew)); exact Kd.R_mono HO_9.out (fun _ hk => hk.2)⟩, ⟨by (with_reducible repeat (first | apply Kd.R_alloc | apply Kd.R_drewN | apply Kd.R_drew)); exact HO119.out⟩, ⟨by repeat (first | (with_reducible first | exact HB.out | apply below_alloc | apply pw_below_drewN | apply below_drew1) | exact HB.out)⟩⟩
                                                case rest =>
                                                  clear HC46
                                                  try clear c1
                                                  try clear p1
                                                  try clear q1
                                                  try clear hx1
                                                  try clear c2
                                                  try clear p2
                                                  try clear c3
                                                  try clear c4
                                                  try clear p4
                                                  try clear q4
                                                  try clear hx4
                                                  try clear hf4
                                                  try clear c5
                                                  try clear p6
                                                  try clear c7
                                                  try clear c7b0
                                                  try clear c8
                                                  try clear c9
                                                  try clear c9b0
                                                  try clear c9b1
                                                  try clear c11
                                                  try clear p11
                                                  try clear q11
                                                  try clear hx11
                                                  try clear c12
                                                  try clear c12b0
                                                  try clear p12
                                                  try clear q12
                                                  try clear hx12
                                                  try clear c13
                                                  try clear c14
                                                  try clear c14b0
                                                  try clear c15
                                                  try clear c15b0
                                                  try clear c15b1
                                                  try clear c16
                                                  try clear c18
                                                  try clear c21
                                                  try clear c25
                                                  try clear c25b0
                                                  try clear c26
                                                  try clear c26b0
                                                  try clear c27
                                                  try clear c27b0
                                                  try clear c28
                                                  try clear c30
                                                  try clear c30b0
                                                  try clear c31
                                                  try clear c31b0
                                                  try clear c32
                                                  try clear c32b0
                                                  try clear c34
                                                  try clear c34b0
                                                  try clear c35
                                                  try clear c38
                                                  try clear c38b0
                                                  try clear c39
                                                  try clear c39b0
                                                  try clear c40
                                                  try clear c40b0
                                                  try clear c41
                                                  try clear c41b0
                                                  try clear p42
                                                  try clear q42
                                                  try clear hx42
                                                  try clear hf42
                                                  try clear c43
                                                  try clear c43b0
                                                  try clear c44
                                                  try clear c44b0
                                                  try clear p45
                                                  try clear q45
                                                  try clear hx45
                                                  try clear hf45
                                                  try clear c52
                                                  try clear c52b0
                                                  try clear c52b1
                                                  try clear c53
                                                  try clear c53b0
                                                  try clear c53b1
                                                  try clear hx115_0
                                                  try clear hx116_0
                                                  try clear hx120_0
                                                  try clear hx122_0
                                                  try clear hx124_0
                                                  try clear hx125_0
                                                  try clear hx126_0
                                                  try clear hx127_0
                                                  try clear hx42_0
                                                  try clear hx45_0
                                                  try clear p1
                                                  try clear p11
                                                  try clear p115
                                                  try clear p116
                                                  try clear p120
                                                  try clear p122
                                                  try clear p124
                                                  try clear p125
                                                  try clear p126
                                                  try clear p127
                                                  try clear p2
                                                  try clear p42
                                                  try clear p45
                                                  try clear p6
                                                  try clear q1
                                                  try clear q11
                                                  try clear q115
                                                  try clear q116
                                                  try clear q120
                                                  try clear q122
                                                  try clear q124
                                                  try clear q125
                                                  try clear q126
                                                  try clear q127
                                                  try clear q42
                                                  try clear q45
                                                  obtain ⟨kq, x13_45, rfl, HA, HJ45, HO_9, HO_11, HB⟩ := hcut
                                                  have hl11_45 := (Kd.R_reads' HO_11.out).1
                                                  rw [hl11_45] at HO_11
                                                  (try simp only [hl11_45])
                                                  (try simp only [hl11_45] at HO_9)
                                                  cases kq with
                                                  | zero => exact absurd HA.out (by simp [arrearslaw20_LockboxLuhn.j5])
                                                  | succ kj45 =>
                                                    have H := HA.out
                                                    clear HA
                                                    simp only [arrearslaw20_LockboxLuhn.j5] at H
                                                    replace H := Option.bind_eq_some_iff.mp H
                                                    obtain ⟨t128, A540, H⟩ := H
                                                    replace H : ((lockbox_Valid.f t128).bind fun t129 => (if (t129 != x13_45) = true then (some false) else (if 0 ≤ a1 then (if a1 < (y110.length : Int) then ((arrearslaw20_text.f (y110.set (a1 : Int).toNat ((wrap64 (48 + a2)) % 256))).bind fun t132 => ((lockbox_Valid.f t132).bind fun t133 => (some (t133 == ((rd y110 a1) == ((wrap64 (48 + a2)) % 256)))))) else (none)) else (none)))) = some r := H
                                                    have A54 := Aside0.mk A540
                                                    clear A540
                                                    replace H := Option.bind_eq_some_iff.mp H
                                                    obtain ⟨t129, A550, H⟩ := H
                                                    replace H : (if (t129 != x13_45) = true then (some false) else (if 0 ≤ a1 then (if a1 < (y110.length : Int) then ((arrearslaw20_text.f (y110.set (a1 : Int).toNat ((wrap64 (48 + a2)) % 256))).bind fun t132 => ((lockbox_Valid.f t132).bind fun t133 => (some (t133 == ((rd y110 a1) == ((wrap64 (48 + a2)) % 256)))))) else (none)) else (none))) = some r := H
                                                    have A55 := Aside0.mk A550
                                                    clear A550
                                                    by_cases c56 : (t129 != x13_45) = true
                                                    · rw [if_pos c56] at H
                                                      have c56b0 : (t129 != x13_45) = true := c56
                                                      (try (have c56b1 : decide (t129 = x13_45) = false := by simpa using c56))
                                                      (try (have c56b2 : (t129 == x13_45) = false := by simpa using c56))
                                                      (try (have c56b3 : ¬ (t129 = x13_45) := by simpa using c56))
                                                      clear c56
                                                      obtain rfl := Option.some.inj H
                                                      go_wp2_with (first | (go_at_call 13; (with_reducible refine (arrearslaw20_text.calls _ _ y123 t128 _ ?side1 ?side2 A54.out).mono ?_); (case side1 => repeat (first | exact (Kd.R_reads' HO_11.out).2.2 | (with_reducible refine Kd.C_alloc ?_ _) | (with_reducible refine Kd.C_drewN ?_ _) | (with_reducible refine Kd.C_drew ?_))); (case side2 => exact (Kd.R_reads' HO_11.out).2.1); rintro e w' ⟨rfl, ⟨nd, rfl⟩⟩; (try first | exact ⟨rfl, _, World.drewN_drewN _ _ _⟩ | exact ⟨rfl, _, Eq.trans (World.drewN_drewN _ _ _) (congrArg (World.drewN _) (Nat.add_assoc _ _ _))⟩)) | (go_at_call 11; (with_reducible refine (lockbox_Valid.calls t128 t129 _ A55.out).mono ?_); rintro e w' ⟨rfl, ⟨nd, rfl⟩⟩; (try first | exact ⟨rfl, _, World.drewN_drewN _ _ _⟩ | exact ⟨rfl, _, Eq.trans (World.drewN_drewN _ _ _) (congrArg (World.drewN _) (Nat.add_assoc _ _ _))⟩)))
                                                      repeat (go_quiet (first | (go_at_call 13; (with_reducible refine (arrearslaw20_text.calls _ _ y123 t128 _ ?side1 ?side2 A54.out).mono ?_); (case side1 => repeat (first | exact (Kd.R_reads' HO_11.out).2.2 | (with_reducible refine Kd.C_alloc ?_ _) | (with_reducible refine Kd.C_drewN ?_ _) | (with_reducible refine Kd.C_drew ?_))); (case side2 => exact (Kd.R_reads' HO_11.out).2.1); rintro e w' ⟨rfl, ⟨nd, rfl⟩⟩; (try first | exact ⟨rfl, _, World.drewN_drewN _ _ _⟩ | exact ⟨rfl, _, Eq.trans (World.drewN_drewN _ _ _) (congrArg (World.drewN _) (Nat.add_assoc _ _ _))⟩)) | (go_at_call 11; (with_reducible refine (lockbox_Valid.calls t128 t129 _ A55.out).mono ?_); rintro e w' ⟨rfl, ⟨nd, rfl⟩⟩; (try first | exact ⟨rfl, _, World.drewN_drewN _ _ _⟩ | exact ⟨rfl, _, Eq.trans (World.drewN_drewN _ _ _) (congrArg (World.drewN _) (Nat.add_assoc _ _ _))⟩))); try go_wp2_with (first | (go_at_call 13; (with_reducible refine (arrearslaw20_text.calls _ _ y123 t128 _ ?side1 ?side2 A54.out).mono ?_); (case side1 => repeat (first | exact (Kd.R_reads' HO_11.out).2.2 | (with_reducible refine Kd.C_alloc ?_ _) | (with_reducible refine Kd.C_drewN ?_ _) | (with_reducible refine Kd.C_drew ?_))); (case side2 => exact (Kd.R_reads' HO_11.out).2.1); rintro e w' ⟨rfl, ⟨nd, rfl⟩⟩; (try first | exact ⟨rfl, _, World.drewN_drewN _ _ _⟩ | exact ⟨rfl, _, Eq.trans (World.drewN_drewN _ _ _) (congrArg (World.drewN _) (Nat.add_assoc _ _ _))⟩)) | (go_at_call 11; (with_reducible refine (lockbox_Valid.calls t128 t129 _ A55.out).mono ?_); rintro e w' ⟨rfl, ⟨nd, rfl⟩⟩; (try first | exact ⟨rfl, _, World.drewN_drewN _ _ _⟩ | exact ⟨rfl, _, Eq.trans (World.drewN_drewN _ _ _) (congrArg (World.drewN _) (Nat.add_assoc _ _ _))⟩))))
                                                      go_ret
                                                      exact ⟨by first | rfl | (simp [errW_none, errW_some] <;> rfl) | (simp only [← hji37]; first | rfl | (simp [errW_none, errW_some] <;> rfl)) | (simp [*, errW_none, errW_some] <;> rfl), by repeat (first | (with_reducible first | exact HB.out | apply below_alloc | apply pw_below_drewN | apply below_drew1) | exact HB.out)⟩
                                                    · rw [if_neg c56] at H
                                                      have c56b0 : (t129 != x13_45) = false := by simpa using c56
                                                      (try (have c56b1 : decide (t129 = x13_45) = true := by simpa using c56))
                                                      (try (have c56b2 : (t129 == x13_45) = true := by simpa using c56))
                                                      clear c56
                                                      by_cases c57 : 0 ≤ a1
                                                      · rw [if_pos c57] at H
                                                        have c57b0 : decide (0 ≤ a1) = true := decide_eq_true c57
                                                        clear c57
                                                        by_cases c58 : a1 < (y110.length : Int)
                                                        · rw [if_pos c58] at H
                                                          have c58b0 : decide (a1 < (y110.length : Int)) = true := decide_eq_true c58
                                                          clear c58
                                                          obtain ⟨y131, hy131⟩ : ∃ y_ : List Int, y_ = (y110.set (a1 : Int).toNat ((wrap64 (48 + a2)) % 256)) := ⟨_, rfl⟩
                                                          replace H : ((arrearslaw20_text.f y131).bind fun t132 => ((lockbox_Valid.f t132).bind fun t133 => (some (t133 == ((rd y110 a1) == ((wrap64 (48 + a2)) % 256)))))) = some r := by first | (rw [hy131]; with_reducible exact H) | (have H2_ := (Option.bind_some _ _).symm.trans H; rw [hy131]; with_reducible exact H2_) | (have H2_ := (Option.bind_some _ _).symm.trans H; with_reducible exact H2_) | with_reducible exact H | (rw [hy131]; exact H) | exact H
                                                          have Ny131 := Aside0.mk hy131
                                                          clear hy131
                                                          replace H := Option.bind_eq_some_iff.mp H
                                                          obtain ⟨t132, A600, H⟩ := H
                                                          replace H : ((lockbox_Valid.f t132).bind fun t133 => (some (t133 == ((rd y110 a1) == ((wrap64 (48 + a2)) % 256))))) = some r := H
                                                          have A60 := Aside0.mk A600
                                                          clear A600
                                                          replace H := Option.bind_eq_some_iff.mp H
                                                          obtain ⟨t133, A610, H⟩ := H
                                                          replace H : (some (t133 == ((rd y110 a1) == ((wrap64 (48 + a2)) % 256)))) = some r := H
                                                          have A61 := Aside0.mk A610
                                                          clear A610
                                                          obtain rfl := Option.some.inj H
                                                          go_wp2_with (first | (go_at_call 13; (with_reducible refine (arrearslaw20_text.calls _ _ y123 t128 _ ?side1 ?side2 A54.out).mono ?_); (case side1 => repeat (first | exact (Kd.R_reads' HO_11.out).2.2 | (with_reducible refine Kd.C_alloc ?_ _) | (with_reducible refine Kd.C_drewN ?_ _) | (with_reducible refine Kd.C_drew ?_))); (case side2 => exact (Kd.R_reads' HO_11.out).2.1); rintro e w' ⟨rfl, ⟨nd, rfl⟩⟩; (try first | exact ⟨rfl, _, World.drewN_drewN _ _ _⟩ | exact ⟨rfl, _, Eq.trans (World.drewN_drewN _ _ _) (congrArg (World.drewN _) (Nat.add_assoc _ _ _))⟩)) | (go_at_call 11; (with_reducible refine (lockbox_Valid.calls t128 t129 _ A55.out).mono ?_); rintro e w' ⟨rfl, ⟨nd, rfl⟩⟩; (try first | exact ⟨rfl, _, World.drewN_drewN _ _ _⟩ | exact ⟨rfl, _, Eq.trans (World.drewN_drewN _ _ _) (congrArg (World.drewN _) (Nat.add_assoc _ _ _))⟩); have p130 : 0 ≤ (a1 : Int) := of_decide_eq_true (by first | (with_reducible assumption) | assumption); have q130 : a1 < (y110.length : Int) := of_decide_eq_true (by first | (with_reducible assumption) | assumption); obtain ⟨ad130, e130, hx130_0⟩ := Kd.at_int (Kd.R_reads' HO_9.out).2.2 a1 p130 q130; obtain rfl : ad120 = ad130 := (by injection e130); replace p130 := eq_true p130; replace q130 := eq_true q130; have p59 : 0 ≤ (a1 : Int) := of_decide_eq_true (by first | (with_reducible assumption) | assumption); have q59 : (a1 : Int) < ((y110.length : Int) : Int) := of_decide_eq_true (by first | (with_reducible assumption) | assumption); obtain ⟨go59, co59, eo59, gb59, gl59, cl59, HG59⟩ := Kd.R_form HO_9.out (by omega); (first | cases eo59 | (injection eo59 with ea_ en_ ec_; (first | subst ea_ | (injection ea_ with ea_; subst ea_)); subst ec_; clear en_)); have GB59 := Aside0.mk gb59; have GG59 := Aside0.mk HG59; clear gb59 gl59 HG59; (first | simp only [add_plain] at hx120_0 | skip); (first | simp only [add_plain] at hx122_0 | skip); (first | simp only [add_plain] at hx124_0 | skip); (first | simp only [add_plain] at hx125_0 | skip); (first | simp only [add_plain] at hx126_0 | skip); (first | simp only [add_plain] at hx127_0 | skip); (first | simp only [add_plain] at hx130_0 | skip); obtain ⟨hx59_0, hf59_0⟩ := Kd.R_celln 0 HO_9.out (a1 : Int) p59 q59; replace p59 := eq_true p59; replace q59 := eq_true q59; obtain ⟨hy62_, hz62_⟩ := Kd.R_celln 0 HO_9.out (a1 : Int) (of_decide_eq_true (by first | (with_reducible assumption) | assumption)) (of_decide_eq_true (by first | (with_reducible assumption) | assumption)); have HP62 := Kd.R_putg HO_9.out (a1 : Int) ((wrap64 (48 + a2)) % 256)) | ((with_reducible refine gate_store (t := 5) (p := 164) rfl ?_); (try (rw [drewN_self wc]; generalize hq_ : World.drewN wc _ = wc; have n0_ := Aside0.mk (Kd.R_at hq_ HO_9.out); have n1_ := Aside0.mk (Kd.R_at hq_ HO_11.out); have n2_ := Aside0.mk (below_at hq_ HB.out); clear hq_ HO_9 HO_11 HB; have HO_9 := n0_; have HO_11 := n1_; have HB := n2_; clear n0_ n1_ n2_; (try (obtain ⟨hy62_, hz62_⟩ := Kd.R_celln 0 HO_9.out (a1 : Int) (of_decide_eq_true (by first | (with_reducible assumption) | assumption)) (of_decide_eq_true (by first | (with_reducible assumption) | assumption)))); (try (have HP62 := Kd.R_putg HO_9.out (a1 : Int) ((wrap64 (48 + a2)) % 256))))); refine store_event (t := 5) (p := 164) (v := ?vo_w63) (w1 := (wc.setCell ⟨go59, (a1 : Int).toNat, none⟩ (.int .u8 ((wrap64 (48 + a2)) % 256)))) ?hg ?ho ?hn ?hr ?_; (case ho => rfl); (case hg => rfl); (case hn => rfl); (case hr => first | (go_simp; done) | (go_simp; rfl)); intro w63 hw; have hg : wc.grownBy w63 (some go59) := (by rw [hw]; exact HP62.2); have hp_ : Kd.R (Kd.int .u8) 5 w63 w.heap.size (fun k_ => some k_ ≠ (.slice (some ⟨go42, 0, none⟩) y123.length co42 : Value).ownBlock) (.slice (some ⟨go59, 0, none⟩) y110.length co24) y131 := (by rw [hw, Ny131.out]; exact HP62.1); clear HP62; have n0_ := Aside0.mk (hp_); have n1_ := Aside0.mk (Kd.R_after (v := (.slice (some ⟨go59, 0, none⟩) y110.length co24)) (v1 := (.slice (some ⟨go59, 0, none⟩) y110.length co24)) (ok := (fun _ => True)) (by (with_reducible repeat (first | apply Kd.R_alloc | apply Kd.R_drewN | apply Kd.R_drew)); exact Kd.R_mono HO_11.out (fun _ hk => ⟨trivial, hk⟩)) hg (.inl rfl)); have n2_ := Aside0.mk ((by rw [hw]; exact below_set (HB.out) GB59.out : Below w.heap.size w w63)); clear HO_9; clear HO_11; clear HB; have HO_9 := n0_; have HO_11 := n1_; have HB := n2_; clear n0_ n1_ n2_; clear hg hw hp_) | (go_at_call 13; refine calls_of_args (args' := #[.slice (some ⟨go59, 0, none⟩) y131.length co24]) (by first | (rw [show y131.length = y110.length from (Kd.R_reads' HO_9.out).1.symm] <;> rfl) | rfl) ?_; (with_reducible refine (arrearslaw20_text.calls _ _ y131 t132 _ ?side1 ?side2 A60.out).mono ?_); (case side1 => repeat (first | exact (Kd.R_reads' HO_9.out).2.2 | (with_reducible refine Kd.C_alloc ?_ _) | (with_reducible refine Kd.C_drewN ?_ _) | (with_reducible refine Kd.C_drew ?_))); (case side2 => rw [show y131.length = y110.length from (Kd.R_reads' HO_9.out).1.symm]; exact (Kd.R_reads' HO_9.out).2.1); rintro e w' ⟨rfl, ⟨nd, rfl⟩⟩; (try first | exact ⟨rfl, _, World.drewN_drewN _ _ _⟩ | exact ⟨rfl, _, Eq.trans (World.drewN_drewN _ _ _) (congrArg (World.drewN _) (Nat.add_assoc _ _ _))⟩)) | (go_at_call 11; (with_reducible refine (lockbox_Valid.calls t132 t133 _ A61.out).mono ?_); rintro e w' ⟨rfl, ⟨nd, rfl⟩⟩; (try first | exact ⟨rfl, _, World.drewN_drewN _ _ _⟩ | exact ⟨rfl, _, Eq.trans (World.drewN_drewN _ _ _) (congrArg (World.drewN _) (Nat.add_assoc _ _ _))⟩)))
                                                          repeat (go_quiet (first | (go_at_call 13; (with_reducible refine (arrearslaw20_text.calls _ _ y123 t128 _ ?side1 ?side2 A54.out).mono ?_); (case side1 => repeat (first | exact (Kd.R_reads' HO_11.out).2.2 | (with_reducible refine Kd.C_alloc ?_ _) | (with_reducible refine Kd.C_drewN ?_ _) | (with_reducible refine Kd.C_drew ?_))); (case side2 => exact (Kd.R_reads' HO_11.out).2.1); rintro e w' ⟨rfl, ⟨nd, rfl⟩⟩; (try first | exact ⟨rfl, _, World.drewN_drewN _ _ _⟩ | exact ⟨rfl, _, Eq.trans (World.drewN_drewN _ _ _) (congrArg (World.drewN _) (Nat.add_assoc _ _ _))⟩)) | (go_at_call 11; (with_reducible refine (lockbox_Valid.calls t128 t129 _ A55.out).mono ?_); rintro e w' ⟨rfl, ⟨nd, rfl⟩⟩; (try first | exact ⟨rfl, _, World.drewN_drewN _ _ _⟩ | exact ⟨rfl, _, Eq.trans (World.drewN_drewN _ _ _) (congrArg (World.drewN _) (Nat.add_assoc _ _ _))⟩); have p130 : 0 ≤ (a1 : Int) := of_decide_eq_true (by first | (with_reducible assumption) | assumption); have q130 : a1 < (y110.length : Int) := of_decide_eq_true (by first | (with_reducible assumption) | assumption); obtain ⟨ad130, e130, hx130_0⟩ := Kd.at_int (Kd.R_reads' HO_9.out).2.2 a1 p130 q130; obtain rfl : ad120 = ad130 := (by injection e130); replace p130 := eq_true p130; replace q130 := eq_true q130; have p59 : 0 ≤ (a1 : Int) := of_decide_eq_true (by first | (with_reducible assumption) | assumption); have q59 : (a1 : Int) < ((y110.length : Int) : Int) := of_decide_eq_true (by first | (with_reducible assumption) | assumption); obtain ⟨go59, co59, eo59, gb59, gl59, cl59, HG59⟩ := Kd.R_form HO_9.out (by omega); (first | cases eo59 | (injection eo59 with ea_ en_ ec_; (first | subst ea_ | (injection ea_ with ea_; subst ea_)); subst ec_; clear en_)); have GB59 := Aside0.mk gb59; have GG59 := Aside0.mk HG59; clear gb59 gl59 HG59; (first | simp only [add_plain] at hx120_0 | skip); (first | simp only [add_plain] at hx122_0 | skip); (first | simp only [add_plain] at hx124_0 | skip); (first | simp only [add_plain] at hx125_0 | skip); (first | simp only [add_plain] at hx126_0 | skip); (first | simp only [add_plain] at hx127_0 | skip); (first | simp only [add_plain] at hx130_0 | skip); obtain ⟨hx59_0, hf59_0⟩ := Kd.R_celln 0 HO_9.out (a1 : Int) p59 q59; replace p59 := eq_true p59; replace q59 := eq_true q59; obtain ⟨hy62_, hz62_⟩ := Kd.R_celln 0 HO_9.out (a1 : Int) (of_decide_eq_true (by first | (with_reducible assumption) | assumption)) (of_decide_eq_true (by first | (with_reducible assumption) | assumption)); have HP62 := Kd.R_putg HO_9.out (a1 : Int) ((wrap64 (48 + a2)) % 256)) | ((with_reducible refine gate_store (t := 5) (p := 164) rfl ?_); (try (rw [drewN_self wc]; generalize hq_ : World.drewN wc _ = wc; have n0_ := Aside0.mk (Kd.R_at hq_ HO_9.out); have n1_ := Aside0.mk (Kd.R_at hq_ HO_11.out); have n2_ := Aside0.mk (below_at hq_ HB.out); clear hq_ HO_9 HO_11 HB; have HO_9 := n0_; have HO_11 := n1_; have HB := n2_; clear n0_ n1_ n2_; (try (obtain ⟨hy62_, hz62_⟩ := Kd.R_celln 0 HO_9.out (a1 : Int) (of_decide_eq_true (by first | (with_reducible assumption) | assumption)) (of_decide_eq_true (by first | (with_reducible assumption) | assumption)))); (try (have HP62 := Kd.R_putg HO_9.out (a1 : Int) ((wrap64 (48 + a2)) % 256))))); refine store_event (t := 5) (p := 164) (v := ?vo_w63) (w1 := (wc.setCell ⟨go59, (a1 : Int).toNat, none⟩ (.int .u8 ((wrap64 (48 + a2)) % 256)))) ?hg ?ho ?hn ?hr ?_; (case ho => rfl); (case hg => rfl); (case hn => rfl); (case hr => first | (go_simp; done) | (go_simp; rfl)); intro w63 hw; have hg : wc.grownBy w63 (some go59) := (by rw [hw]; exact HP62.2); have hp_ : Kd.R (Kd.int .u8) 5 w63 w.heap.size (fun k_ => some k_ ≠ (.slice (some ⟨go42, 0, none⟩) y123.length co42 : Value).ownBlock) (.slice (some ⟨go59, 0, none⟩) y110.length co24) y131 := (by rw [hw, Ny131.out]; exact HP62.1); clear HP62; have n0_ := Aside0.mk (hp_); have n1_ := Aside0.mk (Kd.R_after (v := (.slice (some ⟨go59, 0, none⟩) y110.length co24)) (v1 := (.slice (some ⟨go59, 0, none⟩) y110.length co24)) (ok := (fun _ => True)) (by (with_reducible repeat (first | apply Kd.R_alloc | apply Kd.R_drewN | apply Kd.R_drew)); exact Kd.R_mono HO_11.out (fun _ hk => ⟨trivial, hk⟩)) hg (.inl rfl)); have n2_ := Aside0.mk ((by rw [hw]; exact below_set (HB.out) GB59.out : Below w.heap.size w w63)); clear HO_9; clear HO_11; clear HB; have HO_9 := n0_; have HO_11 := n1_; have HB := n2_; clear n0_ n1_ n2_; clear hg hw hp_) | (go_at_call 13; refine calls_of_args (args' := #[.slice (some ⟨go59, 0, none⟩) y131.length co24]) (by first | (rw [show y131.length = y110.length from (Kd.R_reads' HO_9.out).1.symm] <;> rfl) | rfl) ?_; (with_reducible refine (arrearslaw20_text.calls _ _ y131 t132 _ ?side1 ?side2 A60.out).mono ?_); (case side1 => repeat (first | exact (Kd.R_reads' HO_9.out).2.2 | (with_reducible refine Kd.C_alloc ?_ _) | (with_reducible refine Kd.C_drewN ?_ _) | (with_reducible refine Kd.C_drew ?_))); (case side2 => rw [show y131.length = y110.length from (Kd.R_reads' HO_9.out).1.symm]; exact (Kd.R_reads' HO_9.out).2.1); rintro e w' ⟨rfl, ⟨nd, rfl⟩⟩; (try first | exact ⟨rfl, _, World.drewN_drewN _ _ _⟩ | exact ⟨rfl, _, Eq.trans (World.drewN_drewN _ _ _) (congrArg (World.drewN _) (Nat.add_assoc _ _ _))⟩)) | (go_at_call 11; (with_reducible refine (lockbox_Valid.calls t132 t133 _ A61.out).mono ?_); rintro e w' ⟨rfl, ⟨nd, rfl⟩⟩; (try first | exact ⟨rfl, _, World.drewN_drewN _ _ _⟩ | exact ⟨rfl, _, Eq.trans (World.drewN_drewN _ _ _) (congrArg (World.drewN _) (Nat.add_assoc _ _ _))⟩))); try go_wp2_with (first | (go_at_call 13; (with_reducible refine (arrearslaw20_text.calls _ _ y123 t128 _ ?side1 ?side2 A54.out).mono ?_); (case side1 => repeat (first | exact (Kd.R_reads' HO_11.out).2.2 | (with_reducible refine Kd.C_alloc ?_ _) | (with_reducible refine Kd.C_drewN ?_ _) | (with_reducible refine Kd.C_drew ?_))); (case side2 => exact (Kd.R_reads' HO_11.out).2.1); rintro e w' ⟨rfl, ⟨nd, rfl⟩⟩; (try first | exact ⟨rfl, _, World.drewN_drewN _ _ _⟩ | exact ⟨rfl, _, Eq.trans (World.drewN_drewN _ _ _) (congrArg (World.drewN _) (Nat.add_assoc _ _ _))⟩)) | (go_at_call 11; (with_reducible refine (lockbox_Valid.calls t128 t129 _ A55.out).mono ?_); rintro e w' ⟨rfl, ⟨nd, rfl⟩⟩; (try first | exact ⟨rfl, _, World.drewN_drewN _ _ _⟩ | exact ⟨rfl, _, Eq.trans (World.drewN_drewN _ _ _) (congrArg (World.drewN _) (Nat.add_assoc _ _ _))⟩); have p130 : 0 ≤ (a1 : Int) := of_decide_eq_true (by first | (with_reducible assumption) | assumption); have q130 : a1 < (y110.length : Int) := of_decide_eq_true (by first | (with_reducible assumption) | assumption); obtain ⟨ad130, e130, hx130_0⟩ := Kd.at_int (Kd.R_reads' HO_9.out).2.2 a1 p130 q130; obtain rfl : ad120 = ad130 := (by injection e130); replace p130 := eq_true p130; replace q130 := eq_true q130; have p59 : 0 ≤ (a1 : Int) := of_decide_eq_true (by first | (with_reducible assumption) | assumption); have q59 : (a1 : Int) < ((y110.length : Int) : Int) := of_decide_eq_true (by first | (with_reducible assumption) | assumption); obtain ⟨go59, co59, eo59, gb59, gl59, cl59, HG59⟩ := Kd.R_form HO_9.out (by omega); (first | cases eo59 | (injection eo59 with ea_ en_ ec_; (first | subst ea_ | (injection ea_ with ea_; subst ea_)); subst ec_; clear en_)); have GB59 := Aside0.mk gb59; have GG59 := Aside0.mk HG59; clear gb59 gl59 HG59; (first | simp only [add_plain] at hx120_0 | skip); (first | simp only [add_plain] at hx122_0 | skip); (first | simp only [add_plain] at hx124_0 | skip); (first | simp only [add_plain] at hx125_0 | skip); (first | simp only [add_plain] at hx126_0 | skip); (first | simp only [add_plain] at hx127_0 | skip); (first | simp only [add_plain] at hx130_0 | skip); obtain ⟨hx59_0, hf59_0⟩ := Kd.R_celln 0 HO_9.out (a1 : Int) p59 q59; replace p59 := eq_true p59; replace q59 := eq_true q59; obtain ⟨hy62_, hz62_⟩ := Kd.R_celln 0 HO_9.out (a1 : Int) (of_decide_eq_true (by first | (with_reducible assumption) | assumption)) (of_decide_eq_true (by first | (with_reducible assumption) | assumption)); have HP62 := Kd.R_putg HO_9.out (a1 : Int) ((wrap64 (48 + a2)) % 256)) | ((with_reducible refine gate_store (t := 5) (p := 164) rfl ?_); (try (rw [drewN_self wc]; generalize hq_ : World.drewN wc _ = wc; have n0_ := Aside0.mk (Kd.R_at hq_ HO_9.out); have n1_ := Aside0.mk (Kd.R_at hq_ HO_11.out); have n2_ := Aside0.mk (below_at hq_ HB.out); clear hq_ HO_9 HO_11 HB; have HO_9 := n0_; have HO_11 := n1_; have HB := n2_; clear n0_ n1_ n2_; (try (obtain ⟨hy62_, hz62_⟩ := Kd.R_celln 0 HO_9.out (a1 : Int) (of_decide_eq_true (by first | (with_reducible assumption) | assumption)) (of_decide_eq_true (by first | (with_reducible assumption) | assumption)))); (try (have HP62 := Kd.R_putg HO_9.out (a1 : Int) ((wrap64 (48 + a2)) % 256))))); refine store_event (t := 5) (p := 164) (v := ?vo_w63) (w1 := (wc.setCell ⟨go59, (a1 : Int).toNat, none⟩ (.int .u8 ((wrap64 (48 + a2)) % 256)))) ?hg ?ho ?hn ?hr ?_; (case ho => rfl); (case hg => rfl); (case hn => rfl); (case hr => first | (go_simp; done) | (go_simp; rfl)); intro w63 hw; have hg : wc.grownBy w63 (some go59) := (by rw [hw]; exact HP62.2); have hp_ : Kd.R (Kd.int .u8) 5 w63 w.heap.size (fun k_ => some k_ ≠ (.slice (some ⟨go42, 0, none⟩) y123.length co42 : Value).ownBlock) (.slice (some ⟨go59, 0, none⟩) y110.length co24) y131 := (by rw [hw, Ny131.out]; exact HP62.1); clear HP62; have n0_ := Aside0.mk (hp_); have n1_ := Aside0.mk (Kd.R_after (v := (.slice (some ⟨go59, 0, none⟩) y110.length co24)) (v1 := (.slice (some ⟨go59, 0, none⟩) y110.length co24)) (ok := (fun _ => True)) (by (with_reducible repeat (first | apply Kd.R_alloc | apply Kd.R_drewN | apply Kd.R_drew)); exact Kd.R_mono HO_11.out (fun _ hk => ⟨trivial, hk⟩)) hg (.inl rfl)); have n2_ := Aside0.mk ((by rw [hw]; exact below_set (HB.out) GB59.out : Below w.heap.size w w63)); clear HO_9; clear HO_11; clear HB; have HO_9 := n0_; have HO_11 := n1_; have HB := n2_; clear n0_ n1_ n2_; clear hg hw hp_) | (go_at_call 13; refine calls_of_args (args' := #[.slice (some ⟨go59, 0, none⟩) y131.length co24]) (by first | (rw [show y131.length = y110.length from (Kd.R_reads' HO_9.out).1.symm] <;> rfl) | rfl) ?_; (with_reducible refine (arrearslaw20_text.calls _ _ y131 t132 _ ?side1 ?side2 A60.out).mono ?_); (case side1 => repeat (first | exact (Kd.R_reads' HO_9.out).2.2 | (with_reducible refine Kd.C_alloc ?_ _) | (with_reducible refine Kd.C_drewN ?_ _) | (with_reducible refine Kd.C_drew ?_))); (case side2 => rw [show y131.length = y110.length from (Kd.R_reads' HO_9.out).1.symm]; exact (Kd.R_reads' HO_9.out).2.1); rintro e w' ⟨rfl, ⟨nd, rfl⟩⟩; (try first | exact ⟨rfl, _, World.drewN_drewN _ _ _⟩ | exact ⟨rfl, _, Eq.trans (World.drewN_drewN _ _ _) (congrArg (World.drewN _) (Nat.add_assoc _ _ _))⟩)) | (go_at_call 11; (with_reducible refine (lockbox_Valid.calls t132 t133 _ A61.out).mono ?_); rintro e w' ⟨rfl, ⟨nd, rfl⟩⟩; (try first | exact ⟨rfl, _, World.drewN_drewN _ _ _⟩ | exact ⟨rfl, _, Eq.trans (World.drewN_drewN _ _ _) (congrArg (World.drewN _) (Nat.add_assoc _ _ _))⟩))))
                                                          go_ret
                                                          exact ⟨by first | rfl | (simp [errW_none, errW_some] <;> rfl) | (simp only [← hji37]; first | rfl | (simp [errW_none, errW_some] <;> rfl)) | (simp [*, errW_none, errW_some] <;> rfl), by repeat (first | (with_reducible first | exact HB.out | apply below_alloc | apply pw_below_drewN | apply below_drew1) | exact HB.out)⟩
                                                        · rw [if_neg c58] at H
                                                          exact absurd H (by simp)
                                                      · rw [if_neg c57] at H
                                                        exact absurd H (by simp)
                                              · rw [if_neg c44] at H
                                                exact absurd H (by simp)
                                            · rw [if_neg c43] at H
                                              exact absurd H (by simp)
                                          · rw [if_neg c41] at H
                                            exact absurd H (by simp)
                                        · rw [if_neg c40] at H
                                          exact absurd H (by simp)
                                      · rw [if_neg c39] at H
                                        exact absurd H (by simp)
                                    · rw [if_neg c38] at H
                                      exact absurd H (by simp)
                                  · replace c35 := Bool.eq_false_iff.mpr c35
                                    subst c35
                                    have H1 : (if 0 ≤ a1 then (if a1 < (y110.length : Int) then ((arrearslaw20_text.f (y110.set (a1 : Int).toNat ((wrap64 (48 + a2)) % 256))).bind fun t136 => ((lockbox_Valid.f t136).bind fun t137 => (some (t137 == ((rd y110 a1) == ((wrap64 (48 + a2)) % 256)))))) else (none)) else (none)) = some r := by rw [if_neg (show ¬ (false = true) by decide)] at H; exact H
                                    clear H
                                    have H := H1
                                    clear H1
                                    by_cases c64 : 0 ≤ a1
                                    · rw [if_pos c64] at H
                                      have c64b0 : decide (0 ≤ a1) = true := decide_eq_true c64
                                      clear c64
                                      by_cases c65 : a1 < (y110.length : Int)
                                      · rw [if_pos c65] at H
                                        have c65b0 : decide (a1 < (y110.length : Int)) = true := decide_eq_true c65
                                        clear c65
                                        obtain ⟨y135, hy135⟩ : ∃ y_ : List Int, y_ = (y110.set (a1 : Int).toNat ((wrap64 (48 + a2)) % 256)) := ⟨_, rfl⟩
                                        replace H : ((arrearslaw20_text.f y135).bind fun t136 => ((lockbox_Valid.f t136).bind fun t137 => (some (t137 == ((rd y110 a1) == ((wrap64 (48 + a2)) % 256)))))) = some r := by first | (rw [hy135]; with_reducible exact H) | (have H2_ := (Option.bind_some _ _).symm.trans H; rw [hy135]; with_reducible exact H2_) | (have H2_ := (Option.bind_some _ _).symm.trans H; with_reducible exact H2_) | with_reducible exact H | (rw [hy135]; exact H) | exact H
                                        have Ny135 := Aside0.mk hy135
                                        clear hy135
                                        replace H := Option.bind_eq_some_iff.mp H
                                        obtain ⟨t136, A670, H⟩ := H
                                        replace H : ((lockbox_Valid.f t136).bind fun t137 => (some (t137 == ((rd y110 a1) == ((wrap64 (48 + a2)) % 256))))) = some r := H
                                        have A67 := Aside0.mk A670
                                        clear A670
                                        replace H := Option.bind_eq_some_iff.mp H
                                        obtain ⟨t137, A680, H⟩ := H
                                        replace H : (some (t137 == ((rd y110 a1) == ((wrap64 (48 + a2)) % 256)))) = some r := H
                                        have A68 := Aside0.mk A680
                                        clear A680
                                        obtain rfl := Option.some.inj H
                                        have p134 : 0 ≤ (a1 : Int) := of_decide_eq_true (by first | (with_reducible assumption) | assumption)
                                        have q134 : a1 < (y110.length : Int) := of_decide_eq_true (by first | (with_reducible assumption) | assumption)
                                        obtain ⟨ad134, e134, hx134_0⟩ := Kd.at_int (Kd.R_reads' HO_9.out).2.2 a1 p134 q134
                                        cases e134
                                        replace p134 := eq_true p134
                                        replace q134 := eq_true q134
                                        have p66 : 0 ≤ (a1 : Int) := of_decide_eq_true (by first | (with_reducible assumption) | assumption)
                                        have q66 : (a1 : Int) < ((y110.length : Int) : Int) := of_decide_eq_true (by first | (with_reducible assumption) | assumption)
                                        obtain ⟨go66, co66, eo66, gb66, gl66, cl66, HG66⟩ := Kd.R_form HO_9.out (by omega)
                                        (first | cases eo66 | (injection eo66 with ea_ en_ ec_; (first | subst ea_ | (injection ea_ with ea_; subst ea_)); subst ec_; clear en_))
                                        have GB66 := Aside0.mk gb66
                                        have GG66 := Aside0.mk HG66
                                        clear gb66 gl66 HG66
                                        (first | simp only [add_plain] at hx134_0 | skip)
                                        obtain ⟨hx66_0, hf66_0⟩ := Kd.R_celln 0 HO_9.out (a1 : Int) p66 q66
                                        replace p66 := eq_true p66
                                        replace q66 := eq_true q66
                                        have HP69 := Kd.R_putg HO_9.out (a1 : Int) ((wrap64 (48 + a2)) % 256)
                                        go_wp2_with (first | ((with_reducible refine gate_store (t := 5) (p := 164) rfl ?_); (try (rw [drewN_self wc]; generalize hq_ : World.drewN wc _ = wc; have n0_ := Aside0.mk (Kd.R_at hq_ HO_9.out); have n1_ := Aside0.mk (below_at hq_ HB.out); clear hq_ HO_9 HB; have HO_9 := n0_; have HB := n1_; clear n0_ n1_; (try (have HP69 := Kd.R_putg HO_9.out (a1 : Int) ((wrap64 (48 + a2)) % 256))))); refine store_event (t := 5) (p := 164) (v := ?vo_w70) (w1 := (wc.setCell ⟨go66, (a1 : Int).toNat, none⟩ (.int .u8 ((wrap64 (48 + a2)) % 256)))) ?hg ?ho ?hn ?hr ?_; (case ho => rfl); (case hg => rfl); (case hn => rfl); (case hr => first | (go_simp; done) | (go_simp; rfl)); intro w70 hw; have hg : wc.grownBy w70 (some go66) := (by rw [hw]; exact HP69.2); have hp_ : Kd.R (Kd.int .u8) 5 w70 w.heap.size (fun _ => True) (.slice (some ⟨go66, 0, none⟩) y110.length co24) y135 := (by rw [hw, Ny135.out]; exact HP69.1); clear HP69; have n0_ := Aside0.mk (hp_); have n1_ := Aside0.mk ((by rw [hw]; exact below_set (HB.out) GB66.out : Below w.heap.size w w70)); clear HO_9; clear HB; have HO_9 := n0_; have HB := n1_; clear n0_ n1_; clear hg hw hp_) | (go_at_call 13; refine calls_of_args (args' := #[.slice (some ⟨go66, 0, none⟩) y135.length co24]) (by first | (rw [show y135.length = y110.length from (Kd.R_reads' HO_9.out).1.symm] <;> rfl) | rfl) ?_; (with_reducible refine (arrearslaw20_text.calls _ _ y135 t136 _ ?side1 ?side2 A67.out).mono ?_); (case side1 => repeat (first | exact (Kd.R_reads' HO_9.out).2.2 | (with_reducible refine Kd.C_alloc ?_ _) | (with_reducible refine Kd.C_drewN ?_ _) | (with_reducible refine Kd.C_drew ?_))); (case side2 => rw [show y135.length = y110.length from (Kd.R_reads' HO_9.out).1.symm]; exact (Kd.R_reads' HO_9.out).2.1); rintro e w' ⟨rfl, ⟨nd, rfl⟩⟩; (try first | exact ⟨rfl, _, World.drewN_drewN _ _ _⟩ | exact ⟨rfl, _, Eq.trans (World.drewN_drewN _ _ _) (congrArg (World.drewN _) (Nat.add_assoc _ _ _))⟩)) | (go_at_call 11; (with_reducible refine (lockbox_Valid.calls t136 t137 _ A68.out).mono ?_); rintro e w' ⟨rfl, ⟨nd, rfl⟩⟩; (try first | exact ⟨rfl, _, World.drewN_drewN _ _ _⟩ | exact ⟨rfl, _, Eq.trans (World.drewN_drewN _ _ _) (congrArg (World.drewN _) (Nat.add_assoc _ _ _))⟩)))
                                        repeat (go_quiet (first | ((with_reducible refine gate_store (t := 5) (p := 164) rfl ?_); (try (rw [drewN_self wc]; generalize hq_ : World.drewN wc _ = wc; have n0_ := Aside0.mk (Kd.R_at hq_ HO_9.out); have n1_ := Aside0.mk (below_at hq_ HB.out); clear hq_ HO_9 HB; have HO_9 := n0_; have HB := n1_; clear n0_ n1_; (try (have HP69 := Kd.R_putg HO_9.out (a1 : Int) ((wrap64 (48 + a2)) % 256))))); refine store_event (t := 5) (p := 164) (v := ?vo_w70) (w1 := (wc.setCell ⟨go66, (a1 : Int).toNat, none⟩ (.int .u8 ((wrap64 (48 + a2)) % 256)))) ?hg ?ho ?hn ?hr ?_; (case ho => rfl); (case hg => rfl); (case hn => rfl); (case hr => first | (go_simp; done) | (go_simp; rfl)); intro w70 hw; have hg : wc.grownBy w70 (some go66) := (by rw [hw]; exact HP69.2); have hp_ : Kd.R (Kd.int .u8) 5 w70 w.heap.size (fun _ => True) (.slice (some ⟨go66, 0, none⟩) y110.length co24) y135 := (by rw [hw, Ny135.out]; exact HP69.1); clear HP69; have n0_ := Aside0.mk (hp_); have n1_ := Aside0.mk ((by rw [hw]; exact below_set (HB.out) GB66.out : Below w.heap.size w w70)); clear HO_9; clear HB; have HO_9 := n0_; have HB := n1_; clear n0_ n1_; clear hg hw hp_) | (go_at_call 13; refine calls_of_args (args' := #[.slice (some ⟨go66, 0, none⟩) y135.length co24]) (by first | (rw [show y135.length = y110.length from (Kd.R_reads' HO_9.out).1.symm] <;> rfl) | rfl) ?_; (with_reducible refine (arrearslaw20_text.calls _ _ y135 t136 _ ?side1 ?side2 A67.out).mono ?_); (case side1 => repeat (first | exact (Kd.R_reads' HO_9.out).2.2 | (with_reducible refine Kd.C_alloc ?_ _) | (with_reducible refine Kd.C_drewN ?_ _) | (with_reducible refine Kd.C_drew ?_))); (case side2 => rw [show y135.length = y110.length from (Kd.R_reads' HO_9.out).1.symm]; exact (Kd.R_reads' HO_9.out).2.1); rintro e w' ⟨rfl, ⟨nd, rfl⟩⟩; (try first | exact ⟨rfl, _, World.drewN_drewN _ _ _⟩ | exact ⟨rfl, _, Eq.trans (World.drewN_drewN _ _ _) (congrArg (World.drewN _) (Nat.add_assoc _ _ _))⟩)) | (go_at_call 11; (with_reducible refine (lockbox_Valid.calls t136 t137 _ A68.out).mono ?_); rintro e w' ⟨rfl, ⟨nd, rfl⟩⟩; (try first | exact ⟨rfl, _, World.drewN_drewN _ _ _⟩ | exact ⟨rfl, _, Eq.trans (World.drewN_drewN _ _ _) (congrArg (World.drewN _) (Nat.add_assoc _ _ _))⟩))); try go_wp2_with (first | ((with_reducible refine gate_store (t := 5) (p := 164) rfl ?_); (try (rw [drewN_self wc]; generalize hq_ : World.drewN wc _ = wc; have n0_ := Aside0.mk (Kd.R_at hq_ HO_9.out); have n1_ := Aside0.mk (below_at hq_ HB.out); clear hq_ HO_9 HB; have HO_9 := n0_; have HB := n1_; clear n0_ n1_; (try (have HP69 := Kd.R_putg HO_9.out (a1 : Int) ((wrap64 (48 + a2)) % 256))))); refine store_event (t := 5) (p := 164) (v := ?vo_w70) (w1 := (wc.setCell ⟨go66, (a1 : Int).toNat, none⟩ (.int .u8 ((wrap64 (48 + a2)) % 256)))) ?hg ?ho ?hn ?hr ?_; (case ho => rfl); (case hg => rfl); (case hn => rfl); (case hr => first | (go_simp; done) | (go_simp; rfl)); intro w70 hw; have hg : wc.grownBy w70 (some go66) := (by rw [hw]; exact HP69.2); have hp_ : Kd.R (Kd.int .u8) 5 w70 w.heap.size (fun _ => True) (.slice (some ⟨go66, 0, none⟩) y110.length co24) y135 := (by rw [hw, Ny135.out]; exact HP69.1); clear HP69; have n0_ := Aside0.mk (hp_); have n1_ := Aside0.mk ((by rw [hw]; exact below_set (HB.out) GB66.out : Below w.heap.size w w70)); clear HO_9; clear HB; have HO_9 := n0_; have HB := n1_; clear n0_ n1_; clear hg hw hp_) | (go_at_call 13; refine calls_of_args (args' := #[.slice (some ⟨go66, 0, none⟩) y135.length co24]) (by first | (rw [show y135.length = y110.length from (Kd.R_reads' HO_9.out).1.symm] <;> rfl) | rfl) ?_; (with_reducible refine (arrearslaw20_text.calls _ _ y135 t136 _ ?side1 ?side2 A67.out).mono ?_); (case side1 => repeat (first | exact (Kd.R_reads' HO_9.out).2.2 | (with_reducible refine Kd.C_alloc ?_ _) | (with_reducible refine Kd.C_drewN ?_ _) | (with_reducible refine Kd.C_drew ?_))); (case side2 => rw [show y135.length = y110.length from (Kd.R_reads' HO_9.out).1.symm]; exact (Kd.R_reads' HO_9.out).2.1); rintro e w' ⟨rfl, ⟨nd, rfl⟩⟩; (try first | exact ⟨rfl, _, World.drewN_drewN _ _ _⟩ | exact ⟨rfl, _, Eq.trans (World.drewN_drewN _ _ _) (congrArg (World.drewN _) (Nat.add_assoc _ _ _))⟩)) | (go_at_call 11; (with_reducible refine (lockbox_Valid.calls t136 t137 _ A68.out).mono ?_); rintro e w' ⟨rfl, ⟨nd, rfl⟩⟩; (try first | exact ⟨rfl, _, World.drewN_drewN _ _ _⟩ | exact ⟨rfl, _, Eq.trans (World.drewN_drewN _ _ _) (congrArg (World.drewN _) (Nat.add_assoc _ _ _))⟩))))
                                        go_ret
                                        exact ⟨by first | rfl | (simp [errW_none, errW_some] <;> rfl) | (simp [*, errW_none, errW_some] <;> rfl), by repeat (first | (with_reducible first | exact HB.out | apply below_alloc | apply pw_below_drewN | apply below_drew1) | exact HB.out)⟩
                                      · rw [if_neg c65] at H
                                        exact absurd H (by simp)
                                    · rw [if_neg c64] at H
                                      exact absurd H (by simp)
                      · replace c21 := Bool.eq_false_iff.mpr c21
                        subst c21
                        have H1 : (some false) = some r := by rw [if_neg (show ¬ (false = true) by decide)] at H; exact H
                        clear H
                        have H := H1
                        clear H1
                        obtain rfl := Option.some.inj H
                        go_wp2_with (first | ((with_reducible refine gate_builtin (b := .append) (xs := #[.tmp 55, .tmp 59]) rfl ?_); (try (refine gate_guard (by rfl) ?_; dsimp only)); at_builtin; refine Kd.R_append (Kd.int .u8) (w0 := w) w.heap.size rfl (.tmp 55) (.tmp 59) 26 5 (.int .u8 0) 1 rfl Tryd.underlying26 info5 rfl (by decide) (by omega) u9 x9_3 ((wrap64 (48 + t105)) % 256) [.int .u8 ((wrap64 (48 + t105)) % 256)] (fun _ => True) (fun _ => False) rfl rfl ?aP (fun _ hk => hk.elim) ?aF ?aO ?aB ?aS ?aL ?_; (case aP => exact rfl); (case aB => exact (by repeat (first | (with_reducible first | exact HB.out | apply below_alloc | apply pw_below_drewN | apply below_drew1) | exact HB.out))); (case aF => exact (fun _ _ => trivial)); (case aO => exact (by (with_reducible repeat (first | apply Kd.R_alloc | apply Kd.R_drewN | apply Kd.R_drew)); exact HO_9.out)); (case aS => exact (below_size (by repeat (first | (with_reducible first | exact HB.out | apply below_alloc | apply pw_below_drewN | apply below_drew1) | exact HB.out)))); (case aL => have := LMc18.out; omega); intro v111 w71 ho hb hg hat; rw [← Ny110.out] at ho; have n0_ := Aside0.mk (hb); have n1_ := Aside0.mk (ho); clear HB; clear HO_9; have HB := n0_; have HO112 := n1_; clear n0_ n1_; clear ho hb hg hat; obtain ⟨Ao72, co72, eo72⟩ := Kd.R_slice HO112.out; subst eo72) | (go_at_call 13; (with_reducible refine (arrearslaw20_text.calls _ _ y110 t113 _ ?side1 ?side2 A19.out).mono ?_); (case side1 => repeat (first | exact (Kd.R_reads' HO112.out).2.2 | (with_reducible refine Kd.C_alloc ?_ _) | (with_reducible refine Kd.C_drewN ?_ _) | (with_reducible refine Kd.C_drew ?_))); (case side2 => exact (Kd.R_reads' HO112.out).2.1); rintro e w' ⟨rfl, ⟨nd, rfl⟩⟩; (try first | exact ⟨rfl, _, World.drewN_drewN _ _ _⟩ | exact ⟨rfl, _, Eq.trans (World.drewN_drewN _ _ _) (congrArg (World.drewN _) (Nat.add_assoc _ _ _))⟩)) | (go_at_call 11; (with_reducible refine (lockbox_Valid.calls t113 false _ A20.out).mono ?_); rintro e w' ⟨rfl, ⟨nd, rfl⟩⟩; (try first | exact ⟨rfl, _, World.drewN_drewN _ _ _⟩ | exact ⟨rfl, _, Eq.trans (World.drewN_drewN _ _ _) (congrArg (World.drewN _) (Nat.add_assoc _ _ _))⟩)))
                        repeat (go_quiet (first | ((with_reducible refine gate_builtin (b := .append) (xs := #[.tmp 55, .tmp 59]) rfl ?_); (try (refine gate_guard (by rfl) ?_; dsimp only)); at_builtin; refine Kd.R_append (Kd.int .u8) (w0 := w) w.heap.size rfl (.tmp 55) (.tmp 59) 26 5 (.int .u8 0) 1 rfl Tryd.underlying26 info5 rfl (by decide) (by omega) u9 x9_3 ((wrap64 (48 + t105)) % 256) [.int .u8 ((wrap64 (48 + t105)) % 256)] (fun _ => True) (fun _ => False) rfl rfl ?aP (fun _ hk => hk.elim) ?aF ?aO ?aB ?aS ?aL ?_; (case aP => exact rfl); (case aB => exact (by repeat (first | (with_reducible first | exact HB.out | apply below_alloc | apply pw_below_drewN | apply below_drew1) | exact HB.out))); (case aF => exact (fun _ _ => trivial)); (case aO => exact (by (with_reducible repeat (first | apply Kd.R_alloc | apply Kd.R_drewN | apply Kd.R_drew)); exact HO_9.out)); (case aS => exact (below_size (by repeat (first | (with_reducible first | exact HB.out | apply below_alloc | apply pw_below_drewN | apply below_drew1) | exact HB.out)))); (case aL => have := LMc18.out; omega); intro v111 w71 ho hb hg hat; rw [← Ny110.out] at ho; have n0_ := Aside0.mk (hb); have n1_ := Aside0.mk (ho); clear HB; clear HO_9; have HB := n0_; have HO112 := n1_; clear n0_ n1_; clear ho hb hg hat; obtain ⟨Ao72, co72, eo72⟩ := Kd.R_slice HO112.out; subst eo72) | (go_at_call 13; (with_reducible refine (arrearslaw20_text.calls _ _ y110 t113 _ ?side1 ?side2 A19.out).mono ?_); (case side1 => repeat (first | exact (Kd.R_reads' HO112.out).2.2 | (with_reducible refine Kd.C_alloc ?_ _) | (with_reducible refine Kd.C_drewN ?_ _) | (with_reducible refine Kd.C_drew ?_))); (case side2 => exact (Kd.R_reads' HO112.out).2.1); rintro e w' ⟨rfl, ⟨nd, rfl⟩⟩; (try first | exact ⟨rfl, _, World.drewN_drewN _ _ _⟩ | exact ⟨rfl, _, Eq.trans (World.drewN_drewN _ _ _) (congrArg (World.drewN _) (Nat.add_assoc _ _ _))⟩)) | (go_at_call 11; (with_reducible refine (lockbox_Valid.calls t113 false _ A20.out).mono ?_); rintro e w' ⟨rfl, ⟨nd, rfl⟩⟩; (try first | exact ⟨rfl, _, World.drewN_drewN _ _ _⟩ | exact ⟨rfl, _, Eq.trans (World.drewN_drewN _ _ _) (congrArg (World.drewN _) (Nat.add_assoc _ _ _))⟩))); try go_wp2_with (first | ((with_reducible refine gate_builtin (b := .append) (xs := #[.tmp 55, .tmp 59]) rfl ?_); (try (refine gate_guard (by rfl) ?_; dsimp only)); at_builtin; refine Kd.R_append (Kd.int .u8) (w0 := w) w.heap.size rfl (.tmp 55) (.tmp 59) 26 5 (.int .u8 0) 1 rfl Tryd.underlying26 info5 rfl (by decide) (by omega) u9 x9_3 ((wrap64 (48 + t105)) % 256) [.int .u8 ((wrap64 (48 + t105)) % 256)] (fun _ => True) (fun _ => False) rfl rfl ?aP (fun _ hk => hk.elim) ?aF ?aO ?aB ?aS ?aL ?_; (case aP => exact rfl); (case aB => exact (by repeat (first | (with_reducible first | exact HB.out | apply below_alloc | apply pw_below_drewN | apply below_drew1) | exact HB.out))); (case aF => exact (fun _ _ => trivial)); (case aO => exact (by (with_reducible repeat (first | apply Kd.R_alloc | apply Kd.R_drewN | apply Kd.R_drew)); exact HO_9.out)); (case aS => exact (below_size (by repeat (first | (with_reducible first | exact HB.out | apply below_alloc | apply pw_below_drewN | apply below_drew1) | exact HB.out)))); (case aL => have := LMc18.out; omega); intro v111 w71 ho hb hg hat; rw [← Ny110.out] at ho; have n0_ := Aside0.mk (hb); have n1_ := Aside0.mk (ho); clear HB; clear HO_9; have HB := n0_; have HO112 := n1_; clear n0_ n1_; clear ho hb hg hat; obtain ⟨Ao72, co72, eo72⟩ := Kd.R_slice HO112.out; subst eo72) | (go_at_call 13; (with_reducible refine (arrearslaw20_text.calls _ _ y110 t113 _ ?side1 ?side2 A19.out).mono ?_); (case side1 => repeat (first | exact (Kd.R_reads' HO112.out).2.2 | (with_reducible refine Kd.C_alloc ?_ _) | (with_reducible refine Kd.C_drewN ?_ _) | (with_reducible refine Kd.C_drew ?_))); (case side2 => exact (Kd.R_reads' HO112.out).2.1); rintro e w' ⟨rfl, ⟨nd, rfl⟩⟩; (try first | exact ⟨rfl, _, World.drewN_drewN _ _ _⟩ | exact ⟨rfl, _, Eq.trans (World.drewN_drewN _ _ _) (congrArg (World.drewN _) (Nat.add_assoc _ _ _))⟩)) | (go_at_call 11; (with_reducible refine (lockbox_Valid.calls t113 false _ A20.out).mono ?_); rintro e w' ⟨rfl, ⟨nd, rfl⟩⟩; (try first | exact ⟨rfl, _, World.drewN_drewN _ _ _⟩ | exact ⟨rfl, _, Eq.trans (World.drewN_drewN _ _ _) (congrArg (World.drewN _) (Nat.add_assoc _ _ _))⟩))))
                        go_ret
                        exact ⟨by first | rfl | (simp [errW_none, errW_some] <;> rfl) | (simp [*, errW_none, errW_some] <;> rfl), by repeat (first | (with_reducible first | exact HB.out | apply below_alloc | apply pw_below_drewN | apply below_drew1) | exact HB.out)⟩
                    · rw [if_neg c18] at H
                      exact absurd H (by simp)

end Go.Proofs.YtkjdmbbaacjpmaaDoor.L
