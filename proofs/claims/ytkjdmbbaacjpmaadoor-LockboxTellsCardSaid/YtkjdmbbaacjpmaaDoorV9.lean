-- Texts of this claim, joined and cut down to what it uses (a program of this session).
import Derived.Test.YtkjdmbbaacjpmaaDoorV8
section
namespace Go.Proofs.YtkjdmbbaacjpmaaDoor.T
open Go.RowKit Go.Proofs.YtkjdmbbaacjpmaaDoorW.PrintWords Go.Proofs.YtkjdmbbaacjpmaaDoorW.PrintLast Go.Proofs.YtkjdmbbaacjpmaaDoorW.PrintMore
attribute [local go_sem] max2_int min2_int max_two min_two max_three min_three max_four min_four
set_option linter.unusedVariables false
set_option linter.unusedSimpArgs false
mutual
def arrearslaw20_LockboxTells.j0 : Nat → List Int → List Int → Bool → Int → Int → List (S50) → Int → Int → List (S50) → Option (Bool)
  | 0, _, _, _, _, _, _, _, _, _ => none
  | k + 1, x4, x6, x46, x293000, x293001, x293002, x299000, x299001, x299002 => if x46 = true then (some false) else ((lockbox_Format.f k x299000 x299001 x299002).bind fun bt309 => (arrearslaw20_LockboxTells.l0 k x4 x6 bt309.1 0 x293000 x293001 x293002 x299000 x299001 x299002))
def arrearslaw20_LockboxTells.l0 : Nat → List Int → List Int → List Int → Int → Int → Int → List (S50) → Int → Int → List (S50) → Option (Bool)
  | 0, _, _, _, _, _, _, _, _, _, _ => none
  | k + 1, x4, x6, x8, x10, x293000, x293001, x293002, x299000, x299001, x299002 => if x10 < (x4.length : Int) then (if 0 ≤ x10 then (arrearslaw20_LockboxTells.l0 k (x4.set (x10 : Int).toNat 211) x6 x8 (wrap64 (x10 + 1)) x293000 x293001 x293002 x299000 x299001 x299002) else (none)) else (if x4.length + 64 < 140737488355328 then ((some (x4 ++ List.replicate 64 0 : List Int)).bind fun y314 => ((lockbox_Ops.f k x299000 x299001 x299002).bind fun t317 => ((lockbox_Ops.f k x299000 x299001 x299002).bind fun t320 => ((arrearsref20_Ops.f k x293000 x293001 x293002).bind fun t323 => ((arrearslaw20_sameOps.f k t317 t323).bind fun t326 => (if t326 = true then ((arrearslaw20_sameBatch.f k x299000 x299001 x299002 x293000 x293001 x293002).bind fun t327 => (arrearslaw20_LockboxTells.j2 k x6 x8 y314 t317 t320 (!t327) x293000 x293001 x293002 x299000 x299001 x299002)) else (arrearslaw20_LockboxTells.j2 k x6 x8 y314 t317 t320 true x293000 x293001 x293002 x299000 x299001 x299002))))))) else (none))
def arrearslaw20_LockboxTells.j2 : Nat → List Int → List Int → List Int → List (S42) → List (S42) → Bool → Int → Int → List (S50) → Int → Int → List (S50) → Option (Bool)
  | 0, _, _, _, _, _, _, _, _, _, _, _, _ => none
  | k + 1, x6, x8, x11, x12, x13, x77, x293000, x293001, x293002, x299000, x299001, x299002 => if x77 = true then (some false) else (arrearslaw20_LockboxTells.l1 k x6 x8 x11 x12 x13 0 x293000 x293001 x293002 x299000 x299001 x299002)
def arrearslaw20_LockboxTells.l1 : Nat → List Int → List Int → List Int → List (S42) → List (S42) → Int → Int → Int → List (S50) → Int → Int → List (S50) → Option (Bool)
  | 0, _, _, _, _, _, _, _, _, _, _, _, _ => none
  | k + 1, x6, x8, x11, x12, x13, x14, x293000, x293001, x293002, x299000, x299001, x299002 => if x14 < (x12.length : Int) then (if 0 ≤ x14 then (arrearslaw20_LockboxTells.l1 k x6 x8 x11 (x12.set (x14 : Int).toNat (⟨(-7), 0, 0, 0, 0, 0, (⟨#[]⟩ : ByteArray)⟩ : S42)) x13 (wrap64 (x14 + 1)) x293000 x293001 x293002 x299000 x299001 x299002) else (none)) else (if x12.length + 64 < 2199023255552 then (if (x11.length : Int) = (wrap64 ((x6.length : Int) + 64)) then (arrearslaw20_LockboxTells.j4 k x6 x8 x13 (((x12 ++ List.replicate 64 z42).length : Int) != (wrap64 ((x13.length : Int) + 64))) x293000 x293001 x293002 x299000 x299001 x299002) else (arrearslaw20_LockboxTells.j4 k x6 x8 x13 true x293000 x293001 x293002 x299000 x299001 x299002)) else (none))
def arrearslaw20_LockboxTells.j4 : Nat → List Int → List Int → List (S42) → Bool → Int → Int → List (S50) → Int → Int → List (S50) → Option (Bool)
  | 0, _, _, _, _, _, _, _, _, _, _ => none
  | k + 1, x6, x8, x13, x103, x293000, x293001, x293002, x299000, x299001, x299002 => if x103 = true then (some false) else ((arrearslaw19_SameBytes.f x8 x6).bind fun t332 => (if t332 = true then ((arrearsref20_Ops.f k x293000 x293001 x293002).bind fun t333 => ((arrearslaw20_sameOps.f k x13 t333).bind fun t336 => (if t336 = true then ((arrearslaw20_anew.f k x299000 x299001 x299002).bind fun bt337 => (some bt337.1)) else (some false)))) else (some false)))
end
def arrearslaw20_LockboxTells.f (k : Nat) (a0_0 : Int) (a0_1 : Int) (l0_2 : List (S50)) : Option (Bool) := if (l0_2.length : Int) > 10010 then (some true) else ((arrearslaw20_own.f a0_0 a0_1 l0_2).bind fun bt293 => ((lockbox_Format.f k bt293.1 bt293.2.1 bt293.2.2).bind fun bt299 => ((arrearsref20_Format.f k a0_0 a0_1 l0_2).bind fun bt303 => (if (bt299.2 != bt303.2) = true then (arrearslaw20_LockboxTells.j0 k bt299.1 bt303.1 true a0_0 a0_1 l0_2 bt293.1 bt293.2.1 bt293.2.2) else ((arrearslaw19_SameBytes.f bt299.1 bt303.1).bind fun t307 => (if t307 = true then ((arrearslaw20_sameBatch.f k bt293.1 bt293.2.1 bt293.2.2 a0_0 a0_1 l0_2).bind fun t308 => (arrearslaw20_LockboxTells.j0 k bt299.1 bt303.1 (!t308) a0_0 a0_1 l0_2 bt293.1 bt293.2.1 bt293.2.2)) else (arrearslaw20_LockboxTells.j0 k bt299.1 bt303.1 true a0_0 a0_1 l0_2 bt293.1 bt293.2.1 bt293.2.2)))))))
theorem arrearslaw20_LockboxTells.mono_l : ∀ k, (∀ y0 y1 y2 y3 y4 y5 y6 y7 y8, LeO (arrearslaw20_LockboxTells.j0 k y0 y1 y2 y3 y4 y5 y6 y7 y8) (arrearslaw20_LockboxTells.j0 (k + 1) y0 y1 y2 y3 y4 y5 y6 y7 y8)) ∧ (∀ y0 y1 y2 y3 y4 y5 y6 y7 y8 y9, LeO (arrearslaw20_LockboxTells.l0 k y0 y1 y2 y3 y4 y5 y6 y7 y8 y9) (arrearslaw20_LockboxTells.l0 (k + 1) y0 y1 y2 y3 y4 y5 y6 y7 y8 y9)) ∧ (∀ y0 y1 y2 y3 y4 y5 y6 y7 y8 y9 y10 y11, LeO (arrearslaw20_LockboxTells.j2 k y0 y1 y2 y3 y4 y5 y6 y7 y8 y9 y10 y11) (arrearslaw20_LockboxTells.j2 (k + 1) y0 y1 y2 y3 y4 y5 y6 y7 y8 y9 y10 y11)) ∧ (∀ y0 y1 y2 y3 y4 y5 y6 y7 y8 y9 y10 y11, LeO (arrearslaw20_LockboxTells.l1 k y0 y1 y2 y3 y4 y5 y6 y7 y8 y9 y10 y11) (arrearslaw20_LockboxTells.l1 (k + 1) y0 y1 y2 y3 y4 y5 y6 y7 y8 y9 y10 y11)) ∧ (∀ y0 y1 y2 y3 y4 y5 y6 y7 y8 y9, LeO (arrearslaw20_LockboxTells.j4 k y0 y1 y2 y3 y4 y5 y6 y7 y8 y9) (arrearslaw20_LockboxTells.j4 (k + 1) y0 y1 y2 y3 y4 y5 y6 y7 y8 y9))
  | 0 => ⟨fun _ _ _ _ _ _ _ _ _ r h => by simp [arrearslaw20_LockboxTells.j0] at h, fun _ _ _ _ _ _ _ _ _ _ r h => by simp [arrearslaw20_LockboxTells.l0] at h, fun _ _ _ _ _ _ _ _ _ _ _ _ r h => by simp [arrearslaw20_LockboxTells.j2] at h, fun _ _ _ _ _ _ _ _ _ _ _ _ r h => by simp [arrearslaw20_LockboxTells.l1] at h, fun _ _ _ _ _ _ _ _ _ _ r h => by simp [arrearslaw20_LockboxTells.j4] at h⟩
  | k + 1 => by
    obtain ⟨ih0, ih1, ih2, ih3, ih4⟩ := arrearslaw20_LockboxTells.mono_l k
    refine ⟨?_, ?_, ?_, ?_, ?_⟩
    · intro y0 y1 y2 y3 y4 y5 y6 y7 y8
      unfold arrearslaw20_LockboxTells.j0
      repeat' first
      | (with_reducible exact ih0 _ _ _ _ _ _ _ _ _)
      | (with_reducible exact ih1 _ _ _ _ _ _ _ _ _ _)
      | (with_reducible exact ih2 _ _ _ _ _ _ _ _ _ _ _ _)
      | (with_reducible exact ih3 _ _ _ _ _ _ _ _ _ _ _ _)
      | (with_reducible exact ih4 _ _ _ _ _ _ _ _ _ _)
      | (with_reducible exact arrearslaw20_anew.mono _ _ _ _)
      | (with_reducible exact arrearslaw20_sameBatch.mono _ _ _ _ _ _ _)
      | (with_reducible exact arrearslaw20_sameOps.mono _ _ _)
      | (with_reducible exact arrearsref20_Format.mono _ _ _ _)
      | (with_reducible exact arrearsref20_Ops.mono _ _ _ _)
      | (with_reducible exact lockbox_Format.mono _ _ _ _)
      | (with_reducible exact lockbox_Ops.mono _ _ _ _)
      | (with_reducible exact LeO.refl _)
      | (with_reducible exact LeO.none _)
      | (with_reducible refine LeO.ite ?_ ?_)
      | (with_reducible refine LeO.bind ?_ (fun _ => ?_))
      | exact ih0 _ _ _ _ _ _ _ _ _
      | exact ih1 _ _ _ _ _ _ _ _ _ _
      | exact ih2 _ _ _ _ _ _ _ _ _ _ _ _
      | exact ih3 _ _ _ _ _ _ _ _ _ _ _ _
      | exact ih4 _ _ _ _ _ _ _ _ _ _
      | exact arrearslaw20_anew.mono _ _ _ _
      | exact arrearslaw20_sameBatch.mono _ _ _ _ _ _ _
      | exact arrearslaw20_sameOps.mono _ _ _
      | exact arrearsref20_Format.mono _ _ _ _
      | exact arrearsref20_Ops.mono _ _ _ _
      | exact lockbox_Format.mono _ _ _ _
      | exact lockbox_Ops.mono _ _ _ _
      | exact LeO.none _
      | refine LeO.ite ?_ ?_
      | refine LeO.bind ?_ (fun _ => ?_)
    · intro y0 y1 y2 y3 y4 y5 y6 y7 y8 y9
      unfold arrearslaw20_LockboxTells.l0
      repeat' first
      | (with_reducible exact ih0 _ _ _ _ _ _ _ _ _)
      | (with_reducible exact ih1 _ _ _ _ _ _ _ _ _ _)
      | (with_reducible exact ih2 _ _ _ _ _ _ _ _ _ _ _ _)
      | (with_reducible exact ih3 _ _ _ _ _ _ _ _ _ _ _ _)
      | (with_reducible exact ih4 _ _ _ _ _ _ _ _ _ _)
      | (with_reducible exact arrearslaw20_anew.mono _ _ _ _)
      | (with_reducible exact arrearslaw20_sameBatch.mono _ _ _ _ _ _ _)
      | (with_reducible exact arrearslaw20_sameOps.mono _ _ _)
      | (with_reducible exact arrearsref20_Format.mono _ _ _ _)
      | (with_reducible exact arrearsref20_Ops.mono _ _ _ _)
      | (with_reducible exact lockbox_Format.mono _ _ _ _)
      | (with_reducible exact lockbox_Ops.mono _ _ _ _)
      | (with_reducible exact LeO.refl _)
      | (with_reducible exact LeO.none _)
      | (with_reducible refine LeO.ite ?_ ?_)
      | (with_reducible refine LeO.bind ?_ (fun _ => ?_))
      | exact ih0 _ _ _ _ _ _ _ _ _
      | exact ih1 _ _ _ _ _ _ _ _ _ _
      | exact ih2 _ _ _ _ _ _ _ _ _ _ _ _
      | exact ih3 _ _ _ _ _ _ _ _ _ _ _ _
      | exact ih4 _ _ _ _ _ _ _ _ _ _
      | exact arrearslaw20_anew.mono _ _ _ _
      | exact arrearslaw20_sameBatch.mono _ _ _ _ _ _ _
      | exact arrearslaw20_sameOps.mono _ _ _
      | exact arrearsref20_Format.mono _ _ _ _
      | exact arrearsref20_Ops.mono _ _ _ _
      | exact lockbox_Format.mono _ _ _ _
      | exact lockbox_Ops.mono _ _ _ _
      | exact LeO.none _
      | refine LeO.ite ?_ ?_
      | refine LeO.bind ?_ (fun _ => ?_)
    · intro y0 y1 y2 y3 y4 y5 y6 y7 y8 y9 y10 y11
      unfold arrearslaw20_LockboxTells.j2
      repeat' first
      | (with_reducible exact ih0 _ _ _ _ _ _ _ _ _)
      | (with_reducible exact ih1 _ _ _ _ _ _ _ _ _ _)
      | (with_reducible exact ih2 _ _ _ _ _ _ _ _ _ _ _ _)
      | (with_reducible exact ih3 _ _ _ _ _ _ _ _ _ _ _ _)
      | (with_reducible exact ih4 _ _ _ _ _ _ _ _ _ _)
      | (with_reducible exact arrearslaw20_anew.mono _ _ _ _)
      | (with_reducible exact arrearslaw20_sameBatch.mono _ _ _ _ _ _ _)
      | (with_reducible exact arrearslaw20_sameOps.mono _ _ _)
      | (with_reducible exact arrearsref20_Format.mono _ _ _ _)
      | (with_reducible exact arrearsref20_Ops.mono _ _ _ _)
      | (with_reducible exact lockbox_Format.mono _ _ _ _)
      | (with_reducible exact lockbox_Ops.mono _ _ _ _)
      | (with_reducible exact LeO.refl _)
      | (with_reducible exact LeO.none _)
      | (with_reducible refine LeO.ite ?_ ?_)
      | (with_reducible refine LeO.bind ?_ (fun _ => ?_))
      | exact ih0 _ _ _ _ _ _ _ _ _
      | exact ih1 _ _ _ _ _ _ _ _ _ _
      | exact ih2 _ _ _ _ _ _ _ _ _ _ _ _
      | exact ih3 _ _ _ _ _ _ _ _ _ _ _ _
      | exact ih4 _ _ _ _ _ _ _ _ _ _
      | exact arrearslaw20_anew.mono _ _ _ _
      | exact arrearslaw20_sameBatch.mono _ _ _ _ _ _ _
      | exact arrearslaw20_sameOps.mono _ _ _
      | exact arrearsref20_Format.mono _ _ _ _
      | exact arrearsref20_Ops.mono _ _ _ _
      | exact lockbox_Format.mono _ _ _ _
      | exact lockbox_Ops.mono _ _ _ _
      | exact LeO.none _
      | refine LeO.ite ?_ ?_
      | refine LeO.bind ?_ (fun _ => ?_)
    · intro y0 y1 y2 y3 y4 y5 y6 y7 y8 y9 y10 y11
      unfold arrearslaw20_LockboxTells.l1
      repeat' first
      | (with_reducible exact ih0 _ _ _ _ _ _ _ _ _)
      | (with_reducible exact ih1 _ _ _ _ _ _ _ _ _ _)
      | (with_reducible exact ih2 _ _ _ _ _ _ _ _ _ _ _ _)
      | (with_reducible exact ih3 _ _ _ _ _ _ _ _ _ _ _ _)
      | (with_reducible exact ih4 _ _ _ _ _ _ _ _ _ _)
      | (with_reducible exact arrearslaw20_anew.mono _ _ _ _)
      | (with_reducible exact arrearslaw20_sameBatch.mono _ _ _ _ _ _ _)
      | (with_reducible exact arrearslaw20_sameOps.mono _ _ _)
      | (with_reducible exact arrearsref20_Format.mono _ _ _ _)
      | (with_reducible exact arrearsref20_Ops.mono _ _ _ _)
      | (with_reducible exact lockbox_Format.mono _ _ _ _)
      | (with_reducible exact lockbox_Ops.mono _ _ _ _)
      | (with_reducible exact LeO.refl _)
      | (with_reducible exact LeO.none _)
      | (with_reducible refine LeO.ite ?_ ?_)
      | (with_reducible refine LeO.bind ?_ (fun _ => ?_))
      | exact ih0 _ _ _ _ _ _ _ _ _
      | exact ih1 _ _ _ _ _ _ _ _ _ _
      | exact ih2 _ _ _ _ _ _ _ _ _ _ _ _
      | exact ih3 _ _ _ _ _ _ _ _ _ _ _ _
      | exact ih4 _ _ _ _ _ _ _ _ _ _
      | exact arrearslaw20_anew.mono _ _ _ _
      | exact arrearslaw20_sameBatch.mono _ _ _ _ _ _ _
      | exact arrearslaw20_sameOps.mono _ _ _
      | exact arrearsref20_Format.mono _ _ _ _
      | exact arrearsref20_Ops.mono _ _ _ _
      | exact lockbox_Format.mono _ _ _ _
      | exact lockbox_Ops.mono _ _ _ _
      | exact LeO.none _
      | refine LeO.ite ?_ ?_
      | refine LeO.bind ?_ (fun _ => ?_)
    · intro y0 y1 y2 y3 y4 y5 y6 y7 y8 y9
      unfold arrearslaw20_LockboxTells.j4
      repeat' first
      | (with_reducible exact ih0 _ _ _ _ _ _ _ _ _)
      | (with_reducible exact ih1 _ _ _ _ _ _ _ _ _ _)
      | (with_reducible exact ih2 _ _ _ _ _ _ _ _ _ _ _ _)
      | (with_reducible exact ih3 _ _ _ _ _ _ _ _ _ _ _ _)
      | (with_reducible exact ih4 _ _ _ _ _ _ _ _ _ _)
      | (with_reducible exact arrearslaw20_anew.mono _ _ _ _)
      | (with_reducible exact arrearslaw20_sameBatch.mono _ _ _ _ _ _ _)
      | (with_reducible exact arrearslaw20_sameOps.mono _ _ _)
      | (with_reducible exact arrearsref20_Format.mono _ _ _ _)
      | (with_reducible exact arrearsref20_Ops.mono _ _ _ _)
      | (with_reducible exact lockbox_Format.mono _ _ _ _)
      | (with_reducible exact lockbox_Ops.mono _ _ _ _)
      | (with_reducible exact LeO.refl _)
      | (with_reducible exact LeO.none _)
      | (with_reducible refine LeO.ite ?_ ?_)
      | (with_reducible refine LeO.bind ?_ (fun _ => ?_))
      | exact ih0 _ _ _ _ _ _ _ _ _
      | exact ih1 _ _ _ _ _ _ _ _ _ _
      | exact ih2 _ _ _ _ _ _ _ _ _ _ _ _
      | exact ih3 _ _ _ _ _ _ _ _ _ _ _ _
      | exact ih4 _ _ _ _ _ _ _ _ _ _
      | exact arrearslaw20_anew.mono _ _ _ _
      | exact arrearslaw20_sameBatch.mono _ _ _ _ _ _ _
      | exact arrearslaw20_sameOps.mono _ _ _
      | exact arrearsref20_Format.mono _ _ _ _
      | exact arrearsref20_Ops.mono _ _ _ _
      | exact lockbox_Format.mono _ _ _ _
      | exact lockbox_Ops.mono _ _ _ _
      | exact LeO.none _
      | refine LeO.ite ?_ ?_
      | refine LeO.bind ?_ (fun _ => ?_)
theorem arrearslaw20_LockboxTells.mono : ∀ a0 a1 a2 k, LeO (arrearslaw20_LockboxTells.f k a0 a1 a2) (arrearslaw20_LockboxTells.f (k + 1) a0 a1 a2) := by
  intro a0 a1 a2 k
  obtain ⟨ih0, ih1, ih2, ih3, ih4⟩ := arrearslaw20_LockboxTells.mono_l k
  unfold arrearslaw20_LockboxTells.f
  repeat' first
      | (with_reducible exact ih0 _ _ _ _ _ _ _ _ _)
      | (with_reducible exact ih1 _ _ _ _ _ _ _ _ _ _)
      | (with_reducible exact ih2 _ _ _ _ _ _ _ _ _ _ _ _)
      | (with_reducible exact ih3 _ _ _ _ _ _ _ _ _ _ _ _)
      | (with_reducible exact ih4 _ _ _ _ _ _ _ _ _ _)
      | (with_reducible exact arrearslaw20_anew.mono _ _ _ _)
      | (with_reducible exact arrearslaw20_sameBatch.mono _ _ _ _ _ _ _)
      | (with_reducible exact arrearslaw20_sameOps.mono _ _ _)
      | (with_reducible exact arrearsref20_Format.mono _ _ _ _)
      | (with_reducible exact arrearsref20_Ops.mono _ _ _ _)
      | (with_reducible exact lockbox_Format.mono _ _ _ _)
      | (with_reducible exact lockbox_Ops.mono _ _ _ _)
      | (with_reducible exact LeO.refl _)
      | (with_reducible exact LeO.none _)
      | (with_reducible refine LeO.ite ?_ ?_)
      | (with_reducible refine LeO.bind ?_ (fun _ => ?_))
      | exact ih0 _ _ _ _ _ _ _ _ _
      | exact ih1 _ _ _ _ _ _ _ _ _ _
      | exact ih2 _ _ _ _ _ _ _ _ _ _ _ _
      | exact ih3 _ _ _ _ _ _ _ _ _ _ _ _
      | exact ih4 _ _ _ _ _ _ _ _ _ _
      | exact arrearslaw20_anew.mono _ _ _ _
      | exact arrearslaw20_sameBatch.mono _ _ _ _ _ _ _
      | exact arrearslaw20_sameOps.mono _ _ _
      | exact arrearsref20_Format.mono _ _ _ _
      | exact arrearsref20_Ops.mono _ _ _ _
      | exact lockbox_Format.mono _ _ _ _
      | exact lockbox_Ops.mono _ _ _ _
      | exact LeO.none _
      | refine LeO.ite ?_ ?_
      | refine LeO.bind ?_ (fun _ => ?_)
set_option maxHeartbeats 8000000 in
set_option maxRecDepth 100000 in
theorem arrearslaw20_LockboxTells.calls (k : Nat) (a0_0 : Int) (a0_1 : Int) (A0_2 : Option Addr) (c0_2 : Nat) (l0_2 : List (S50)) (r : Bool) (w : World) (hr0_2 : Kd.C k50 w A0_2 l0_2.length l0_2) (hc0_2 : l0_2.length ≤ c0_2) (h : arrearslaw20_LockboxTells.f k a0_0 a0_1 l0_2 = some r) (HT : Aside0 (Tab w) := by first | assumption | exact tab_auto (by assumption) (by repeat (first | (with_reducible first | (with_reducible exact Aside0.out (by assumption)) | apply below_alloc | apply pw_below_drewN | apply below_drew1) | (refine below_set ?_ (Aside0.out (by assumption))))) | exact tab_drawn (by assumption) _) :
    Calls Tryd.prog 5 #[.agg #[.int .i64 a0_0, .int .i64 a0_1, .slice A0_2 l0_2.length c0_2]] w fun e w' => e = .returned (.bool r) ∧ Below w.heap.size w w' := by
  have hu32 := Tryd.underlying32
  have hu42 := Tryd.underlying42
  have HR0_2 := Aside0.mk hr0_2
  have HC0_2 := Aside0.mk hc0_2
  clear hr0_2 hc0_2
  have HB := Aside0.mk (Below.refl w.heap.size w)
  have H : (if (l0_2.length : Int) > 10010 then (some true) else ((arrearslaw20_own.f a0_0 a0_1 l0_2).bind fun bt293 => ((lockbox_Format.f k bt293.1 bt293.2.1 bt293.2.2).bind fun bt299 => ((arrearsref20_Format.f k a0_0 a0_1 l0_2).bind fun bt303 => (if (bt299.2 != bt303.2) = true then (arrearslaw20_LockboxTells.j0 k bt299.1 bt303.1 true a0_0 a0_1 l0_2 bt293.1 bt293.2.1 bt293.2.2) else ((arrearslaw19_SameBytes.f bt299.1 bt303.1).bind fun t307 => (if t307 = true then ((arrearslaw20_sameBatch.f k bt293.1 bt293.2.1 bt293.2.2 a0_0 a0_1 l0_2).bind fun t308 => (arrearslaw20_LockboxTells.j0 k bt299.1 bt303.1 (!t308) a0_0 a0_1 l0_2 bt293.1 bt293.2.1 bt293.2.2)) else (arrearslaw20_LockboxTells.j0 k bt299.1 bt303.1 true a0_0 a0_1 l0_2 bt293.1 bt293.2.1 bt293.2.2)))))))) = some r := h
  clear h
  by_cases c2 : (l0_2.length : Int) > 10010
  · rw [if_pos c2] at H
    have c2b0 : decide (10010 < (l0_2.length : Int)) = true := decide_eq_true c2
    have c2b1 : decide (10010 < l0_2.length) = true := decide_eq_true (by omega)
    clear c2
    obtain rfl := Option.some.inj H
    go_enter Tryd.func5, Tryd.ntmps5
    go_wp2_with (first | ((with_reducible refine gate_dst (N := 1) rfl ?_); (try (refine gate_guard (by rfl) ?_; dsimp only)); refine box_event ?hg (N := 1) ?hd (cs := #[.int .i64 a0_0, .int .i64 a0_1, .slice A0_2 l0_2.length c0_2]) (t := 32) ?hr ?_; (case hd => rfl); (case hg => rfl); (case hr => first | (go_simp; done) | (go_simp; rfl)); intro gb292 hg w3 hbox hb; have n0_ := Aside0.mk (below_step (by repeat (first | (with_reducible first | exact HB.out | apply below_alloc | apply pw_below_drewN | apply below_drew1) | exact HB.out)) hb); have n1_ := Aside0.mk (hbox); have n2_ := Aside0.mk ((by rw [hg]; exact (below_size (by repeat (first | (with_reducible first | exact HB.out | apply below_alloc | apply pw_below_drewN | apply below_drew1) | exact HB.out))) : w.heap.size ≤ gb292)); have n3_ := Aside0.mk ((by rw [hg]; exact (below_size (by repeat (first | (with_reducible first | exact HB.out | apply below_alloc | apply pw_below_drewN | apply below_drew1) | exact HB.out))) : w.heap.size ≤ gb292)); clear HB; have HB := n0_; have BK292 := n1_; have GW292 := n2_; have GE292 := n3_; clear n0_ n1_ n2_ n3_; clear hb hbox hg; have hcz4_0 : w3.cell? ⟨gb292, 0, none⟩ = some (.int .i64 a0_0) := (blk_cell BK292.out 0).trans rfl; have hcz4_1 : w3.cell? ⟨gb292, 1, none⟩ = some (.int .i64 a0_1) := (blk_cell BK292.out 1).trans rfl; have hcz4_2 : w3.cell? ⟨gb292, 2, none⟩ = some (.slice A0_2 l0_2.length c0_2) := (blk_cell BK292.out 2).trans rfl; have hfz4_0 := blk_frozen BK292.out 0; have hfz4_1 := blk_frozen BK292.out 1; have hfz4_2 := blk_frozen BK292.out 2))
    go_ret
    exact ⟨by first | rfl | (simp [errW_none, errW_some] <;> rfl) | (simp [*, errW_none, errW_some] <;> rfl), by repeat (first | (with_reducible first | exact HB.out | apply below_alloc | apply pw_below_drewN | apply below_drew1 | refine below_set ?_ GE292.out) | exact HB.out)⟩
  · rw [if_neg c2] at H
    have c2b0 : decide (10010 < (l0_2.length : Int)) = false := decide_eq_false c2
    have c2b1 : decide (10010 < l0_2.length) = false := decide_eq_false (by omega)
    clear c2
    replace H := Option.bind_eq_some_iff.mp H
    obtain ⟨⟨t293, t294, t295⟩, A50, H⟩ := H
    replace H : ((lockbox_Format.f k t293 t294 t295).bind fun bt299 => ((arrearsref20_Format.f k a0_0 a0_1 l0_2).bind fun bt303 => (if (bt299.2 != bt303.2) = true then (arrearslaw20_LockboxTells.j0 k bt299.1 bt303.1 true a0_0 a0_1 l0_2 t293 t294 t295) else ((arrearslaw19_SameBytes.f bt299.1 bt303.1).bind fun t307 => (if t307 = true then ((arrearslaw20_sameBatch.f k t293 t294 t295 a0_0 a0_1 l0_2).bind fun t308 => (arrearslaw20_LockboxTells.j0 k bt299.1 bt303.1 (!t308) a0_0 a0_1 l0_2 t293 t294 t295)) else (arrearslaw20_LockboxTells.j0 k bt299.1 bt303.1 true a0_0 a0_1 l0_2 t293 t294 t295)))))) = some r := H
    have A5 := Aside0.mk A50
    clear A50
    replace H := Option.bind_eq_some_iff.mp H
    obtain ⟨⟨t299, t302⟩, A60, H⟩ := H
    replace H : ((arrearsref20_Format.f k a0_0 a0_1 l0_2).bind fun bt303 => (if (t302 != bt303.2) = true then (arrearslaw20_LockboxTells.j0 k t299 bt303.1 true a0_0 a0_1 l0_2 t293 t294 t295) else ((arrearslaw19_SameBytes.f t299 bt303.1).bind fun t307 => (if t307 = true then ((arrearslaw20_sameBatch.f k t293 t294 t295 a0_0 a0_1 l0_2).bind fun t308 => (arrearslaw20_LockboxTells.j0 k t299 bt303.1 (!t308) a0_0 a0_1 l0_2 t293 t294 t295)) else (arrearslaw20_LockboxTells.j0 k t299 bt303.1 true a0_0 a0_1 l0_2 t293 t294 t295))))) = some r := H
    have A6 := Aside0.mk A60
    clear A60
    replace H := Option.bind_eq_some_iff.mp H
    obtain ⟨⟨t303, t306⟩, A70, H⟩ := H
    replace H : (if (t302 != t306) = true then (arrearslaw20_LockboxTells.j0 k t299 t303 true a0_0 a0_1 l0_2 t293 t294 t295) else ((arrearslaw19_SameBytes.f t299 t303).bind fun t307 => (if t307 = true then ((arrearslaw20_sameBatch.f k t293 t294 t295 a0_0 a0_1 l0_2).bind fun t308 => (arrearslaw20_LockboxTells.j0 k t299 t303 (!t308) a0_0 a0_1 l0_2 t293 t294 t295)) else (arrearslaw20_LockboxTells.j0 k t299 t303 true a0_0 a0_1 l0_2 t293 t294 t295)))) = some r := H
    have A7 := Aside0.mk A70
    clear A70
    have HC8 := Aside0.mk H
    clear H
    go_enter Tryd.func5, Tryd.ntmps5
    go_upto_region 6 with (first | ((with_reducible refine gate_dst (N := 1) rfl ?_); (try (refine gate_guard (by rfl) ?_; dsimp only)); refine box_event ?hg (N := 1) ?hd (cs := #[.int .i64 a0_0, .int .i64 a0_1, .slice A0_2 l0_2.length c0_2]) (t := 32) ?hr ?_; (case hd => rfl); (case hg => rfl); (case hr => first | (go_simp; done) | (go_simp; rfl)); intro gb292 hg w9 hbox hb; have n0_ := Aside0.mk (below_step (by repeat (first | (with_reducible first | exact HB.out | apply below_alloc | apply pw_below_drewN | apply below_drew1) | exact HB.out)) hb); have n1_ := Aside0.mk (hbox); have n2_ := Aside0.mk ((by rw [hg]; exact (below_size (by repeat (first | (with_reducible first | exact HB.out | apply below_alloc | apply pw_below_drewN | apply below_drew1) | exact HB.out))) : w.heap.size ≤ gb292)); have n3_ := Aside0.mk ((by rw [hg]; exact (below_size (by repeat (first | (with_reducible first | exact HB.out | apply below_alloc | apply pw_below_drewN | apply below_drew1) | exact HB.out))) : w.heap.size ≤ gb292)); clear HB; have HB := n0_; have BK292 := n1_; have GW292 := n2_; have GE292 := n3_; clear n0_ n1_ n2_ n3_; clear hb hbox hg; have hcz10_0 : w9.cell? ⟨gb292, 0, none⟩ = some (.int .i64 a0_0) := (blk_cell BK292.out 0).trans rfl; have hcz10_1 : w9.cell? ⟨gb292, 1, none⟩ = some (.int .i64 a0_1) := (blk_cell BK292.out 1).trans rfl; have hcz10_2 : w9.cell? ⟨gb292, 2, none⟩ = some (.slice A0_2 l0_2.length c0_2) := (blk_cell BK292.out 2).trans rfl; have hfz10_0 := blk_frozen BK292.out 0; have hfz10_1 := blk_frozen BK292.out 1; have hfz10_2 := blk_frozen BK292.out 2) | ((with_reducible refine gate_callee (f := 15) rfl ?_); refine goesL_ (some 21) rfl rfl Tryd.func15 (by kernel_rfl) rfl #[.agg #[.int .i64 a0_0, .int .i64 a0_1, .slice A0_2 l0_2.length c0_2]] rfl (by (try simp only [List.map_toArray, List.map_cons, List.map_nil]); first | done | rfl | (simp only [List.length_drop, List.length_take]; rfl)) ?_; (with_reducible refine (arrearslaw20_own.calls a0_0 a0_1 _ _ l0_2 t293 t294 t295 _ ?side1 ?side2 A5.out).mono ?_); (case side1 => repeat (first | exact (Kd.C_below HR0_2.out HB.out) | (with_reducible refine Kd.C_alloc ?_ _) | (with_reducible refine Kd.C_drewN ?_ _) | (with_reducible refine Kd.C_drew ?_))); (case side2 => exact HC0_2.out); rintro e w11 ⟨v296, rfl, ho0, hb⟩; refine ⟨_, rfl, ?_⟩; have n0_ := Aside0.mk (Kd.R_lower ho0 (below_size (by repeat (first | (with_reducible first | exact HB.out | apply below_alloc | apply pw_below_drewN | apply below_drew1 | refine below_set ?_ GE292.out) | exact HB.out)))); have n1_ := Aside0.mk (blk_below (g := gb292) (o := .cells #[.int .i64 a0_0, .int .i64 a0_1, .slice A0_2 l0_2.length c0_2] 32 (0, 0)) (by (with_reducible repeat (first | refine blk_drewN ?_ _ | refine blk_drew ?_ | refine blk_alloc ?_ _)); exact BK292.out) hb); have n2_ := Aside0.mk (below_step (by repeat (first | (with_reducible first | exact HB.out | apply below_alloc | apply pw_below_drewN | apply below_drew1 | refine below_set ?_ GE292.out) | exact HB.out)) hb); clear BK292; clear HB; have HO297 := n0_; have BK292 := n1_; have HB := n2_; clear n0_ n1_ n2_; (try clear hb); (try clear hb2); (try clear hk); (try clear hi); (try clear ho0)) | ((with_reducible refine gate_dst (N := 3) rfl ?_); (try (refine gate_guard (by rfl) ?_; dsimp only)); refine box_event ?hg (N := 3) ?hd (cs := #[.int .i64 0, .int .i64 0, .slice none 0 0]) (t := 32) ?hr ?_; (case hd => rfl); (case hg => rfl); (case hr => first | (go_simp; done) | (go_simp; rfl)); intro gb298 hg w12 hbox hb; have n0_ := Aside0.mk (Kd.R_below (by (with_reducible repeat (first | apply Kd.R_alloc | apply Kd.R_drewN | apply Kd.R_drew)); exact HO297.out) hb); have n1_ := Aside0.mk (blk_below (g := gb292) (o := .cells #[.int .i64 a0_0, .int .i64 a0_1, .slice A0_2 l0_2.length c0_2] 32 (0, 0)) (by (with_reducible repeat (first | refine blk_drewN ?_ _ | refine blk_drew ?_ | refine blk_alloc ?_ _)); exact BK292.out) hb); have n2_ := Aside0.mk (below_step (by repeat (first | (with_reducible first | exact HB.out | apply below_alloc | apply pw_below_drewN | apply below_drew1 | refine below_set ?_ GE292.out) | exact HB.out)) hb); have n3_ := Aside0.mk (hbox); have n4_ := Aside0.mk ((by rw [hg]; exact (below_size (by repeat (first | (with_reducible first | exact HB.out | apply below_alloc | apply pw_below_drewN | apply below_drew1 | refine below_set ?_ GE292.out) | exact HB.out))) : w.heap.size ≤ gb298)); have n5_ := Aside0.mk ((by rw [hg]; exact (below_size (by repeat (first | (with_reducible first | exact HB.out | apply below_alloc | apply pw_below_drewN | apply below_drew1 | refine below_set ?_ GE292.out) | exact HB.out))) : w.heap.size ≤ gb298)); have n6_ := Aside0.mk ((by rw [hg]; exact Nat.ne_of_lt (blk_lt (g := gb292) (o := .cells #[.int .i64 a0_0, .int .i64 a0_1, .slice A0_2 l0_2.length c0_2] 32 (0, 0)) (by (with_reducible repeat (first | refine blk_drewN ?_ _ | refine blk_drew ?_ | refine blk_alloc ?_ _)); exact BK292.out)) : gb292 ≠ gb298)); have n7_ := Aside0.mk ((by rw [hg]; exact Nat.ne_of_gt (blk_lt (g := gb292) (o := .cells #[.int .i64 a0_0, .int .i64 a0_1, .slice A0_2 l0_2.length c0_2] 32 (0, 0)) (by (with_reducible repeat (first | refine blk_drewN ?_ _ | refine blk_drew ?_ | refine blk_alloc ?_ _)); exact BK292.out)) : gb298 ≠ gb292)); clear HO297; clear BK292; clear HB; have HO297 := n0_; have BK292 := n1_; have HB := n2_; have BK298 := n3_; have GW298 := n4_; have GE298 := n5_; have NB292_298 := n6_; have NB298_292 := n7_; clear n0_ n1_ n2_ n3_ n4_ n5_ n6_ n7_; clear hb hbox hg; have hnb13 := NB298_292.out; have hnc13 := NB292_298.out; have hcz14_0 : w12.cell? ⟨gb298, 0, none⟩ = some (.int .i64 0) := (blk_cell BK298.out 0).trans rfl; have hcz14_1 : w12.cell? ⟨gb298, 1, none⟩ = some (.int .i64 0) := (blk_cell BK298.out 1).trans rfl; have hcz14_2 : w12.cell? ⟨gb298, 2, none⟩ = some (.slice none 0 0) := (blk_cell BK298.out 2).trans rfl; have hfz14_0 := blk_frozen BK298.out 0; have hfz14_1 := blk_frozen BK298.out 1; have hfz14_2 := blk_frozen BK298.out 2; obtain ⟨Ao15, co15, eo15⟩ := Kd.R_slice HO297.out; subst eo15) | ((with_reducible refine gate_callee (f := 16) rfl ?_); refine goesL_ (some 24) rfl rfl Tryd.func16 (by kernel_rfl) rfl #[.agg #[.int .i64 t293, .int .i64 t294, .slice Ao15 t295.length co15]] rfl (by (try simp only [List.map_toArray, List.map_cons, List.map_nil]); first | done | rfl | (simp only [List.length_drop, List.length_take]; rfl)) ?_; (with_reducible refine (lockbox_Format.calls k t293 t294 _ _ t295 t299 t302 _ ?side1 ?side2 A6.out).mono ?_); (case side1 => refine (Kd.R_reads' (e := 50) (base := w.heap.size) (ok := fun k_ => True) (n := t295.length) (c := co15) ?_).2.2; exact (by (with_reducible repeat (first | apply Kd.R_alloc | apply Kd.R_drewN | apply Kd.R_drew)); exact (Kd.R_mono (Kd.R_far (p := ⟨gb298, 2, none⟩) (Kd.R_far (p := ⟨gb298, 1, none⟩) (Kd.R_far (p := ⟨gb298, 0, none⟩) (Kd.R_types HO297.out BK298.out (by decide)) (fun _ hk => hk.2) (.int .i64 t293)) (fun _ hk => hk.2) (.int .i64 t294)) (fun _ hk => hk.2) (.slice Ao15 t295.length co15)) (fun _ h_ => h_.1)))); (case side2 => exact (Kd.R_reads' HO297.out).2.1); rintro e w16 ⟨v300, rfl, ho0, hb⟩; refine ⟨_, rfl, ?_⟩; have n0_ := Aside0.mk (Kd.R_below (by (with_reducible repeat (first | apply Kd.R_alloc | apply Kd.R_drewN | apply Kd.R_drew)); exact (Kd.R_mono (Kd.R_far (p := ⟨gb298, 2, none⟩) (Kd.R_far (p := ⟨gb298, 1, none⟩) (Kd.R_far (p := ⟨gb298, 0, none⟩) (Kd.R_types HO297.out BK298.out (by decide)) (fun _ hk => hk.2) (.int .i64 t293)) (fun _ hk => hk.2) (.int .i64 t294)) (fun _ hk => hk.2) (.slice Ao15 t295.length co15)) (fun _ h_ => h_.1))) hb); have n1_ := Aside0.mk (Kd.R_lower ho0 (below_size (by repeat (first | (with_reducible first | exact HB.out | apply below_alloc | apply pw_below_drewN | apply below_drew1 | refine below_set ?_ GE292.out | refine below_set ?_ GE298.out) | exact HB.out)))); have n2_ := Aside0.mk (blk_below (g := gb292) (o := .cells #[.int .i64 a0_0, .int .i64 a0_1, .slice A0_2 l0_2.length c0_2] 32 (0, 0)) (by (with_reducible repeat (first | refine blk_drewN ?_ _ | refine blk_drew ?_ | refine blk_alloc ?_ _)); refine blk_far ?_ NB292_298.out _; (with_reducible repeat (first | refine blk_drewN ?_ _ | refine blk_drew ?_ | refine blk_alloc ?_ _)); refine blk_far ?_ NB292_298.out _; (with_reducible repeat (first | refine blk_drewN ?_ _ | refine blk_drew ?_ | refine blk_alloc ?_ _)); refine blk_far ?_ NB292_298.out _; (with_reducible repeat (first | refine blk_drewN ?_ _ | refine blk_drew ?_ | refine blk_alloc ?_ _)); exact BK292.out) hb); have n3_ := Aside0.mk (blk_below (g := gb298) (o := .cells #[.int .i64 t293, .int .i64 t294, .slice Ao15 t295.length co15] 32 (0, 0)) (by (with_reducible repeat (first | refine blk_drewN ?_ _ | refine blk_drew ?_ | refine blk_alloc ?_ _)); refine blk_put (cs := #[.int .i64 t293, .int .i64 t294, .slice none 0 0]) ?_ 2 _ rfl; (with_reducible repeat (first | refine blk_drewN ?_ _ | refine blk_drew ?_ | refine blk_alloc ?_ _)); refine blk_put (cs := #[.int .i64 t293, .int .i64 0, .slice none 0 0]) ?_ 1 _ rfl; (with_reducible repeat (first | refine blk_drewN ?_ _ | refine blk_drew ?_ | refine blk_alloc ?_ _)); refine blk_put (cs := #[.int .i64 0, .int .i64 0, .slice none 0 0]) ?_ 0 _ rfl; (with_reducible repeat (first | refine blk_drewN ?_ _ | refine blk_drew ?_ | refine blk_alloc ?_ _)); exact BK298.out) hb); have n4_ := Aside0.mk (below_step (by repeat (first | (with_reducible first | exact HB.out | apply below_alloc | apply pw_below_drewN | apply below_drew1 | refine below_set ?_ GE292.out | refine below_set ?_ GE298.out) | exact HB.out)) hb); clear HO297; clear BK292; clear BK298; clear HB; have HO297 := n0_; have HO301 := n1_; have BK292 := n2_; have BK298 := n3_; have HB := n4_; clear n0_ n1_ n2_ n3_ n4_; (try clear hb); (try clear hb2); (try clear hk); (try clear hi); (try clear ho0); have hcz17_0 : w16.cell? ⟨gb292, 0, none⟩ = some (.int .i64 a0_0) := (blk_cell BK292.out 0).trans rfl; have hcz17_1 : w16.cell? ⟨gb292, 1, none⟩ = some (.int .i64 a0_1) := (blk_cell BK292.out 1).trans rfl; have hcz17_2 : w16.cell? ⟨gb292, 2, none⟩ = some (.slice A0_2 l0_2.length c0_2) := (blk_cell BK292.out 2).trans rfl; have hfz17_0 := blk_frozen BK292.out 0; have hfz17_1 := blk_frozen BK292.out 1; have hfz17_2 := blk_frozen BK292.out 2) | ((with_reducible refine gate_callee (f := 17) rfl ?_); refine goesL_ (some 29) rfl rfl Tryd.func17 (by kernel_rfl) rfl #[.agg #[.int .i64 a0_0, .int .i64 a0_1, .slice A0_2 l0_2.length c0_2]] rfl (by (try simp only [List.map_toArray, List.map_cons, List.map_nil]); first | done | rfl | (simp only [List.length_drop, List.length_take]; rfl)) ?_; (with_reducible refine (arrearsref20_Format.calls k a0_0 a0_1 _ _ l0_2 t303 t306 _ ?side1 ?side2 A7.out).mono ?_); (case side1 => repeat (first | exact (Kd.C_below HR0_2.out HB.out) | (with_reducible refine Kd.C_alloc ?_ _) | (with_reducible refine Kd.C_drewN ?_ _) | (with_reducible refine Kd.C_drew ?_))); (case side2 => exact HC0_2.out); rintro e w18 ⟨v304, rfl, ho0, hb⟩; refine ⟨_, rfl, ?_⟩; have n0_ := Aside0.mk (Kd.R_below (by (with_reducible repeat (first | apply Kd.R_alloc | apply Kd.R_drewN | apply Kd.R_drew)); exact HO297.out) hb); have n1_ := Aside0.mk (Kd.R_elder' (by (with_reducible repeat (first | apply Kd.R_alloc | apply Kd.R_drewN | apply Kd.R_drew)); exact HO301.out) (Kd.R_base ho0) hb); have n2_ := Aside0.mk (Kd.R_lower (Kd.R_new' ho0 (Kd.R_lt (by (with_reducible repeat (first | apply Kd.R_alloc | apply Kd.R_drewN | apply Kd.R_drew)); exact HO301.out))) (below_size (by repeat (first | (with_reducible first | exact HB.out | apply below_alloc | apply pw_below_drewN | apply below_drew1 | refine below_set ?_ GE292.out | refine below_set ?_ GE298.out) | exact HB.out)))); have n3_ := Aside0.mk (blk_below (g := gb292) (o := .cells #[.int .i64 a0_0, .int .i64 a0_1, .slice A0_2 l0_2.length c0_2] 32 (0, 0)) (by (with_reducible repeat (first | refine blk_drewN ?_ _ | refine blk_drew ?_ | refine blk_alloc ?_ _)); exact BK292.out) hb); have n4_ := Aside0.mk (blk_below (g := gb298) (o := .cells #[.int .i64 t293, .int .i64 t294, .slice Ao15 t295.length co15] 32 (0, 0)) (by (with_reducible repeat (first | refine blk_drewN ?_ _ | refine blk_drew ?_ | refine blk_alloc ?_ _)); exact BK298.out) hb); have n5_ := Aside0.mk (below_step (by repeat (first | (with_reducible first | exact HB.out | apply below_alloc | apply pw_below_drewN | apply below_drew1 | refine below_set ?_ GE292.out | refine below_set ?_ GE298.out) | exact HB.out)) hb); clear HO297; clear HO301; clear BK292; clear BK298; clear HB; have HO297 := n0_; have HO301 := n1_; have HO305 := n2_; have BK292 := n3_; have BK298 := n4_; have HB := n5_; clear n0_ n1_ n2_ n3_ n4_ n5_; (try clear hb); (try clear hb2); (try clear hk); (try clear hi); (try clear ho0)))
    (try simp only [Act.put, List.setIfInBounds_toArray, List.set_cons_zero, List.set_cons_succ])
    go_cut [46] (fun v46 wc => ∃ (kq : Nat) (x46_7 : Bool), v46 = .bool x46_7 ∧ Aside0 (arrearslaw20_LockboxTells.j0 kq t299 t303 x46_7 a0_0 a0_1 l0_2 t293 t294 t295 = some r) ∧ Aside0 (kq ≤ k) ∧ Aside0 (Kd.R (Kd.int .u8) 5 wc w.heap.size (fun k_ => some k_ ≠ (v304 : Value).ownBlock) v300 t299) ∧ Aside0 (Kd.R (Kd.int .u8) 5 wc w.heap.size (fun k_ => some k_ ≠ (v300 : Value).ownBlock) v304 t303) ∧ Aside0 (Kd.R k50 50 wc w.heap.size (fun _ => True) (.slice Ao15 t295.length co15) t295) ∧ Aside0 (wc.heap[gb292]? = some (.cells #[.int .i64 a0_0, .int .i64 a0_1, (.slice A0_2 l0_2.length c0_2)] 32 (0, 0))) ∧ Aside0 (wc.heap[gb298]? = some (.cells #[.int .i64 t293, .int .i64 t294, (.slice Ao15 t295.length co15)] 32 (0, 0))) ∧ Aside0 (Below w.heap.size w wc))
    case first =>
      have H := HC8.out
      clear HC8
      by_cases c19 : (t302 != t306) = true
      · rw [if_pos c19] at H
        have c19b0 : (t302 != t306) = true := c19
        (try (have c19b1 : decide (t302 = t306) = false := by simpa using c19))
        (try (have c19b2 : (t302 == t306) = false := by simpa using c19))
        (try (have c19b3 : ¬ (t302 = t306) := by simpa using c19))
        clear c19
        (first | rw [c19b0] | (simp only [i64_w, i32_w]; rw [c19b0]) | skip)
        have H' := Aside0.mk H
        clear H
        go_wp2
        go_meet
        case rel => exact ⟨_, (true), (by first | rfl | (simp; done) | (simp [*]; done)), H', ⟨by first | omega | exact Nat.le_refl _⟩, ⟨by (with_reducible repeat (first | apply Kd.R_alloc | apply Kd.R_drewN | apply Kd.R_drew)); exact Kd.R_mono HO301.out (fun _ hk => hk.2)⟩, ⟨by (with_reducible repeat (first | apply Kd.R_alloc | apply Kd.R_drewN | apply Kd.R_drew)); exact Kd.R_mono HO305.out (fun _ hk => hk.2)⟩, ⟨by (with_reducible repeat (first | apply Kd.R_alloc | apply Kd.R_drewN | apply Kd.R_drew)); exact HO297.out⟩, ⟨by (with_reducible repeat (first | refine blk_drewN ?_ _ | refine blk_drew ?_ | refine blk_alloc ?_ _)); exact BK292.out⟩, ⟨by (with_reducible repeat (first | refine blk_drewN ?_ _ | refine blk_drew ?_ | refine blk_alloc ?_ _)); exact BK298.out⟩, ⟨by repeat (first | (with_reducible first | exact HB.out | apply below_alloc | apply pw_below_drewN | apply below_drew1 | refine below_set ?_ GE292.out | refine below_set ?_ GE298.out) | exact HB.out)⟩⟩
      · rw [if_neg c19] at H
        have c19b0 : (t302 != t306) = false := by simpa using c19
        (try (have c19b1 : decide (t302 = t306) = true := by simpa using c19))
        (try (have c19b2 : (t302 == t306) = true := by simpa using c19))
        clear c19
        (first | rw [c19b0] | (simp only [i64_w, i32_w]; rw [c19b0]) | skip)
        replace H := Option.bind_eq_some_iff.mp H
        obtain ⟨t307, A200, H⟩ := H
        replace H : (if t307 = true then ((arrearslaw20_sameBatch.f k t293 t294 t295 a0_0 a0_1 l0_2).bind fun t308 => (arrearslaw20_LockboxTells.j0 k t299 t303 (!t308) a0_0 a0_1 l0_2 t293 t294 t295)) else (arrearslaw20_LockboxTells.j0 k t299 t303 true a0_0 a0_1 l0_2 t293 t294 t295)) = some r := H
        have A20 := Aside0.mk A200
        clear A200
        by_cases c21 : t307 = true
        · subst c21
          have H1 : ((arrearslaw20_sameBatch.f k t293 t294 t295 a0_0 a0_1 l0_2).bind fun t308 => (arrearslaw20_LockboxTells.j0 k t299 t303 (!t308) a0_0 a0_1 l0_2 t293 t294 t295)) = some r := by rw [if_pos rfl] at H; exact H
          clear H
          have H := H1
          clear H1
          replace H := Option.bind_eq_some_iff.mp H
          obtain ⟨t308, A220, H⟩ := H
          replace H : (arrearslaw20_LockboxTells.j0 k t299 t303 (!t308) a0_0 a0_1 l0_2 t293 t294 t295) = some r := H
          have A22 := Aside0.mk A220
          clear A220
          have H' := Aside0.mk H
          clear H
          obtain ⟨Ao23, co23, eo23⟩ := Kd.R_slice HO301.out
          subst eo23
          obtain ⟨Ao24, co24, eo24⟩ := Kd.R_slice HO305.out
          subst eo24
          go_wp2_with (first | (go_at_call 18; (with_reducible refine (arrearslaw19_SameBytes.calls _ _ t299 _ _ t303 true _ ?side1 ?side2 ?side3 ?side4 A20.out).mono ?_); (case side1 => repeat (first | exact (Kd.R_reads' HO301.out).2.2 | (with_reducible refine Kd.C_alloc ?_ _) | (with_reducible refine Kd.C_drewN ?_ _) | (with_reducible refine Kd.C_drew ?_))); (case side2 => exact (Kd.R_reads' HO301.out).2.1); (case side3 => repeat (first | exact (Kd.R_reads' HO305.out).2.2 | (with_reducible refine Kd.C_alloc ?_ _) | (with_reducible refine Kd.C_drewN ?_ _) | (with_reducible refine Kd.C_drew ?_))); (case side4 => exact (Kd.R_reads' HO305.out).2.1); rintro e w' ⟨rfl, ⟨nd, rfl⟩⟩; have hnb25 := NB298_292.out; have hnc25 := NB292_298.out; have hcz26_0 : w18.cell? ⟨gb298, 0, none⟩ = some (.int .i64 t293) := (blk_cell BK298.out 0).trans rfl; have hcz26_1 : w18.cell? ⟨gb298, 1, none⟩ = some (.int .i64 t294) := (blk_cell BK298.out 1).trans rfl; have hcz26_2 : w18.cell? ⟨gb298, 2, none⟩ = some (.slice Ao15 t295.length co15) := (blk_cell BK298.out 2).trans rfl; have hfz26_0 := blk_frozen BK298.out 0; have hfz26_1 := blk_frozen BK298.out 1; have hfz26_2 := blk_frozen BK298.out 2; have hcz27_0 : w18.cell? ⟨gb292, 0, none⟩ = some (.int .i64 a0_0) := (blk_cell BK292.out 0).trans rfl; have hcz27_1 : w18.cell? ⟨gb292, 1, none⟩ = some (.int .i64 a0_1) := (blk_cell BK292.out 1).trans rfl; have hcz27_2 : w18.cell? ⟨gb292, 2, none⟩ = some (.slice A0_2 l0_2.length c0_2) := (blk_cell BK292.out 2).trans rfl; have hfz27_0 := blk_frozen BK292.out 0; have hfz27_1 := blk_frozen BK292.out 1; have hfz27_2 := blk_frozen BK292.out 2) | (go_at_call 19; (with_reducible refine (arrearslaw20_sameBatch.calls k t293 t294 _ _ t295 a0_0 a0_1 _ _ l0_2 t308 _ ?side1 ?side2 ?side3 ?side4 A22.out).mono ?_); (case side1 => repeat (first | exact (Kd.R_reads' HO297.out).2.2 | (with_reducible refine Kd.C_alloc ?_ _) | (with_reducible refine Kd.C_drewN ?_ _) | (with_reducible refine Kd.C_drew ?_))); (case side2 => exact (Kd.R_reads' HO297.out).2.1); (case side3 => repeat (first | exact (Kd.C_below HR0_2.out (by repeat (first | (with_reducible first | exact HB.out | apply below_alloc | apply pw_below_drewN | apply below_drew1 | refine below_set ?_ GE292.out | refine below_set ?_ GE298.out) | exact HB.out))) | (with_reducible refine Kd.C_alloc ?_ _) | (with_reducible refine Kd.C_drewN ?_ _) | (with_reducible refine Kd.C_drew ?_))); (case side4 => exact HC0_2.out); rintro e w28 ⟨rfl, hb⟩; have n0_ := Aside0.mk (Kd.R_below (by (with_reducible repeat (first | apply Kd.R_alloc | apply Kd.R_drewN | apply Kd.R_drew)); exact HO297.out) hb); have n1_ := Aside0.mk (Kd.R_below (by (with_reducible repeat (first | apply Kd.R_alloc | apply Kd.R_drewN | apply Kd.R_drew)); exact HO301.out) hb); have n2_ := Aside0.mk (Kd.R_below (by (with_reducible repeat (first | apply Kd.R_alloc | apply Kd.R_drewN | apply Kd.R_drew)); exact HO305.out) hb); have n3_ := Aside0.mk (blk_below (g := gb292) (o := .cells #[.int .i64 a0_0, .int .i64 a0_1, .slice A0_2 l0_2.length c0_2] 32 (0, 0)) (by (with_reducible repeat (first | refine blk_drewN ?_ _ | refine blk_drew ?_ | refine blk_alloc ?_ _)); exact BK292.out) hb); have n4_ := Aside0.mk (blk_below (g := gb298) (o := .cells #[.int .i64 t293, .int .i64 t294, .slice Ao15 t295.length co15] 32 (0, 0)) (by (with_reducible repeat (first | refine blk_drewN ?_ _ | refine blk_drew ?_ | refine blk_alloc ?_ _)); exact BK298.out) hb); have n5_ := Aside0.mk (below_step (by repeat (first | (with_reducible first | exact HB.out | apply below_alloc | apply pw_below_drewN | apply below_drew1 | refine below_set ?_ GE292.out | refine below_set ?_ GE298.out) | exact HB.out)) hb); clear HO297; clear HO301; clear HO305; clear BK292; clear BK298; clear HB; have HO297 := n0_; have HO301 := n1_; have HO305 := n2_; have BK292 := n3_; have BK298 := n4_; have HB := n5_; clear n0_ n1_ n2_ n3_ n4_ n5_; (try clear hb); (try clear hb2); (try clear hk); (try clear hi)))
          go_meet
          case rel => exact ⟨_, (!t308), (by first | rfl | (simp; done) | (simp [*]; done)), H', ⟨by first | omega | exact Nat.le_refl _⟩, ⟨by (with_reducible repeat (first | apply Kd.R_alloc | apply Kd.R_drewN | apply Kd.R_drew)); exact Kd.R_mono HO301.out (fun _ hk => hk.2)⟩, ⟨by (with_reducible repeat (first | apply Kd.R_alloc | apply Kd.R_drewN | apply Kd.R_drew)); exact Kd.R_mono HO305.out (fun _ hk => hk.2)⟩, ⟨by (with_reducible repeat (first | apply Kd.R_alloc | apply Kd.R_drewN | apply Kd.R_drew)); exact HO297.out⟩, ⟨by (with_reducible repeat (first | refine blk_drewN ?_ _ | refine blk_drew ?_ | refine blk_alloc ?_ _)); exact BK292.out⟩, ⟨by (with_reducible repeat (first | refine blk_drewN ?_ _ | refine blk_drew ?_ | refine blk_alloc ?_ _)); exact BK298.out⟩, ⟨by repeat (first | (with_reducible first | exact HB.out | apply below_alloc | apply pw_below_drewN | apply below_drew1 | refine below_set ?_ GE292.out | refine below_set ?_ GE298.out) | exact HB.out)⟩⟩
        · replace c21 := Bool.eq_false_iff.mpr c21
          subst c21
          have H1 : (arrearslaw20_LockboxTells.j0 k t299 t303 true a0_0 a0_1 l0_2 t293 t294 t295) = some r := by rw [if_neg (show ¬ (false = true) by decide)] at H; exact H
          clear H
          have H := H1
          clear H1
          have H' := Aside0.mk H
          clear H
          obtain ⟨Ao29, co29, eo29⟩ := Kd.R_slice HO301.out
          subst eo29
          obtain ⟨Ao30, co30, eo30⟩ := Kd.R_slice HO305.out
          subst eo30
          go_wp2_with (first | (go_at_call 18; (with_reducible refine (arrearslaw19_SameBytes.calls _ _ t299 _ _ t303 false _ ?side1 ?side2 ?side3 ?side4 A20.out).mono ?_); (case side1 => repeat (first | exact (Kd.R_reads' HO301.out).2.2 | (with_reducible refine Kd.C_alloc ?_ _) | (with_reducible refine Kd.C_drewN ?_ _) | (with_reducible refine Kd.C_drew ?_))); (case side2 => exact (Kd.R_reads' HO301.out).2.1); (case side3 => repeat (first | exact (Kd.R_reads' HO305.out).2.2 | (with_reducible refine Kd.C_alloc ?_ _) | (with_reducible refine Kd.C_drewN ?_ _) | (with_reducible refine Kd.C_drew ?_))); (case side4 => exact (Kd.R_reads' HO305.out).2.1); rintro e w' ⟨rfl, ⟨nd, rfl⟩⟩))
          go_meet
          case rel => exact ⟨_, (true), (by first | rfl | (simp; done) | (simp [*]; done)), H', ⟨by first | omega | exact Nat.le_refl _⟩, ⟨by (with_reducible repeat (first | apply Kd.R_alloc | apply Kd.R_drewN | apply Kd.R_drew)); exact Kd.R_mono HO301.out (fun _ hk => hk.2)⟩, ⟨by (with_reducible repeat (first | apply Kd.R_alloc | apply Kd.R_drewN | apply Kd.R_drew)); exact Kd.R_mono HO305.out (fun _ hk => hk.2)⟩, ⟨by (with_reducible repeat (first | apply Kd.R_alloc | apply Kd.R_drewN | apply Kd.R_drew)); exact HO297.out⟩, ⟨by (with_reducible repeat (first | refine blk_drewN ?_ _ | refine blk_drew ?_ | refine blk_alloc ?_ _)); exact BK292.out⟩, ⟨by (with_reducible repeat (first | refine blk_drewN ?_ _ | refine blk_drew ?_ | refine blk_alloc ?_ _)); exact BK298.out⟩, ⟨by repeat (first | (with_reducible first | exact HB.out | apply below_alloc | apply pw_below_drewN | apply below_drew1 | refine below_set ?_ GE292.out | refine below_set ?_ GE298.out) | exact HB.out)⟩⟩
    case rest =>
      clear HC8
      try clear c1
      try clear c2
      try clear c2b0
      try clear c2b1
      try clear p2
      try clear c5
      try clear c13
      try clear c15
      try clear c16
      try clear c17
      try clear c19
      try clear c19b0
      try clear c19b1
      try clear c19b2
      try clear c21
      try clear c25
      try clear hcz10_0
      try clear hcz10_1
      try clear hcz10_2
      try clear hcz14_0
      try clear hcz14_1
      try clear hcz14_2
      try clear hcz17_0
      try clear hcz17_1
      try clear hcz17_2
      try clear hcz26_0
      try clear hcz26_1
      try clear hcz26_2
      try clear hcz27_0
      try clear hcz27_1
      try clear hcz27_2
      try clear hcz4_0
      try clear hcz4_1
      try clear hcz4_2
      try clear hfz10_0
      try clear hfz10_1
      try clear hfz10_2
      try clear hfz14_0
      try clear hfz14_1
      try clear hfz14_2
      try clear hfz17_0
      try clear hfz17_1
      try clear hfz17_2
      try clear hfz26_0
      try clear hfz26_1
      try clear hfz26_2
      try clear hfz27_0
      try clear hfz27_1
      try clear hfz27_2
      try clear hfz4_0
      try clear hfz4_1
      try clear hfz4_2
      obtain ⟨kq, x46_7, rfl, HA, HJ7, HO_4, HO_6, HO_299002, BK292, BK298, HB⟩ := hcut
      cases kq with
      | zero => exact absurd HA.out (by simp [arrearslaw20_LockboxTells.j0])
      | succ kj7 =>
        have H := HA.out
        clear HA
        simp only [arrearslaw20_LockboxTells.j0] at H
        by_cases c31 : x46_7 = true
        · subst c31
          have H1 : (some false) = some r := by rw [if_pos rfl] at H; exact H
          clear H
          have H := H1
          clear H1
          obtain rfl := Option.some.inj H
          go_wp2
          go_ret
          exact ⟨by first | rfl | (simp [errW_none, errW_some] <;> rfl) | (simp [*, errW_none, errW_some] <;> rfl), by repeat (first | (with_reducible first | exact HB.out | apply below_alloc | apply pw_below_drewN | apply below_drew1 | refine below_set ?_ GE292.out | refine below_set ?_ GE298.out) | exact HB.out)⟩
        · replace c31 := Bool.eq_false_iff.mpr c31
          subst c31
          have H1 : ((lockbox_Format.f kj7 t293 t294 t295).bind fun bt309 => (arrearslaw20_LockboxTells.l0 kj7 t299 t303 bt309.1 0 a0_0 a0_1 l0_2 t293 t294 t295)) = some r := by rw [if_neg (show ¬ (false = true) by decide)] at H; exact H
          clear H
          have H := H1
          clear H1
          replace H := Option.bind_eq_some_iff.mp H
          obtain ⟨⟨t309, t312⟩, A320, H⟩ := H
          replace H : (arrearslaw20_LockboxTells.l0 kj7 t299 t303 t309 0 a0_0 a0_1 l0_2 t293 t294 t295) = some r := H
          have A32 := Aside0.mk A320
          clear A320
          have H' := Aside0.mk H
          clear H
          have hnb33 := NB298_292.out
          have hnc33 := NB292_298.out
          have hcz34_0 : wc.cell? ⟨gb298, 0, none⟩ = some (.int .i64 t293) := (blk_cell BK298.out 0).trans rfl
          have hcz34_1 : wc.cell? ⟨gb298, 1, none⟩ = some (.int .i64 t294) := (blk_cell BK298.out 1).trans rfl
          have hcz34_2 : wc.cell? ⟨gb298, 2, none⟩ = some (.slice Ao15 t295.length co15) := (blk_cell BK298.out 2).trans rfl
          have hfz34_0 := blk_frozen BK298.out 0
          have hfz34_1 := blk_frozen BK298.out 1
          have hfz34_2 := blk_frozen BK298.out 2
          go_wp2_with (first | ((with_reducible refine gate_callee (f := 16) rfl ?_); refine goesL_ (some 49) rfl rfl Tryd.func16 (by kernel_rfl) rfl #[.agg #[.int .i64 t293, .int .i64 t294, .slice Ao15 t295.length co15]] rfl (by (try simp only [List.map_toArray, List.map_cons, List.map_nil]); first | done | rfl | (simp only [List.length_drop, List.length_take]; rfl)) ?_; (with_reducible refine (lockbox_Format.calls kj7 t293 t294 _ _ t295 t309 t312 _ ?side1 ?side2 A32.out).mono ?_); (case side1 => repeat (first | exact (Kd.R_reads' HO_299002.out).2.2 | (with_reducible refine Kd.C_alloc ?_ _) | (with_reducible refine Kd.C_drewN ?_ _) | (with_reducible refine Kd.C_drew ?_))); (case side2 => exact (Kd.R_reads' HO_299002.out).2.1); rintro e w35 ⟨v310, rfl, ho0, hb⟩; refine ⟨_, rfl, ?_⟩; have n0_ := Aside0.mk (Kd.R_elder' (by (with_reducible repeat (first | apply Kd.R_alloc | apply Kd.R_drewN | apply Kd.R_drew)); exact HO_4.out) (Kd.R_base ho0) hb); have n1_ := Aside0.mk (Kd.R_elder' (by (with_reducible repeat (first | apply Kd.R_alloc | apply Kd.R_drewN | apply Kd.R_drew)); exact HO_6.out) (Kd.R_base ho0) hb); have n2_ := Aside0.mk (Kd.R_below (by (with_reducible repeat (first | apply Kd.R_alloc | apply Kd.R_drewN | apply Kd.R_drew)); exact HO_299002.out) hb); have n3_ := Aside0.mk (Kd.R_lower (Kd.R_new' (Kd.R_new' ho0 (Kd.R_lt (by (with_reducible repeat (first | apply Kd.R_alloc | apply Kd.R_drewN | apply Kd.R_drew)); exact HO_4.out))) (Kd.R_lt (by (with_reducible repeat (first | apply Kd.R_alloc | apply Kd.R_drewN | apply Kd.R_drew)); exact HO_6.out))) (below_size (by repeat (first | (with_reducible first | exact HB.out | apply below_alloc | apply pw_below_drewN | apply below_drew1 | refine below_set ?_ GE292.out | refine below_set ?_ GE298.out) | exact HB.out)))); have n4_ := Aside0.mk (blk_below (g := gb292) (o := .cells #[.int .i64 a0_0, .int .i64 a0_1, .slice A0_2 l0_2.length c0_2] 32 (0, 0)) (by (with_reducible repeat (first | refine blk_drewN ?_ _ | refine blk_drew ?_ | refine blk_alloc ?_ _)); exact BK292.out) hb); have n5_ := Aside0.mk (blk_below (g := gb298) (o := .cells #[.int .i64 t293, .int .i64 t294, .slice Ao15 t295.length co15] 32 (0, 0)) (by (with_reducible repeat (first | refine blk_drewN ?_ _ | refine blk_drew ?_ | refine blk_alloc ?_ _)); exact BK298.out) hb); have n6_ := Aside0.mk (below_step (by repeat (first | (with_reducible first | exact HB.out | apply below_alloc | apply pw_below_drewN | apply below_drew1 | refine below_set ?_ GE292.out | refine below_set ?_ GE298.out) | exact HB.out)) hb); clear HO_4; clear HO_6; clear HO_299002; clear BK292; clear BK298; clear HB; have HO_4 := n0_; have HO_6 := n1_; have HO_299002 := n2_; have HO311 := n3_; have BK292 := n4_; have BK298 := n5_; have HB := n6_; clear n0_ n1_ n2_ n3_ n4_ n5_ n6_; (try clear hb); (try clear hb2); (try clear hk); (try clear hi); (try clear ho0)))
          go_loopg [10] kj7 (fun kq v10 w' => ∃ (x4_2 : List Int) (x10_2 : Int), v10 = .int .i64 x10_2 ∧ Aside0 (arrearslaw20_LockboxTells.l0 kq x4_2 t303 t309 x10_2 a0_0 a0_1 l0_2 t293 t294 t295 = some r) ∧ Aside0 (kq ≤ kj7) ∧ Aside0 (Kd.R (Kd.int .u8) 5 w' w.heap.size (fun k_ => some k_ ≠ (v304 : Value).ownBlock ∧ some k_ ≠ (v310 : Value).ownBlock) v300 x4_2) ∧ Aside0 (Kd.R (Kd.int .u8) 5 w' w.heap.size (fun k_ => some k_ ≠ (v300 : Value).ownBlock ∧ some k_ ≠ (v310 : Value).ownBlock) v304 t303) ∧ Aside0 (Kd.R (Kd.int .u8) 5 w' w.heap.size (fun k_ => some k_ ≠ (v300 : Value).ownBlock ∧ some k_ ≠ (v304 : Value).ownBlock) v310 t309) ∧ Aside0 (Kd.R k50 50 w' w.heap.size (fun _ => True) (.slice Ao15 t295.length co15) t295) ∧ Aside0 (w'.heap[gb292]? = some (.cells #[.int .i64 a0_0, .int .i64 a0_1, (.slice A0_2 l0_2.length c0_2)] 32 (0, 0))) ∧ Aside0 (w'.heap[gb298]? = some (.cells #[.int .i64 t293, .int .i64 t294, (.slice Ao15 t295.length co15)] 32 (0, 0))) ∧ Aside0 (Below w.heap.size w w'))
          case atStart => exact ⟨(t299), (0), (by first | rfl | (simp; done) | (simp [*]; done)), H', ⟨Nat.le_refl _⟩, ⟨by (with_reducible repeat (first | apply Kd.R_alloc | apply Kd.R_drewN | apply Kd.R_drew)); exact HO_4.out⟩, ⟨by (with_reducible repeat (first | apply Kd.R_alloc | apply Kd.R_drewN | apply Kd.R_drew)); exact HO_6.out⟩, ⟨by (with_reducible repeat (first | apply Kd.R_alloc | apply Kd.R_drewN | apply Kd.R_drew)); exact Kd.R_mono HO311.out (fun _ hk => ⟨hk.1.2, hk.2⟩)⟩, ⟨by (with_reducible repeat (first | apply Kd.R_alloc | apply Kd.R_drewN | apply Kd.R_drew)); exact HO_299002.out⟩, ⟨by (with_reducible repeat (first | refine blk_drewN ?_ _ | refine blk_drew ?_ | refine blk_alloc ?_ _)); exact BK292.out⟩, ⟨by (with_reducible repeat (first | refine blk_drewN ?_ _ | refine blk_drew ?_ | refine blk_alloc ?_ _)); exact BK298.out⟩, ⟨by repeat (first | (with_reducible first | exact HB.out | apply below_alloc | apply pw_below_drewN | apply below_drew1 | refine below_set ?_ GE292.out | refine below_set ?_ GE298.out) | exact HB.out)⟩⟩
          case round =>
            clear H'
            try clear c1
            try clear c2
            try clear c2b0
            try clear c2b1
            try clear p2
            try clear c3
            try clear c5
            try clear c13
            try clear c15
            try clear c16
            try clear c17
            try clear c19
            try clear c19b0
            try clear c19b1
            try clear c19b2
            try clear c21
            try clear c25
            try clear c31
            try clear c33
            try clear hcz10_0
            try clear hcz10_1
            try clear hcz10_2
            try clear hcz14_0
            try clear hcz14_1
            try clear hcz14_2
            try clear hcz17_0
            try clear hcz17_1
            try clear hcz17_2
            try clear hcz26_0
            try clear hcz26_1
            try clear hcz26_2
            try clear hcz27_0
            try clear hcz27_1
            try clear hcz27_2
            try clear hcz34_0
            try clear hcz34_1
            try clear hcz34_2
            try clear hcz4_0
            try clear hcz4_1
            try clear hcz4_2
            try clear hfz10_0
            try clear hfz10_1
            try clear hfz10_2
            try clear hfz14_0
            try clear hfz14_1
            try clear hfz14_2
            try clear hfz17_0
            try clear hfz17_1
            try clear hfz17_2
            try clear hfz26_0
            try clear hfz26_1
            try clear hfz26_2
            try clear hfz27_0
            try clear hfz27_1
            try clear hfz27_2
            try clear hfz34_0
            try clear hfz34_1
            try clear hfz34_2
            try clear hfz4_0
            try clear hfz4_1
            try clear hfz4_2
            try clear p2
            obtain ⟨x4_2, x10_2, rfl, HA, HK2, HO_4, HO_6, HO_8, HO_299002, BK292, BK298, HB⟩ := hrel
            cases gk with
            | zero => exact absurd HA.out (by simp [arrearslaw20_LockboxTells.l0])
            | succ k2 =>
              have H := HA.out
              clear HA
              simp only [arrearslaw20_LockboxTells.l0] at H
              by_cases c36 : x10_2 < (x4_2.length : Int)
              · rw [if_pos c36] at H
                have c36b0 : decide (x10_2 < (x4_2.length : Int)) = true := decide_eq_true c36
                clear c36
                by_cases c37 : 0 ≤ x10_2
                · rw [if_pos c37] at H
                  have c37b0 : decide (0 ≤ x10_2) = true := decide_eq_true c37
                  clear c37
                  obtain ⟨y313, hy313⟩ : ∃ y_ : List Int, y_ = (x4_2.set (x10_2 : Int).toNat 211) := ⟨_, rfl⟩
                  replace H : (arrearslaw20_LockboxTells.l0 k2 y313 t303 t309 (wrap64 (x10_2 + 1)) a0_0 a0_1 l0_2 t293 t294 t295) = some r := by first | (rw [hy313]; with_reducible exact H) | (have H2_ := (Option.bind_some _ _).symm.trans H; rw [hy313]; with_reducible exact H2_) | (have H2_ := (Option.bind_some _ _).symm.trans H; with_reducible exact H2_) | with_reducible exact H | (rw [hy313]; exact H) | exact H
                  have Ny313 := Aside0.mk hy313
                  clear hy313
                  have H' := Aside0.mk H
                  clear H
                  obtain ⟨Ao39, co39, eo39⟩ := Kd.R_slice HO_4.out
                  subst eo39
                  have p38 : 0 ≤ (x10_2 : Int) := of_decide_eq_true (by first | (with_reducible assumption) | assumption)
                  have q38 : (x10_2 : Int) < ((x4_2.length : Int) : Int) := of_decide_eq_true (by first | (with_reducible assumption) | assumption)
                  obtain ⟨go38, co38, eo38, gb38, gl38, cl38, HG38⟩ := Kd.R_form HO_4.out (by omega)
                  (first | cases eo38 | (injection eo38 with ea_ en_ ec_; (first | subst ea_ | (injection ea_ with ea_; subst ea_)); subst ec_; clear en_))
                  have GB38 := Aside0.mk gb38
                  have GG38 := Aside0.mk HG38
                  clear gb38 gl38 HG38
                  obtain ⟨hx38_0, hf38_0⟩ := Kd.R_celln 0 HO_4.out (x10_2 : Int) p38 q38
                  replace p38 := eq_true p38
                  replace q38 := eq_true q38
                  have HP40 := Kd.R_putg HO_4.out (x10_2 : Int) 211
                  go_wp2_with (first | ((with_reducible refine gate_store (t := 5) (p := 60) rfl ?_); refine store_event (t := 5) (p := 60) (v := ?vo_w41) (w1 := (wr.setCell ⟨go38, (x10_2 : Int).toNat, none⟩ (.int .u8 211))) ?hg ?ho ?hn ?hr ?_; (case ho => rfl); (case hg => rfl); (case hn => rfl); (case hr => first | (go_simp; done) | (go_simp; rfl)); intro w41 hw; have hg : wr.grownBy w41 (some go38) := (by rw [hw]; exact HP40.2); have hp_ : Kd.R (Kd.int .u8) 5 w41 w.heap.size (fun k_ => some k_ ≠ (v304 : Value).ownBlock ∧ some k_ ≠ (v310 : Value).ownBlock) (.slice (some ⟨go38, 0, none⟩) x4_2.length co39) y313 := (by rw [hw, Ny313.out]; exact HP40.1); clear HP40; have n0_ := Aside0.mk (hp_); have n1_ := Aside0.mk (Kd.R_after (v := (.slice (some ⟨go38, 0, none⟩) x4_2.length co39)) (v1 := (.slice (some ⟨go38, 0, none⟩) x4_2.length co39)) (ok := (fun k_ => some k_ ≠ (v310 : Value).ownBlock)) (by (with_reducible repeat (first | apply Kd.R_alloc | apply Kd.R_drewN | apply Kd.R_drew)); exact Kd.R_mono HO_6.out (fun _ hk => ⟨hk.2, hk.1⟩)) hg (.inl rfl)); have n2_ := Aside0.mk (Kd.R_after (v := (.slice (some ⟨go38, 0, none⟩) x4_2.length co39)) (v1 := (.slice (some ⟨go38, 0, none⟩) x4_2.length co39)) (ok := (fun k_ => some k_ ≠ (v304 : Value).ownBlock)) (by (with_reducible repeat (first | apply Kd.R_alloc | apply Kd.R_drewN | apply Kd.R_drew)); exact Kd.R_mono HO_8.out (fun _ hk => ⟨hk.2, hk.1⟩)) hg (.inl rfl)); have n3_ := Aside0.mk (Kd.R_over' (v := (.slice (some ⟨go38, 0, none⟩) x4_2.length co39)) (by (with_reducible repeat (first | apply Kd.R_alloc | apply Kd.R_drewN | apply Kd.R_drew)); exact HO_299002.out) (Kd.R_typed HO_4.out) (by decide) hg); have n4_ := Aside0.mk (blk_grown (g := gb292) (o := .cells #[.int .i64 a0_0, .int .i64 a0_1, .slice A0_2 l0_2.length c0_2] 32 (0, 0)) (by (with_reducible repeat (first | refine blk_drewN ?_ _ | refine blk_drew ?_ | refine blk_alloc ?_ _)); exact BK292.out) hg (Kd.R_ne HO_4.out BK292.out (by decide))); have n5_ := Aside0.mk (blk_grown (g := gb298) (o := .cells #[.int .i64 t293, .int .i64 t294, .slice Ao15 t295.length co15] 32 (0, 0)) (by (with_reducible repeat (first | refine blk_drewN ?_ _ | refine blk_drew ?_ | refine blk_alloc ?_ _)); exact BK298.out) hg (Kd.R_ne HO_4.out BK298.out (by decide))); have n6_ := Aside0.mk ((by rw [hw]; exact below_set (HB.out) GB38.out : Below w.heap.size w w41)); clear HO_4; clear HO_6; clear HO_8; clear HO_299002; clear BK292; clear BK298; clear HB; have HO_4 := n0_; have HO_6 := n1_; have HO_8 := n2_; have HO_299002 := n3_; have BK292 := n4_; have BK298 := n5_; have HB := n6_; clear n0_ n1_ n2_ n3_ n4_ n5_ n6_; clear hg hw hp_))
                  go_roundg k2
                  case measure => have := HJ7.out; have := HK2.out; omega
                  case rel => exact ⟨(y313), (wrap64 (x10_2 + 1)), (by first | rfl | (simp; done) | (simp [*]; done)), H', ⟨by have := HJ7.out; have := HK2.out; omega⟩, ⟨by (with_reducible repeat (first | apply Kd.R_alloc | apply Kd.R_drewN | apply Kd.R_drew)); exact HO_4.out⟩, ⟨by (with_reducible repeat (first | apply Kd.R_alloc | apply Kd.R_drewN | apply Kd.R_drew)); exact Kd.R_mono HO_6.out (fun _ hk => ⟨hk.2, hk.1⟩)⟩, ⟨by (with_reducible repeat (first | apply Kd.R_alloc | apply Kd.R_drewN | apply Kd.R_drew)); exact Kd.R_mono HO_8.out (fun _ hk => ⟨hk.2, hk.1⟩)⟩, ⟨by (with_reducible repeat (first | apply Kd.R_alloc | apply Kd.R_drewN | apply Kd.R_drew)); exact HO_299002.out⟩, ⟨by (with_reducible repeat (first | refine blk_drewN ?_ _ | refine blk_drew ?_ | refine blk_alloc ?_ _)); exact BK292.out⟩, ⟨by (with_reducible repeat (first | refine blk_drewN ?_ _ | refine blk_drew ?_ | refine blk_alloc ?_ _)); exact BK298.out⟩, ⟨by repeat (first | (with_reducible first | exact HB.out | apply below_alloc | apply pw_below_drewN | apply below_drew1 | refine below_set ?_ GE292.out | refine below_set ?_ GE298.out) | exact HB.out)⟩⟩
                · rw [if_neg c37] at H
                  exact absurd H (by simp)
              · rw [if_neg c36] at H
                have c36b0 : decide (x10_2 < (x4_2.length : Int)) = false := decide_eq_false c36
                clear c36
                by_cases c42 : x4_2.length + 64 < 140737488355328
                · rw [if_pos c42] at H
                  have LMc42 := Aside0.mk c42
                  clear c42
                  obtain ⟨y314, hy314⟩ : ∃ y_ : List Int, y_ = (x4_2 ++ List.replicate 64 0) := ⟨_, rfl⟩
                  replace H : ((lockbox_Ops.f k2 t293 t294 t295).bind fun t317 => ((lockbox_Ops.f k2 t293 t294 t295).bind fun t320 => ((arrearsref20_Ops.f k2 a0_0 a0_1 l0_2).bind fun t323 => ((arrearslaw20_sameOps.f k2 t317 t323).bind fun t326 => (if t326 = true then ((arrearslaw20_sameBatch.f k2 t293 t294 t295 a0_0 a0_1 l0_2).bind fun t327 => (arrearslaw20_LockboxTells.j2 k2 t303 t309 y314 t317 t320 (!t327) a0_0 a0_1 l0_2 t293 t294 t295)) else (arrearslaw20_LockboxTells.j2 k2 t303 t309 y314 t317 t320 true a0_0 a0_1 l0_2 t293 t294 t295)))))) = some r := by first | (rw [hy314]; with_reducible exact H) | (have H2_ := (Option.bind_some _ _).symm.trans H; rw [hy314]; with_reducible exact H2_) | (have H2_ := (Option.bind_some _ _).symm.trans H; with_reducible exact H2_) | with_reducible exact H | (rw [hy314]; exact H) | exact H
                  have Ny314 := Aside0.mk hy314
                  clear hy314
                  replace H := Option.bind_eq_some_iff.mp H
                  obtain ⟨t317, A430, H⟩ := H
                  replace H : ((lockbox_Ops.f k2 t293 t294 t295).bind fun t320 => ((arrearsref20_Ops.f k2 a0_0 a0_1 l0_2).bind fun t323 => ((arrearslaw20_sameOps.f k2 t317 t323).bind fun t326 => (if t326 = true then ((arrearslaw20_sameBatch.f k2 t293 t294 t295 a0_0 a0_1 l0_2).bind fun t327 => (arrearslaw20_LockboxTells.j2 k2 t303 t309 y314 t317 t320 (!t327) a0_0 a0_1 l0_2 t293 t294 t295)) else (arrearslaw20_LockboxTells.j2 k2 t303 t309 y314 t317 t320 true a0_0 a0_1 l0_2 t293 t294 t295))))) = some r := H
                  have A43 := Aside0.mk A430
                  clear A430
                  replace H := Option.bind_eq_some_iff.mp H
                  obtain ⟨t320, A440, H⟩ := H
                  replace H : ((arrearsref20_Ops.f k2 a0_0 a0_1 l0_2).bind fun t323 => ((arrearslaw20_sameOps.f k2 t317 t323).bind fun t326 => (if t326 = true then ((arrearslaw20_sameBatch.f k2 t293 t294 t295 a0_0 a0_1 l0_2).bind fun t327 => (arrearslaw20_LockboxTells.j2 k2 t303 t309 y314 t317 t320 (!t327) a0_0 a0_1 l0_2 t293 t294 t295)) else (arrearslaw20_LockboxTells.j2 k2 t303 t309 y314 t317 t320 true a0_0 a0_1 l0_2 t293 t294 t295)))) = some r := H
                  have A44 := Aside0.mk A440
                  clear A440
                  have HC45 := Aside0.mk H
                  clear H
                  obtain ⟨Ao46, co46, eo46⟩ := Kd.R_slice HO_4.out
                  subst eo46
                  go_upto_region 16 with (first | (at_builtin; refine Kd.R_append_zeros (Kd.int .u8) (w0 := w) w.heap.size rfl (.tmp 61) (.const (.int .i64 64)) 26 3 5 (.int .u8 0) 1 rfl Tryd.underlying26 Tryd.underlying3 info5 rfl (by decide) (by omega) (.slice Ao46 x4_2.length co46) x4_2 0 (64 : Int) (fun k_ => some k_ ≠ (v304 : Value).ownBlock ∧ some k_ ≠ (v310 : Value).ownBlock) rfl rfl rfl ?aF ?aO (by omega) ?aB ?aS ?aL ?_; (case aB => exact (by repeat (first | (with_reducible first | exact HB.out | apply below_alloc | apply pw_below_drewN | apply below_drew1 | refine below_set ?_ GE292.out | refine below_set ?_ GE298.out) | exact HB.out))); (case aF => exact (fun k_ hk => ⟨Kd.fresh' (Kd.R_lt (by (with_reducible repeat (first | apply Kd.R_alloc | apply Kd.R_drewN | apply Kd.R_drew)); exact HO_6.out)) k_ hk, Kd.fresh' (Kd.R_lt (by (with_reducible repeat (first | apply Kd.R_alloc | apply Kd.R_drewN | apply Kd.R_drew)); exact HO_8.out)) k_ hk⟩)); (case aO => exact (by (with_reducible repeat (first | apply Kd.R_alloc | apply Kd.R_drewN | apply Kd.R_drew)); exact HO_4.out)); (case aS => exact (below_size (by repeat (first | (with_reducible first | exact HB.out | apply below_alloc | apply pw_below_drewN | apply below_drew1 | refine below_set ?_ GE292.out | refine below_set ?_ GE298.out) | exact HB.out)))); (case aL => have := LMc42.out; omega); intro v315 w47 ho hb hg hat; (first | rw [← Ny314.out] at ho | (simp only [Int.reduceToNat] at ho; rw [← Ny314.out] at ho)); have n0_ := Aside0.mk (Kd.R_after (ok := (fun k_ => some k_ ≠ (v310 : Value).ownBlock)) (by (with_reducible repeat (first | apply Kd.R_alloc | apply Kd.R_drewN | apply Kd.R_drew)); exact Kd.R_mono HO_6.out (fun _ hk => ⟨hk.2, hk.1⟩)) hg hat); have n1_ := Aside0.mk (Kd.R_after (ok := (fun k_ => some k_ ≠ (v304 : Value).ownBlock)) (by (with_reducible repeat (first | apply Kd.R_alloc | apply Kd.R_drewN | apply Kd.R_drew)); exact Kd.R_mono HO_8.out (fun _ hk => ⟨hk.2, hk.1⟩)) hg hat); have n2_ := Aside0.mk (Kd.R_over' (by (with_reducible repeat (first | apply Kd.R_alloc | apply Kd.R_drewN | apply Kd.R_drew)); exact HO_299002.out) (Kd.R_typed (by (with_reducible repeat (first | apply Kd.R_alloc | apply Kd.R_drewN | apply Kd.R_drew)); exact HO_4.out)) (by decide) hg); have n3_ := Aside0.mk (blk_grown (g := gb292) (o := .cells #[.int .i64 a0_0, .int .i64 a0_1, .slice A0_2 l0_2.length c0_2] 32 (0, 0)) (by (with_reducible repeat (first | refine blk_drewN ?_ _ | refine blk_drew ?_ | refine blk_alloc ?_ _)); exact BK292.out) hg (Kd.R_ne HO_4.out BK292.out (by decide))); have n4_ := Aside0.mk (blk_grown (g := gb298) (o := .cells #[.int .i64 t293, .int .i64 t294, .slice Ao15 t295.length co15] 32 (0, 0)) (by (with_reducible repeat (first | refine blk_drewN ?_ _ | refine blk_drew ?_ | refine blk_alloc ?_ _)); exact BK298.out) hg (Kd.R_ne HO_4.out BK298.out (by decide))); have n5_ := Aside0.mk (hb); have n6_ := Aside0.mk (ho); clear HO_6; clear HO_8; clear HO_299002; clear BK292; clear BK298; clear HB; clear HO_4; have HO_6 := n0_; have HO_8 := n1_; have HO_299002 := n2_; have BK292 := n3_; have BK298 := n4_; have HB := n5_; have HO316 := n6_; clear n0_ n1_ n2_ n3_ n4_ n5_ n6_; clear ho hb hg hat; have hnb48 := NB298_292.out; have hnc48 := NB292_298.out; have hcz49_0 : w47.cell? ⟨gb298, 0, none⟩ = some (.int .i64 t293) := (blk_cell BK298.out 0).trans rfl; have hcz49_1 : w47.cell? ⟨gb298, 1, none⟩ = some (.int .i64 t294) := (blk_cell BK298.out 1).trans rfl; have hcz49_2 : w47.cell? ⟨gb298, 2, none⟩ = some (.slice Ao15 t295.length co15) := (blk_cell BK298.out 2).trans rfl; have hfz49_0 := blk_frozen BK298.out 0; have hfz49_1 := blk_frozen BK298.out 1; have hfz49_2 := blk_frozen BK298.out 2) | ((with_reducible refine gate_callee (f := 20) rfl ?_); refine goesL_ (some 64) rfl rfl Tryd.func20 (by kernel_rfl) rfl #[.agg #[.int .i64 t293, .int .i64 t294, .slice Ao15 t295.length co15]] rfl (by (try simp only [List.map_toArray, List.map_cons, List.map_nil]); first | done | rfl | (simp only [List.length_drop, List.length_take]; rfl)) ?_; (with_reducible refine (lockbox_Ops.calls k2 t293 t294 _ _ t295 t317 _ ?side1 ?side2 A43.out).mono ?_); (case side1 => repeat (first | exact (Kd.R_reads' HO_299002.out).2.2 | (with_reducible refine Kd.C_alloc ?_ _) | (with_reducible refine Kd.C_drewN ?_ _) | (with_reducible refine Kd.C_drew ?_))); (case side2 => exact (Kd.R_reads' HO_299002.out).2.1); rintro e w50 ⟨v318, rfl, ho0, hb⟩; refine ⟨_, rfl, ?_⟩; have n0_ := Aside0.mk (Kd.R_below (by (with_reducible repeat (first | apply Kd.R_alloc | apply Kd.R_drewN | apply Kd.R_drew)); exact HO_6.out) hb); have n1_ := Aside0.mk (Kd.R_below (by (with_reducible repeat (first | apply Kd.R_alloc | apply Kd.R_drewN | apply Kd.R_drew)); exact HO_8.out) hb); have n2_ := Aside0.mk (Kd.R_below (by (with_reducible repeat (first | apply Kd.R_alloc | apply Kd.R_drewN | apply Kd.R_drew)); exact HO_299002.out) hb); have n3_ := Aside0.mk (Kd.R_below (by (with_reducible repeat (first | apply Kd.R_alloc | apply Kd.R_drewN | apply Kd.R_drew)); exact HO316.out) hb); have n4_ := Aside0.mk (Kd.R_lower ho0 (below_size (by repeat (first | (with_reducible first | exact HB.out | apply below_alloc | apply pw_below_drewN | apply below_drew1 | refine below_set ?_ GE292.out | refine below_set ?_ GE298.out) | exact HB.out)))); have n5_ := Aside0.mk (blk_below (g := gb292) (o := .cells #[.int .i64 a0_0, .int .i64 a0_1, .slice A0_2 l0_2.length c0_2] 32 (0, 0)) (by (with_reducible repeat (first | refine blk_drewN ?_ _ | refine blk_drew ?_ | refine blk_alloc ?_ _)); exact BK292.out) hb); have n6_ := Aside0.mk (blk_below (g := gb298) (o := .cells #[.int .i64 t293, .int .i64 t294, .slice Ao15 t295.length co15] 32 (0, 0)) (by (with_reducible repeat (first | refine blk_drewN ?_ _ | refine blk_drew ?_ | refine blk_alloc ?_ _)); exact BK298.out) hb); have n7_ := Aside0.mk (below_step (by repeat (first | (with_reducible first | exact HB.out | apply below_alloc | apply pw_below_drewN | apply below_drew1 | refine below_set ?_ GE292.out | refine below_set ?_ GE298.out) | exact HB.out)) hb); clear HO_6; clear HO_8; clear HO_299002; clear HO316; clear BK292; clear BK298; clear HB; have HO_6 := n0_; have HO_8 := n1_; have HO_299002 := n2_; have HO316 := n3_; have HO319 := n4_; have BK292 := n5_; have BK298 := n6_; have HB := n7_; clear n0_ n1_ n2_ n3_ n4_ n5_ n6_ n7_; (try clear hb); (try clear hb2); (try clear hk); (try clear hi); (try clear ho0); have hcz51_0 : w50.cell? ⟨gb298, 0, none⟩ = some (.int .i64 t293) := (blk_cell BK298.out 0).trans rfl; have hcz51_1 : w50.cell? ⟨gb298, 1, none⟩ = some (.int .i64 t294) := (blk_cell BK298.out 1).trans rfl; have hcz51_2 : w50.cell? ⟨gb298, 2, none⟩ = some (.slice Ao15 t295.length co15) := (blk_cell BK298.out 2).trans rfl; have hfz51_0 := blk_frozen BK298.out 0; have hfz51_1 := blk_frozen BK298.out 1; have hfz51_2 := blk_frozen BK298.out 2) | ((with_reducible refine gate_callee (f := 20) rfl ?_); refine goesL_ (some 66) rfl rfl Tryd.func20 (by kernel_rfl) rfl #[.agg #[.int .i64 t293, .int .i64 t294, .slice Ao15 t295.length co15]] rfl (by (try simp only [List.map_toArray, List.map_cons, List.map_nil]); first | done | rfl | (simp only [List.length_drop, List.length_take]; rfl)) ?_; (with_reducible refine (lockbox_Ops.calls k2 t293 t294 _ _ t295 t320 _ ?side1 ?side2 A44.out).mono ?_); (case side1 => repeat (first | exact (Kd.R_reads' HO_299002.out).2.2 | (with_reducible refine Kd.C_alloc ?_ _) | (with_reducible refine Kd.C_drewN ?_ _) | (with_reducible refine Kd.C_drew ?_))); (case side2 => exact (Kd.R_reads' HO_299002.out).2.1); rintro e w52 ⟨v321, rfl, ho0, hb⟩; refine ⟨_, rfl, ?_⟩; have n0_ := Aside0.mk (Kd.R_below (by (with_reducible repeat (first | apply Kd.R_alloc | apply Kd.R_drewN | apply Kd.R_drew)); exact HO_6.out) hb); have n1_ := Aside0.mk (Kd.R_below (by (with_reducible repeat (first | apply Kd.R_alloc | apply Kd.R_drewN | apply Kd.R_drew)); exact HO_8.out) hb); have n2_ := Aside0.mk (Kd.R_below (by (with_reducible repeat (first | apply Kd.R_alloc | apply Kd.R_drewN | apply Kd.R_drew)); exact HO_299002.out) hb); have n3_ := Aside0.mk (Kd.R_below (by (with_reducible repeat (first | apply Kd.R_alloc | apply Kd.R_drewN | apply Kd.R_drew)); exact HO316.out) hb); have n4_ := Aside0.mk (Kd.R_elder' (by (with_reducible repeat (first | apply Kd.R_alloc | apply Kd.R_drewN | apply Kd.R_drew)); exact HO319.out) (Kd.R_base ho0) hb); have n5_ := Aside0.mk (Kd.R_lower (Kd.R_new' ho0 (Kd.R_lt (by (with_reducible repeat (first | apply Kd.R_alloc | apply Kd.R_drewN | apply Kd.R_drew)); exact HO319.out))) (below_size (by repeat (first | (with_reducible first | exact HB.out | apply below_alloc | apply pw_below_drewN | apply below_drew1 | refine below_set ?_ GE292.out | refine below_set ?_ GE298.out) | exact HB.out)))); have n6_ := Aside0.mk (blk_below (g := gb292) (o := .cells #[.int .i64 a0_0, .int .i64 a0_1, .slice A0_2 l0_2.length c0_2] 32 (0, 0)) (by (with_reducible repeat (first | refine blk_drewN ?_ _ | refine blk_drew ?_ | refine blk_alloc ?_ _)); exact BK292.out) hb); have n7_ := Aside0.mk (blk_below (g := gb298) (o := .cells #[.int .i64 t293, .int .i64 t294, .slice Ao15 t295.length co15] 32 (0, 0)) (by (with_reducible repeat (first | refine blk_drewN ?_ _ | refine blk_drew ?_ | refine blk_alloc ?_ _)); exact BK298.out) hb); have n8_ := Aside0.mk (below_step (by repeat (first | (with_reducible first | exact HB.out | apply below_alloc | apply pw_below_drewN | apply below_drew1 | refine below_set ?_ GE292.out | refine below_set ?_ GE298.out) | exact HB.out)) hb); clear HO_6; clear HO_8; clear HO_299002; clear HO316; clear HO319; clear BK292; clear BK298; clear HB; have HO_6 := n0_; have HO_8 := n1_; have HO_299002 := n2_; have HO316 := n3_; have HO319 := n4_; have HO322 := n5_; have BK292 := n6_; have BK298 := n7_; have HB := n8_; clear n0_ n1_ n2_ n3_ n4_ n5_ n6_ n7_ n8_; (try clear hb); (try clear hb2); (try clear hk); (try clear hi); (try clear ho0)))
                  (try simp only [Act.put, List.setIfInBounds_toArray, List.set_cons_zero, List.set_cons_succ])
                  go_cut [77] (fun v77 wc => ∃ (kq : Nat) (x77_44 : Bool), v77 = .bool x77_44 ∧ Aside0 (arrearslaw20_LockboxTells.j2 kq t303 t309 y314 t317 t320 x77_44 a0_0 a0_1 l0_2 t293 t294 t295 = some r) ∧ Aside0 (kq ≤ k2) ∧ Aside0 (Kd.R (Kd.int .u8) 5 wc w.heap.size (fun k_ => some k_ ≠ (v310 : Value).ownBlock ∧ some k_ ≠ (v315 : Value).ownBlock) v304 t303) ∧ Aside0 (Kd.R (Kd.int .u8) 5 wc w.heap.size (fun k_ => some k_ ≠ (v304 : Value).ownBlock ∧ some k_ ≠ (v315 : Value).ownBlock) v310 t309) ∧ Aside0 (Kd.R (Kd.int .u8) 5 wc w.heap.size (fun k_ => some k_ ≠ (v304 : Value).ownBlock ∧ some k_ ≠ (v310 : Value).ownBlock) v315 y314) ∧ Aside0 (Kd.R k42 42 wc w.heap.size (fun k_ => some k_ ≠ (v321 : Value).ownBlock) v318 t317) ∧ Aside0 (Kd.R k42 42 wc w.heap.size (fun k_ => some k_ ≠ (v318 : Value).ownBlock) v321 t320) ∧ Aside0 (Kd.R k50 50 wc w.heap.size (fun _ => True) (.slice Ao15 t295.length co15) t295) ∧ Aside0 (wc.heap[gb292]? = some (.cells #[.int .i64 a0_0, .int .i64 a0_1, (.slice A0_2 l0_2.length c0_2)] 32 (0, 0))) ∧ Aside0 (wc.heap[gb298]? = some (.cells #[.int .i64 t293, .int .i64 t294, (.slice Ao15 t295.length co15)] 32 (0, 0))) ∧ Aside0 (Below w.heap.size w wc))
                  case first =>
                    have H := HC45.out
                    clear HC45
                    replace H := Option.bind_eq_some_iff.mp H
                    obtain ⟨t323, A530, H⟩ := H
                    replace H : ((arrearslaw20_sameOps.f k2 t317 t323).bind fun t326 => (if t326 = true then ((arrearslaw20_sameBatch.f k2 t293 t294 t295 a0_0 a0_1 l0_2).bind fun t327 => (arrearslaw20_LockboxTells.j2 k2 t303 t309 y314 t317 t320 (!t327) a0_0 a0_1 l0_2 t293 t294 t295)) else (arrearslaw20_LockboxTells.j2 k2 t303 t309 y314 t317 t320 true a0_0 a0_1 l0_2 t293 t294 t295))) = some r := H
                    have A53 := Aside0.mk A530
                    clear A530
                    replace H := Option.bind_eq_some_iff.mp H
                    obtain ⟨t326, A540, H⟩ := H
                    replace H : (if t326 = true then ((arrearslaw20_sameBatch.f k2 t293 t294 t295 a0_0 a0_1 l0_2).bind fun t327 => (arrearslaw20_LockboxTells.j2 k2 t303 t309 y314 t317 t320 (!t327) a0_0 a0_1 l0_2 t293 t294 t295)) else (arrearslaw20_LockboxTells.j2 k2 t303 t309 y314 t317 t320 true a0_0 a0_1 l0_2 t293 t294 t295)) = some r := H
                    have A54 := Aside0.mk A540
                    clear A540
                    by_cases c55 : t326 = true
                    · subst c55
                      have H1 : ((arrearslaw20_sameBatch.f k2 t293 t294 t295 a0_0 a0_1 l0_2).bind fun t327 => (arrearslaw20_LockboxTells.j2 k2 t303 t309 y314 t317 t320 (!t327) a0_0 a0_1 l0_2 t293 t294 t295)) = some r := by rw [if_pos rfl] at H; exact H
                      clear H
                      have H := H1
                      clear H1
                      replace H := Option.bind_eq_some_iff.mp H
                      obtain ⟨t327, A560, H⟩ := H
                      replace H : (arrearslaw20_LockboxTells.j2 k2 t303 t309 y314 t317 t320 (!t327) a0_0 a0_1 l0_2 t293 t294 t295) = some r := H
                      have A56 := Aside0.mk A560
                      clear A560
                      have H' := Aside0.mk H
                      clear H
                      have hnb57 := NB292_298.out
                      have hnc57 := NB298_292.out
                      have hcz58_0 : w52.cell? ⟨gb292, 0, none⟩ = some (.int .i64 a0_0) := (blk_cell BK292.out 0).trans rfl
                      have hcz58_1 : w52.cell? ⟨gb292, 1, none⟩ = some (.int .i64 a0_1) := (blk_cell BK292.out 1).trans rfl
                      have hcz58_2 : w52.cell? ⟨gb292, 2, none⟩ = some (.slice A0_2 l0_2.length c0_2) := (blk_cell BK292.out 2).trans rfl
                      have hfz58_0 := blk_frozen BK292.out 0
                      have hfz58_1 := blk_frozen BK292.out 1
                      have hfz58_2 := blk_frozen BK292.out 2
                      go_wp2_with (first | ((with_reducible refine gate_callee (f := 22) rfl ?_); refine goesL_ (some 69) rfl rfl Tryd.func22 (by kernel_rfl) rfl #[.agg #[.int .i64 a0_0, .int .i64 a0_1, .slice A0_2 l0_2.length c0_2]] rfl (by (try simp only [List.map_toArray, List.map_cons, List.map_nil]); first | done | rfl | (simp only [List.length_drop, List.length_take]; rfl)) ?_; (with_reducible refine (arrearsref20_Ops.calls k2 a0_0 a0_1 _ _ l0_2 t323 _ ?side1 ?side2 A53.out).mono ?_); (case side1 => repeat (first | exact (Kd.C_below HR0_2.out HB.out) | (with_reducible refine Kd.C_alloc ?_ _) | (with_reducible refine Kd.C_drewN ?_ _) | (with_reducible refine Kd.C_drew ?_))); (case side2 => exact HC0_2.out); rintro e w59 ⟨v324, rfl, ho0, hb⟩; refine ⟨_, rfl, ?_⟩; have n0_ := Aside0.mk (Kd.R_below (by (with_reducible repeat (first | apply Kd.R_alloc | apply Kd.R_drewN | apply Kd.R_drew)); exact HO_6.out) hb); have n1_ := Aside0.mk (Kd.R_below (by (with_reducible repeat (first | apply Kd.R_alloc | apply Kd.R_drewN | apply Kd.R_drew)); exact HO_8.out) hb); have n2_ := Aside0.mk (Kd.R_below (by (with_reducible repeat (first | apply Kd.R_alloc | apply Kd.R_drewN | apply Kd.R_drew)); exact HO_299002.out) hb); have n3_ := Aside0.mk (Kd.R_below (by (with_reducible repeat (first | apply Kd.R_alloc | apply Kd.R_drewN | apply Kd.R_drew)); exact HO316.out) hb); have n4_ := Aside0.mk (Kd.R_elder' (by (with_reducible repeat (first | apply Kd.R_alloc | apply Kd.R_drewN | apply Kd.R_drew)); exact HO319.out) (Kd.R_base ho0) hb); have n5_ := Aside0.mk (Kd.R_elder' (by (with_reducible repeat (first | apply Kd.R_alloc | apply Kd.R_drewN | apply Kd.R_drew)); exact HO322.out) (Kd.R_base ho0) hb); have n6_ := Aside0.mk (Kd.R_lower (Kd.R_new' (Kd.R_new' ho0 (Kd.R_lt (by (with_reducible repeat (first | apply Kd.R_alloc | apply Kd.R_drewN | apply Kd.R_drew)); exact HO319.out))) (Kd.R_lt (by (with_reducible repeat (first | apply Kd.R_alloc | apply Kd.R_drewN | apply Kd.R_drew)); exact HO322.out))) (below_size (by repeat (first | (with_reducible first | exact HB.out | apply below_alloc | apply pw_below_drewN | apply below_drew1 | refine below_set ?_ GE292.out | refine below_set ?_ GE298.out) | exact HB.out)))); have n7_ := Aside0.mk (blk_below (g := gb292) (o := .cells #[.int .i64 a0_0, .int .i64 a0_1, .slice A0_2 l0_2.length c0_2] 32 (0, 0)) (by (with_reducible repeat (first | refine blk_drewN ?_ _ | refine blk_drew ?_ | refine blk_alloc ?_ _)); exact BK292.out) hb); have n8_ := Aside0.mk (blk_below (g := gb298) (o := .cells #[.int .i64 t293, .int .i64 t294, .slice Ao15 t295.length co15] 32 (0, 0)) (by (with_reducible repeat (first | refine blk_drewN ?_ _ | refine blk_drew ?_ | refine blk_alloc ?_ _)); exact BK298.out) hb); have n9_ := Aside0.mk (below_step (by repeat (first | (with_reducible first | exact HB.out | apply below_alloc | apply pw_below_drewN | apply below_drew1 | refine below_set ?_ GE292.out | refine below_set ?_ GE298.out) | exact HB.out)) hb); clear HO_6; clear HO_8; clear HO_299002; clear HO316; clear HO319; clear HO322; clear BK292; clear BK298; clear HB; have HO_6 := n0_; have HO_8 := n1_; have HO_299002 := n2_; have HO316 := n3_; have HO319 := n4_; have HO322 := n5_; have HO325 := n6_; have BK292 := n7_; have BK298 := n8_; have HB := n9_; clear n0_ n1_ n2_ n3_ n4_ n5_ n6_ n7_ n8_ n9_; (try clear hb); (try clear hb2); (try clear hk); (try clear hi); (try clear ho0); obtain ⟨Ao60, co60, eo60⟩ := Kd.R_slice HO319.out; subst eo60; obtain ⟨Ao61, co61, eo61⟩ := Kd.R_slice HO325.out; subst eo61) | ((with_reducible refine gate_callee (f := 21) rfl ?_); refine goesL_ (some 70) rfl rfl Tryd.func21 (by kernel_rfl) rfl #[.slice Ao60 t317.length co60, .slice Ao61 t323.length co61] rfl (by (try simp only [List.map_toArray, List.map_cons, List.map_nil]); first | done | rfl | (simp only [List.length_drop, List.length_take]; rfl)) ?_; (with_reducible refine (arrearslaw20_sameOps.calls k2 _ _ t317 _ _ t323 true _ ?side1 ?side2 ?side3 ?side4 A54.out).mono ?_); (case side1 => repeat (first | exact (Kd.R_reads' HO319.out).2.2 | (with_reducible refine Kd.C_alloc ?_ _) | (with_reducible refine Kd.C_drewN ?_ _) | (with_reducible refine Kd.C_drew ?_))); (case side2 => exact (Kd.R_reads' HO319.out).2.1); (case side3 => repeat (first | exact (Kd.R_reads' HO325.out).2.2 | (with_reducible refine Kd.C_alloc ?_ _) | (with_reducible refine Kd.C_drewN ?_ _) | (with_reducible refine Kd.C_drew ?_))); (case side4 => exact (Kd.R_reads' HO325.out).2.1); rintro e w' ⟨rfl, ⟨nd, rfl⟩⟩; refine ⟨_, rfl, ?_⟩; have hcz62_0 : w59.cell? ⟨gb298, 0, none⟩ = some (.int .i64 t293) := (blk_cell BK298.out 0).trans rfl; have hcz62_1 : w59.cell? ⟨gb298, 1, none⟩ = some (.int .i64 t294) := (blk_cell BK298.out 1).trans rfl; have hcz62_2 : w59.cell? ⟨gb298, 2, none⟩ = some (.slice Ao15 t295.length co15) := (blk_cell BK298.out 2).trans rfl; have hfz62_0 := blk_frozen BK298.out 0; have hfz62_1 := blk_frozen BK298.out 1; have hfz62_2 := blk_frozen BK298.out 2; have hcz63_0 : w59.cell? ⟨gb292, 0, none⟩ = some (.int .i64 a0_0) := (blk_cell BK292.out 0).trans rfl; have hcz63_1 : w59.cell? ⟨gb292, 1, none⟩ = some (.int .i64 a0_1) := (blk_cell BK292.out 1).trans rfl; have hcz63_2 : w59.cell? ⟨gb292, 2, none⟩ = some (.slice A0_2 l0_2.length c0_2) := (blk_cell BK292.out 2).trans rfl; have hfz63_0 := blk_frozen BK292.out 0; have hfz63_1 := blk_frozen BK292.out 1; have hfz63_2 := blk_frozen BK292.out 2) | (go_at_call 19; (with_reducible refine (arrearslaw20_sameBatch.calls k2 t293 t294 _ _ t295 a0_0 a0_1 _ _ l0_2 t327 _ ?side1 ?side2 ?side3 ?side4 A56.out).mono ?_); (case side1 => repeat (first | exact (Kd.R_reads' HO_299002.out).2.2 | (with_reducible refine Kd.C_alloc ?_ _) | (with_reducible refine Kd.C_drewN ?_ _) | (with_reducible refine Kd.C_drew ?_))); (case side2 => exact (Kd.R_reads' HO_299002.out).2.1); (case side3 => repeat (first | exact (Kd.C_below HR0_2.out (by repeat (first | (with_reducible first | exact HB.out | apply below_alloc | apply pw_below_drewN | apply below_drew1 | refine below_set ?_ GE292.out | refine below_set ?_ GE298.out) | exact HB.out))) | (with_reducible refine Kd.C_alloc ?_ _) | (with_reducible refine Kd.C_drewN ?_ _) | (with_reducible refine Kd.C_drew ?_))); (case side4 => exact HC0_2.out); rintro e w64 ⟨rfl, hb⟩; have n0_ := Aside0.mk (Kd.R_below (by (with_reducible repeat (first | apply Kd.R_alloc | apply Kd.R_drewN | apply Kd.R_drew)); exact HO_6.out) hb); have n1_ := Aside0.mk (Kd.R_below (by (with_reducible repeat (first | apply Kd.R_alloc | apply Kd.R_drewN | apply Kd.R_drew)); exact HO_8.out) hb); have n2_ := Aside0.mk (Kd.R_below (by (with_reducible repeat (first | apply Kd.R_alloc | apply Kd.R_drewN | apply Kd.R_drew)); exact HO_299002.out) hb); have n3_ := Aside0.mk (Kd.R_below (by (with_reducible repeat (first | apply Kd.R_alloc | apply Kd.R_drewN | apply Kd.R_drew)); exact HO316.out) hb); have n4_ := Aside0.mk (Kd.R_below (by (with_reducible repeat (first | apply Kd.R_alloc | apply Kd.R_drewN | apply Kd.R_drew)); exact HO319.out) hb); have n5_ := Aside0.mk (Kd.R_below (by (with_reducible repeat (first | apply Kd.R_alloc | apply Kd.R_drewN | apply Kd.R_drew)); exact HO322.out) hb); have n6_ := Aside0.mk (Kd.R_below (by (with_reducible repeat (first | apply Kd.R_alloc | apply Kd.R_drewN | apply Kd.R_drew)); exact HO325.out) hb); have n7_ := Aside0.mk (blk_below (g := gb292) (o := .cells #[.int .i64 a0_0, .int .i64 a0_1, .slice A0_2 l0_2.length c0_2] 32 (0, 0)) (by (with_reducible repeat (first | refine blk_drewN ?_ _ | refine blk_drew ?_ | refine blk_alloc ?_ _)); exact BK292.out) hb); have n8_ := Aside0.mk (blk_below (g := gb298) (o := .cells #[.int .i64 t293, .int .i64 t294, .slice Ao15 t295.length co15] 32 (0, 0)) (by (with_reducible repeat (first | refine blk_drewN ?_ _ | refine blk_drew ?_ | refine blk_alloc ?_ _)); exact BK298.out) hb); have n9_ := Aside0.mk (below_step (by repeat (first | (with_reducible first | exact HB.out | apply below_alloc | apply pw_below_drewN | apply below_drew1 | refine below_set ?_ GE292.out | refine below_set ?_ GE298.out) | exact HB.out)) hb); clear HO_6; clear HO_8; clear HO_299002; clear HO316; clear HO319; clear HO322; clear HO325; clear BK292; clear BK298; clear HB; have HO_6 := n0_; have HO_8 := n1_; have HO_299002 := n2_; have HO316 := n3_; have HO319 := n4_; have HO322 := n5_; have HO325 := n6_; have BK292 := n7_; have BK298 := n8_; have HB := n9_; clear n0_ n1_ n2_ n3_ n4_ n5_ n6_ n7_ n8_ n9_; (try clear hb); (try clear hb2); (try clear hk); (try clear hi)))
                      go_meet
                      case rel => exact ⟨_, (!t327), (by first | rfl | (simp; done) | (simp [*]; done)), H', ⟨by have := HJ7.out; have := HK2.out; first | omega | exact Nat.le_refl _⟩, ⟨by (with_reducible repeat (first | apply Kd.R_alloc | apply Kd.R_drewN | apply Kd.R_drew)); exact HO_6.out⟩, ⟨by (with_reducible repeat (first | apply Kd.R_alloc | apply Kd.R_drewN | apply Kd.R_drew)); exact HO_8.out⟩, ⟨by (with_reducible repeat (first | apply Kd.R_alloc | apply Kd.R_drewN | apply Kd.R_drew)); exact HO316.out⟩, ⟨by (with_reducible repeat (first | apply Kd.R_alloc | apply Kd.R_drewN | apply Kd.R_drew)); exact Kd.R_mono HO319.out (fun _ hk => hk.1.2)⟩, ⟨by (with_reducible repeat (first | apply Kd.R_alloc | apply Kd.R_drewN | apply Kd.R_drew)); exact Kd.R_mono HO322.out (fun _ hk => hk.1.2)⟩, ⟨by (with_reducible repeat (first | apply Kd.R_alloc | apply Kd.R_drewN | apply Kd.R_drew)); exact HO_299002.out⟩, ⟨by (with_reducible repeat (first | refine blk_drewN ?_ _ | refine blk_drew ?_ | refine blk_alloc ?_ _)); exact BK292.out⟩, ⟨by (with_reducible repeat (first | refine blk_drewN ?_ _ | refine blk_drew ?_ | refine blk_alloc ?_ _)); exact BK298.out⟩, ⟨by repeat (first | (with_reducible first | exact HB.out | apply below_alloc | apply pw_below_drewN | apply below_drew1 | refine below_set ?_ GE292.out | refine below_set ?_ GE298.out) | exact HB.out)⟩⟩
                    · replace c55 := Bool.eq_false_iff.mpr c55
                      subst c55
                      have H1 : (arrearslaw20_LockboxTells.j2 k2 t303 t309 y314 t317 t320 true a0_0 a0_1 l0_2 t293 t294 t295) = some r := by rw [if_neg (show ¬ (false = true) by decide)] at H; exact H
                      clear H
                      have H := H1
                      clear H1
                      have H' := Aside0.mk H
                      clear H
                      have hnb65 := NB292_298.out
                      have hnc65 := NB298_292.out
                      have hcz66_0 : w52.cell? ⟨gb292, 0, none⟩ = some (.int .i64 a0_0) := (blk_cell BK292.out 0).trans rfl
                      have hcz66_1 : w52.cell? ⟨gb292, 1, none⟩ = some (.int .i64 a0_1) := (blk_cell BK292.out 1).trans rfl
                      have hcz66_2 : w52.cell? ⟨gb292, 2, none⟩ = some (.slice A0_2 l0_2.length c0_2) := (blk_cell BK292.out 2).trans rfl
                      have hfz66_0 := blk_frozen BK292.out 0
                      have hfz66_1 := blk_frozen BK292.out 1
                      have hfz66_2 := blk_frozen BK292.out 2
                      go_wp2_with (first | ((with_reducible refine gate_callee (f := 22) rfl ?_); refine goesL_ (some 69) rfl rfl Tryd.func22 (by kernel_rfl) rfl #[.agg #[.int .i64 a0_0, .int .i64 a0_1, .slice A0_2 l0_2.length c0_2]] rfl (by (try simp only [List.map_toArray, List.map_cons, List.map_nil]); first | done | rfl | (simp only [List.length_drop, List.length_take]; rfl)) ?_; (with_reducible refine (arrearsref20_Ops.calls k2 a0_0 a0_1 _ _ l0_2 t323 _ ?side1 ?side2 A53.out).mono ?_); (case side1 => repeat (first | exact (Kd.C_below HR0_2.out HB.out) | (with_reducible refine Kd.C_alloc ?_ _) | (with_reducible refine Kd.C_drewN ?_ _) | (with_reducible refine Kd.C_drew ?_))); (case side2 => exact HC0_2.out); rintro e w67 ⟨v324, rfl, ho0, hb⟩; refine ⟨_, rfl, ?_⟩; have n0_ := Aside0.mk (Kd.R_below (by (with_reducible repeat (first | apply Kd.R_alloc | apply Kd.R_drewN | apply Kd.R_drew)); exact HO_6.out) hb); have n1_ := Aside0.mk (Kd.R_below (by (with_reducible repeat (first | apply Kd.R_alloc | apply Kd.R_drewN | apply Kd.R_drew)); exact HO_8.out) hb); have n2_ := Aside0.mk (Kd.R_below (by (with_reducible repeat (first | apply Kd.R_alloc | apply Kd.R_drewN | apply Kd.R_drew)); exact HO_299002.out) hb); have n3_ := Aside0.mk (Kd.R_below (by (with_reducible repeat (first | apply Kd.R_alloc | apply Kd.R_drewN | apply Kd.R_drew)); exact HO316.out) hb); have n4_ := Aside0.mk (Kd.R_elder' (by (with_reducible repeat (first | apply Kd.R_alloc | apply Kd.R_drewN | apply Kd.R_drew)); exact HO319.out) (Kd.R_base ho0) hb); have n5_ := Aside0.mk (Kd.R_elder' (by (with_reducible repeat (first | apply Kd.R_alloc | apply Kd.R_drewN | apply Kd.R_drew)); exact HO322.out) (Kd.R_base ho0) hb); have n6_ := Aside0.mk (Kd.R_lower (Kd.R_new' (Kd.R_new' ho0 (Kd.R_lt (by (with_reducible repeat (first | apply Kd.R_alloc | apply Kd.R_drewN | apply Kd.R_drew)); exact HO319.out))) (Kd.R_lt (by (with_reducible repeat (first | apply Kd.R_alloc | apply Kd.R_drewN | apply Kd.R_drew)); exact HO322.out))) (below_size (by repeat (first | (with_reducible first | exact HB.out | apply below_alloc | apply pw_below_drewN | apply below_drew1 | refine below_set ?_ GE292.out | refine below_set ?_ GE298.out) | exact HB.out)))); have n7_ := Aside0.mk (blk_below (g := gb292) (o := .cells #[.int .i64 a0_0, .int .i64 a0_1, .slice A0_2 l0_2.length c0_2] 32 (0, 0)) (by (with_reducible repeat (first | refine blk_drewN ?_ _ | refine blk_drew ?_ | refine blk_alloc ?_ _)); exact BK292.out) hb); have n8_ := Aside0.mk (blk_below (g := gb298) (o := .cells #[.int .i64 t293, .int .i64 t294, .slice Ao15 t295.length co15] 32 (0, 0)) (by (with_reducible repeat (first | refine blk_drewN ?_ _ | refine blk_drew ?_ | refine blk_alloc ?_ _)); exact BK298.out) hb); have n9_ := Aside0.mk (below_step (by repeat (first | (with_reducible first | exact HB.out | apply below_alloc | apply pw_below_drewN | apply below_drew1 | refine below_set ?_ GE292.out | refine below_set ?_ GE298.out) | exact HB.out)) hb); clear HO_6; clear HO_8; clear HO_299002; clear HO316; clear HO319; clear HO322; clear BK292; clear BK298; clear HB; have HO_6 := n0_; have HO_8 := n1_; have HO_299002 := n2_; have HO316 := n3_; have HO319 := n4_; have HO322 := n5_; have HO325 := n6_; have BK292 := n7_; have BK298 := n8_; have HB := n9_; clear n0_ n1_ n2_ n3_ n4_ n5_ n6_ n7_ n8_ n9_; (try clear hb); (try clear hb2); (try clear hk); (try clear hi); (try clear ho0); obtain ⟨Ao68, co68, eo68⟩ := Kd.R_slice HO319.out; subst eo68; obtain ⟨Ao69, co69, eo69⟩ := Kd.R_slice HO325.out; subst eo69) | ((with_reducible refine gate_callee (f := 21) rfl ?_); refine goesL_ (some 70) rfl rfl Tryd.func21 (by kernel_rfl) rfl #[.slice Ao68 t317.length co68, .slice Ao69 t323.length co69] rfl (by (try simp only [List.map_toArray, List.map_cons, List.map_nil]); first | done | rfl | (simp only [List.length_drop, List.length_take]; rfl)) ?_; (with_reducible refine (arrearslaw20_sameOps.calls k2 _ _ t317 _ _ t323 false _ ?side1 ?side2 ?side3 ?side4 A54.out).mono ?_); (case side1 => repeat (first | exact (Kd.R_reads' HO319.out).2.2 | (with_reducible refine Kd.C_alloc ?_ _) | (with_reducible refine Kd.C_drewN ?_ _) | (with_reducible refine Kd.C_drew ?_))); (case side2 => exact (Kd.R_reads' HO319.out).2.1); (case side3 => repeat (first | exact (Kd.R_reads' HO325.out).2.2 | (with_reducible refine Kd.C_alloc ?_ _) | (with_reducible refine Kd.C_drewN ?_ _) | (with_reducible refine Kd.C_drew ?_))); (case side4 => exact (Kd.R_reads' HO325.out).2.1); rintro e w' ⟨rfl, ⟨nd, rfl⟩⟩; refine ⟨_, rfl, ?_⟩))
                      go_meet
                      case rel => exact ⟨_, (true), (by first | rfl | (simp; done) | (simp [*]; done)), H', ⟨by have := HJ7.out; have := HK2.out; first | omega | exact Nat.le_refl _⟩, ⟨by (with_reducible repeat (first | apply Kd.R_alloc | apply Kd.R_drewN | apply Kd.R_drew)); exact HO_6.out⟩, ⟨by (with_reducible repeat (first | apply Kd.R_alloc | apply Kd.R_drewN | apply Kd.R_drew)); exact HO_8.out⟩, ⟨by (with_reducible repeat (first | apply Kd.R_alloc | apply Kd.R_drewN | apply Kd.R_drew)); exact HO316.out⟩, ⟨by (with_reducible repeat (first | apply Kd.R_alloc | apply Kd.R_drewN | apply Kd.R_drew)); exact Kd.R_mono HO319.out (fun _ hk => hk.1.2)⟩, ⟨by (with_reducible repeat (first | apply Kd.R_alloc | apply Kd.R_drewN | apply Kd.R_drew)); exact Kd.R_mono HO322.out (fun _ hk => hk.1.2)⟩, ⟨by (with_reducible repeat (first | apply Kd.R_alloc | apply Kd.R_drewN | apply Kd.R_drew)); exact HO_299002.out⟩, ⟨by (with_reducible repeat (first | refine blk_drewN ?_ _ | refine blk_drew ?_ | refine blk_alloc ?_ _)); exact BK292.out⟩, ⟨by (with_reducible repeat (first | refine blk_drewN ?_ _ | refine blk_drew ?_ | refine blk_alloc ?_ _)); exact BK298.out⟩, ⟨by repeat (first | (with_reducible first | exact HB.out | apply below_alloc | apply pw_below_drewN | apply below_drew1 | refine below_set ?_ GE292.out | refine below_set ?_ GE298.out) | exact HB.out)⟩⟩
                  case rest =>
                    clear HC45
                    try clear c1
                    try clear c2
                    try clear c2b0
                    try clear c2b1
                    try clear p2
                    try clear c3
                    try clear p3
                    try clear q3
                    try clear hx3
                    try clear hf3
                    try clear c4
                    try clear c5
                    try clear c6
                    try clear p6
                    try clear c13
                    try clear c15
                    try clear c16
                    try clear c17
                    try clear c19
                    try clear c19b0
                    try clear c19b1
                    try clear c19b2
                    try clear c20
                    try clear c21
                    try clear c22
                    try clear c25
                    try clear c31
                    try clear c33
                    try clear c36
                    try clear c36b0
                    try clear c37
                    try clear c37b0
                    try clear p38
                    try clear q38
                    try clear hx38
                    try clear hf38
                    try clear c42
                    try clear c48
                    try clear c55
                    try clear c57
                    try clear p64
                    try clear c65
                    try clear hcz10_0
                    try clear hcz10_1
                    try clear hcz10_2
                    try clear hcz14_0
                    try clear hcz14_1
                    try clear hcz14_2
                    try clear hcz17_0
                    try clear hcz17_1
                    try clear hcz17_2
                    try clear hcz26_0
                    try clear hcz26_1
                    try clear hcz26_2
                    try clear hcz27_0
                    try clear hcz27_1
                    try clear hcz27_2
                    try clear hcz34_0
                    try clear hcz34_1
                    try clear hcz34_2
                    try clear hcz49_0
                    try clear hcz49_1
                    try clear hcz49_2
                    try clear hcz4_0
                    try clear hcz4_1
                    try clear hcz4_2
                    try clear hcz51_0
                    try clear hcz51_1
                    try clear hcz51_2
                    try clear hcz58_0
                    try clear hcz58_1
                    try clear hcz58_2
                    try clear hcz62_0
                    try clear hcz62_1
                    try clear hcz62_2
                    try clear hcz63_0
                    try clear hcz63_1
                    try clear hcz63_2
                    try clear hcz66_0
                    try clear hcz66_1
                    try clear hcz66_2
                    try clear hfz10_0
                    try clear hfz10_1
                    try clear hfz10_2
                    try clear hfz14_0
                    try clear hfz14_1
                    try clear hfz14_2
                    try clear hfz17_0
                    try clear hfz17_1
                    try clear hfz17_2
                    try clear hfz26_0
                    try clear hfz26_1
                    try clear hfz26_2
                    try clear hfz27_0
                    try clear hfz27_1
                    try clear hfz27_2
                    try clear hfz34_0
                    try clear hfz34_1
                    try clear hfz34_2
                    try clear hfz49_0
                    try clear hfz49_1
                    try clear hfz49_2
                    try clear hfz4_0
                    try clear hfz4_1
                    try clear hfz4_2
                    try clear hfz51_0
                    try clear hfz51_1
                    try clear hfz51_2
                    try clear hfz58_0
                    try clear hfz58_1
                    try clear hfz58_2
                    try clear hfz62_0
                    try clear hfz62_1
                    try clear hfz62_2
                    try clear hfz63_0
                    try clear hfz63_1
                    try clear hfz63_2
                    try clear hfz66_0
                    try clear hfz66_1
                    try clear hfz66_2
                    try clear hx38_0
                    try clear p2
                    try clear p38
                    try clear q38
                    obtain ⟨kq, x77_44, rfl, HA, HJ44, HO_6, HO_8, HO_11, HO_12, HO_13, HO_299002, BK292, BK298, HB⟩ := hcut
                    cases kq with
                    | zero => exact absurd HA.out (by simp [arrearslaw20_LockboxTells.j2])
                    | succ kj44 =>
                      have H := HA.out
                      clear HA
                      simp only [arrearslaw20_LockboxTells.j2] at H
                      by_cases c70 : x77_44 = true
                      · subst c70
                        have H1 : (some false) = some r := by rw [if_pos rfl] at H; exact H
                        clear H
                        have H := H1
                        clear H1
                        obtain rfl := Option.some.inj H
                        go_wp2
                        go_ret
                        exact ⟨by first | rfl | (simp [errW_none, errW_some] <;> rfl) | (simp [*, errW_none, errW_some] <;> rfl), by repeat (first | (with_reducible first | exact HB.out | apply below_alloc | apply pw_below_drewN | apply below_drew1 | refine below_set ?_ GE292.out | refine below_set ?_ GE298.out) | exact HB.out)⟩
                      · replace c70 := Bool.eq_false_iff.mpr c70
                        subst c70
                        have H1 : (arrearslaw20_LockboxTells.l1 kj44 t303 t309 y314 t317 t320 0 a0_0 a0_1 l0_2 t293 t294 t295) = some r := by rw [if_neg (show ¬ (false = true) by decide)] at H; exact H
                        clear H
                        have H := H1
                        clear H1
                        have H' := Aside0.mk H
                        clear H
                        go_wp2
                        go_loopg [14] kj44 (fun kq v14 w' => ∃ (x12_4 : List (S42)) (x14_4 : Int), v14 = .int .i64 x14_4 ∧ Aside0 (arrearslaw20_LockboxTells.l1 kq t303 t309 y314 x12_4 t320 x14_4 a0_0 a0_1 l0_2 t293 t294 t295 = some r) ∧ Aside0 (kq ≤ kj44) ∧ Aside0 (Kd.R (Kd.int .u8) 5 w' w.heap.size (fun k_ => some k_ ≠ (v310 : Value).ownBlock ∧ some k_ ≠ (v315 : Value).ownBlock) v304 t303) ∧ Aside0 (Kd.R (Kd.int .u8) 5 w' w.heap.size (fun k_ => some k_ ≠ (v304 : Value).ownBlock ∧ some k_ ≠ (v315 : Value).ownBlock) v310 t309) ∧ Aside0 (Kd.R (Kd.int .u8) 5 w' w.heap.size (fun k_ => some k_ ≠ (v304 : Value).ownBlock ∧ some k_ ≠ (v310 : Value).ownBlock) v315 y314) ∧ Aside0 (Kd.R k42 42 w' w.heap.size (fun k_ => some k_ ≠ (v321 : Value).ownBlock) v318 x12_4) ∧ Aside0 (Kd.R k42 42 w' w.heap.size (fun k_ => some k_ ≠ (v318 : Value).ownBlock) v321 t320) ∧ Aside0 (Kd.R k50 50 w' w.heap.size (fun _ => True) (.slice Ao15 t295.length co15) t295) ∧ Aside0 (w'.heap[gb292]? = some (.cells #[.int .i64 a0_0, .int .i64 a0_1, (.slice A0_2 l0_2.length c0_2)] 32 (0, 0))) ∧ Aside0 (w'.heap[gb298]? = some (.cells #[.int .i64 t293, .int .i64 t294, (.slice Ao15 t295.length co15)] 32 (0, 0))) ∧ Aside0 (Below w.heap.size w w'))
                        case atStart => exact ⟨(t317), (0), (by first | rfl | (simp; done) | (simp [*]; done)), H', ⟨Nat.le_refl _⟩, ⟨by (with_reducible repeat (first | apply Kd.R_alloc | apply Kd.R_drewN | apply Kd.R_drew)); exact HO_6.out⟩, ⟨by (with_reducible repeat (first | apply Kd.R_alloc | apply Kd.R_drewN | apply Kd.R_drew)); exact HO_8.out⟩, ⟨by (with_reducible repeat (first | apply Kd.R_alloc | apply Kd.R_drewN | apply Kd.R_drew)); exact HO_11.out⟩, ⟨by (with_reducible repeat (first | apply Kd.R_alloc | apply Kd.R_drewN | apply Kd.R_drew)); exact HO_12.out⟩, ⟨by (with_reducible repeat (first | apply Kd.R_alloc | apply Kd.R_drewN | apply Kd.R_drew)); exact HO_13.out⟩, ⟨by (with_reducible repeat (first | apply Kd.R_alloc | apply Kd.R_drewN | apply Kd.R_drew)); exact HO_299002.out⟩, ⟨by (with_reducible repeat (first | refine blk_drewN ?_ _ | refine blk_drew ?_ | refine blk_alloc ?_ _)); exact BK292.out⟩, ⟨by (with_reducible repeat (first | refine blk_drewN ?_ _ | refine blk_drew ?_ | refine blk_alloc ?_ _)); exact BK298.out⟩, ⟨by repeat (first | (with_reducible first | exact HB.out | apply below_alloc | apply pw_below_drewN | apply below_drew1 | refine below_set ?_ GE292.out | refine below_set ?_ GE298.out) | exact HB.out)⟩⟩
                        case round =>
                          clear H'
                          try clear c1
                          try clear c2
                          try clear c2b0
                          try clear c2b1
                          try clear p2
                          try clear c3
                          try clear p3
                          try clear q3
                          try clear hx3
                          try clear hf3
                          try clear c4
                          try clear c5
                          try clear c6
                          try clear p6
                          try clear c7
                          try clear c13
                          try clear c15
                          try clear c16
                          try clear c17
                          try clear c19
                          try clear c19b0
                          try clear c19b1
                          try clear c19b2
                          try clear c20
                          try clear c21
                          try clear c22
                          try clear c25
                          try clear c31
                          try clear c33
                          try clear c36
                          try clear c36b0
                          try clear c37
                          try clear c37b0
                          try clear p38
                          try clear q38
                          try clear hx38
                          try clear hf38
                          try clear c42
                          try clear c48
                          try clear c55
                          try clear c57
                          try clear p64
                          try clear c65
                          try clear c70
                          try clear hcz10_0
                          try clear hcz10_1
                          try clear hcz10_2
                          try clear hcz14_0
                          try clear hcz14_1
                          try clear hcz14_2
                          try clear hcz17_0
                          try clear hcz17_1
                          try clear hcz17_2
                          try clear hcz26_0
                          try clear hcz26_1
                          try clear hcz26_2
                          try clear hcz27_0
                          try clear hcz27_1
                          try clear hcz27_2
                          try clear hcz34_0
                          try clear hcz34_1
                          try clear hcz34_2
                          try clear hcz49_0
                          try clear hcz49_1
                          try clear hcz49_2
                          try clear hcz4_0
                          try clear hcz4_1
                          try clear hcz4_2
                          try clear hcz51_0
                          try clear hcz51_1
                          try clear hcz51_2
                          try clear hcz58_0
                          try clear hcz58_1
                          try clear hcz58_2
                          try clear hcz62_0
                          try clear hcz62_1
                          try clear hcz62_2
                          try clear hcz63_0
                          try clear hcz63_1
                          try clear hcz63_2
                          try clear hcz66_0
                          try clear hcz66_1
                          try clear hcz66_2
                          try clear hfz10_0
                          try clear hfz10_1
                          try clear hfz10_2
                          try clear hfz14_0
                          try clear hfz14_1
                          try clear hfz14_2
                          try clear hfz17_0
                          try clear hfz17_1
                          try clear hfz17_2
                          try clear hfz26_0
                          try clear hfz26_1
                          try clear hfz26_2
                          try clear hfz27_0
                          try clear hfz27_1
                          try clear hfz27_2
                          try clear hfz34_0
                          try clear hfz34_1
                          try clear hfz34_2
                          try clear hfz49_0
                          try clear hfz49_1
                          try clear hfz49_2
                          try clear hfz4_0
                          try clear hfz4_1
                          try clear hfz4_2
                          try clear hfz51_0
                          try clear hfz51_1
                          try clear hfz51_2
                          try clear hfz58_0
                          try clear hfz58_1
                          try clear hfz58_2
                          try clear hfz62_0
                          try clear hfz62_1
                          try clear hfz62_2
                          try clear hfz63_0
                          try clear hfz63_1
                          try clear hfz63_2
                          try clear hfz66_0
                          try clear hfz66_1
                          try clear hfz66_2
                          try clear hx38_0
                          try clear p2
                          try clear p3
                          try clear p38
                          try clear p6
                          try clear p64
                          try clear q3
                          try clear q38
                          obtain ⟨x12_4, x14_4, rfl, HA, HK4, HO_6, HO_8, HO_11, HO_12, HO_13, HO_299002, BK292, BK298, HB⟩ := hrel
                          cases gk with
                          | zero => exact absurd HA.out (by simp [arrearslaw20_LockboxTells.l1])
                          | succ k4 =>
                            have H := HA.out
                            clear HA
                            simp only [arrearslaw20_LockboxTells.l1] at H
                            by_cases c71 : x14_4 < (x12_4.length : Int)
                            · rw [if_pos c71] at H
                              have c71b0 : decide (x14_4 < (x12_4.length : Int)) = true := decide_eq_true c71
                              clear c71
                              by_cases c72 : 0 ≤ x14_4
                              · rw [if_pos c72] at H
                                have c72b0 : decide (0 ≤ x14_4) = true := decide_eq_true c72
                                clear c72
                                obtain ⟨y328, hy328⟩ : ∃ y_ : List (S42), y_ = (x12_4.set (x14_4 : Int).toNat (⟨(-7), 0, 0, 0, 0, 0, (⟨#[]⟩ : ByteArray)⟩ : S42)) := ⟨_, rfl⟩
                                replace H : (arrearslaw20_LockboxTells.l1 k4 t303 t309 y314 y328 t320 (wrap64 (x14_4 + 1)) a0_0 a0_1 l0_2 t293 t294 t295) = some r := by first | (rw [hy328]; with_reducible exact H) | (have H2_ := (Option.bind_some _ _).symm.trans H; rw [hy328]; with_reducible exact H2_) | (have H2_ := (Option.bind_some _ _).symm.trans H; with_reducible exact H2_) | with_reducible exact H | (rw [hy328]; exact H) | exact H
                                have Ny328 := Aside0.mk hy328
                                clear hy328
                                have H' := Aside0.mk H
                                clear H
                                obtain ⟨Ao74, co74, eo74⟩ := Kd.R_slice HO_12.out
                                subst eo74
                                have p73 : 0 ≤ (x14_4 : Int) := of_decide_eq_true (by first | (with_reducible assumption) | assumption)
                                have q73 : (x14_4 : Int) < ((x12_4.length : Int) : Int) := of_decide_eq_true (by first | (with_reducible assumption) | assumption)
                                obtain ⟨go73, co73, eo73, gb73, gl73, cl73, HG73⟩ := Kd.R_form HO_12.out (by omega)
                                (first | cases eo73 | (injection eo73 with ea_ en_ ec_; (first | subst ea_ | (injection ea_ with ea_; subst ea_)); subst ec_; clear en_))
                                have GB73 := Aside0.mk gb73
                                have GG73 := Aside0.mk HG73
                                clear gb73 gl73 HG73
                                obtain ⟨ce73, hcl73, hM73, hcc73, hfr73⟩ := Kd.R_elem HO_12.out z42 (x14_4 : Int) p73 q73
                                obtain rfl := k42_openM hM73
                                have hx73_0 : wr.cell? ⟨go73, (x14_4 : Int).toNat * 7, none⟩ = some (.int .i64 ((rd_T42 x12_4 x14_4).f0)) := hcc73 0 _ rfl
                                have hx73_1 : wr.cell? ⟨go73, (x14_4 : Int).toNat * 7 + 1, none⟩ = some (.int .i64 ((rd_T42 x12_4 x14_4).f1)) := hcc73 1 _ rfl
                                have hx73_2 : wr.cell? ⟨go73, (x14_4 : Int).toNat * 7 + 2, none⟩ = some (.int .i64 ((rd_T42 x12_4 x14_4).f2)) := hcc73 2 _ rfl
                                have hx73_3 : wr.cell? ⟨go73, (x14_4 : Int).toNat * 7 + 3, none⟩ = some (.int .i64 ((rd_T42 x12_4 x14_4).f3)) := hcc73 3 _ rfl
                                have hx73_4 : wr.cell? ⟨go73, (x14_4 : Int).toNat * 7 + 4, none⟩ = some (.int .i64 ((rd_T42 x12_4 x14_4).f4)) := hcc73 4 _ rfl
                                have hx73_5 : wr.cell? ⟨go73, (x14_4 : Int).toNat * 7 + 5, none⟩ = some (.int .i64 ((rd_T42 x12_4 x14_4).f5)) := hcc73 5 _ rfl
                                have hx73_6 : wr.cell? ⟨go73, (x14_4 : Int).toNat * 7 + 6, none⟩ = some (.string ((rd_T42 x12_4 x14_4).f6)) := hcc73 6 _ rfl
                                have hf73_0 : wr.frozen? ⟨go73, (x14_4 : Int).toNat * 7, none⟩ = false := hfr73 0
                                have hf73_1 : wr.frozen? ⟨go73, (x14_4 : Int).toNat * 7 + 1, none⟩ = false := hfr73 1
                                have hf73_2 : wr.frozen? ⟨go73, (x14_4 : Int).toNat * 7 + 2, none⟩ = false := hfr73 2
                                have hf73_3 : wr.frozen? ⟨go73, (x14_4 : Int).toNat * 7 + 3, none⟩ = false := hfr73 3
                                have hf73_4 : wr.frozen? ⟨go73, (x14_4 : Int).toNat * 7 + 4, none⟩ = false := hfr73 4
                                have hf73_5 : wr.frozen? ⟨go73, (x14_4 : Int).toNat * 7 + 5, none⟩ = false := hfr73 5
                                have hf73_6 : wr.frozen? ⟨go73, (x14_4 : Int).toNat * 7 + 6, none⟩ = false := hfr73 6
                                clear hcl73 hcc73 hfr73 hM73
                                replace p73 := eq_true p73
                                replace q73 := eq_true q73
                                have HX75 := Aside0.mk (show Kd.R k42 42 wr w.heap.size (fun k_ => some k_ ≠ (v321 : Value).ownBlock) (.slice (some ⟨go73, 0, none⟩) x12_4.length co74) x12_4 from (by (with_reducible repeat (first | apply Kd.R_alloc | apply Kd.R_drewN | apply Kd.R_drew)); exact HO_12.out))
                                obtain ⟨ce75, hcl75, hM75, hcc75, hfr75⟩ := Kd.R_elem HX75.out z42 (x14_4 : Int) (of_decide_eq_true (by first | (with_reducible assumption) | assumption)) (by have h_ : (x14_4 : Int) < ((x12_4.length : Int) : Int) := of_decide_eq_true (by first | (with_reducible assumption) | assumption); first | exact h_ | (have e_ := (Kd.R_reads' HO_12.out).1; omega) | simpa using h_)
                                obtain rfl := k42_openM hM75
                                have HP75 := Kd.R_seg HX75.out (x14_4 : Int) (of_decide_eq_true (by first | (with_reducible assumption) | assumption)) (by have h_ : (x14_4 : Int) < ((x12_4.length : Int) : Int) := of_decide_eq_true (by first | (with_reducible assumption) | assumption); first | exact h_ | (have e_ := (Kd.R_reads' HO_12.out).1; omega) | simpa using h_) (seg := [.int .i64 (-7), .int .i64 0, .int .i64 0, .int .i64 0, .int .i64 0, .int .i64 0, .string (⟨#[]⟩ : ByteArray)]) (j := 0) hcl75 hcc75 (show 7 ≤ 7 from by decide) (x' := (⟨(-7), 0, 0, 0, 0, 0, (⟨#[]⟩ : ByteArray)⟩ : S42)) (k42_mkM _ _ _ (⟨(-7), 0, 0, 0, 0, 0, (⟨#[]⟩ : ByteArray)⟩ : S42) ) (fun _ hk => hk)
                                have hx75_0 := hcc75 0 _ rfl
                                (try simp only [show (k42).sz = 7 from rfl, Nat.mul_one, Nat.add_zero] at hx75_0)
                                have hf75_0 := hfr75 0
                                (try simp only [show (k42).sz = 7 from rfl, Nat.mul_one, Nat.add_zero] at hf75_0)
                                have hx75_1 := hcc75 1 _ rfl
                                (try simp only [show (k42).sz = 7 from rfl, Nat.mul_one, Nat.add_zero] at hx75_1)
                                have hf75_1 := hfr75 1
                                (try simp only [show (k42).sz = 7 from rfl, Nat.mul_one, Nat.add_zero] at hf75_1)
                                have hx75_2 := hcc75 2 _ rfl
                                (try simp only [show (k42).sz = 7 from rfl, Nat.mul_one, Nat.add_zero] at hx75_2)
                                have hf75_2 := hfr75 2
                                (try simp only [show (k42).sz = 7 from rfl, Nat.mul_one, Nat.add_zero] at hf75_2)
                                have hx75_3 := hcc75 3 _ rfl
                                (try simp only [show (k42).sz = 7 from rfl, Nat.mul_one, Nat.add_zero] at hx75_3)
                                have hf75_3 := hfr75 3
                                (try simp only [show (k42).sz = 7 from rfl, Nat.mul_one, Nat.add_zero] at hf75_3)
                                have hx75_4 := hcc75 4 _ rfl
                                (try simp only [show (k42).sz = 7 from rfl, Nat.mul_one, Nat.add_zero] at hx75_4)
                                have hf75_4 := hfr75 4
                                (try simp only [show (k42).sz = 7 from rfl, Nat.mul_one, Nat.add_zero] at hf75_4)
                                have hx75_5 := hcc75 5 _ rfl
                                (try simp only [show (k42).sz = 7 from rfl, Nat.mul_one, Nat.add_zero] at hx75_5)
                                have hf75_5 := hfr75 5
                                (try simp only [show (k42).sz = 7 from rfl, Nat.mul_one, Nat.add_zero] at hf75_5)
                                have hx75_6 := hcc75 6 _ rfl
                                (try simp only [show (k42).sz = 7 from rfl, Nat.mul_one, Nat.add_zero] at hx75_6)
                                have hf75_6 := hfr75 6
                                (try simp only [show (k42).sz = 7 from rfl, Nat.mul_one, Nat.add_zero] at hf75_6)
                                clear hcl75 hcc75 hfr75 hM75
                                go_wp2_with (first | ((with_reducible refine gate_store (t := 42) (p := 87) rfl ?_); refine store_event (t := 42) (p := 87) (v := ?vo_w76) (w1 := (((((((wr.setCell ⟨go73, (x14_4 : Int).toNat * 7, none⟩ (.int .i64 (-7))).setCell ⟨go73, (x14_4 : Int).toNat * 7 + 1, none⟩ (.int .i64 0)).setCell ⟨go73, (x14_4 : Int).toNat * 7 + 2, none⟩ (.int .i64 0)).setCell ⟨go73, (x14_4 : Int).toNat * 7 + 3, none⟩ (.int .i64 0)).setCell ⟨go73, (x14_4 : Int).toNat * 7 + 4, none⟩ (.int .i64 0)).setCell ⟨go73, (x14_4 : Int).toNat * 7 + 5, none⟩ (.int .i64 0)).setCell ⟨go73, (x14_4 : Int).toNat * 7 + 6, none⟩ (.string (⟨#[]⟩ : ByteArray)))) ?hg ?ho ?hn ?hr ?_; (case ho => rfl); (case hg => rfl); (case hn => rfl); (case hr => first | (go_simp; done) | (go_simp; rfl)); intro w76 hw; have hg : wr.grownBy w76 (some go73) := (by rw [hw]; exact HP75.2); have hp_ : Kd.R k42 42 w76 w.heap.size (fun k_ => some k_ ≠ (v321 : Value).ownBlock) (.slice (some ⟨go73, 0, none⟩) x12_4.length co74) y328 := (by rw [hw, Ny328.out]; exact HP75.1); clear HP75; have n0_ := Aside0.mk (Kd.R_over' (v := (.slice (some ⟨go73, 0, none⟩) x12_4.length co74)) (by (with_reducible repeat (first | apply Kd.R_alloc | apply Kd.R_drewN | apply Kd.R_drew)); exact HO_6.out) (Kd.R_typed HO_12.out) (by decide) hg); have n1_ := Aside0.mk (Kd.R_over' (v := (.slice (some ⟨go73, 0, none⟩) x12_4.length co74)) (by (with_reducible repeat (first | apply Kd.R_alloc | apply Kd.R_drewN | apply Kd.R_drew)); exact HO_8.out) (Kd.R_typed HO_12.out) (by decide) hg); have n2_ := Aside0.mk (Kd.R_over' (v := (.slice (some ⟨go73, 0, none⟩) x12_4.length co74)) (by (with_reducible repeat (first | apply Kd.R_alloc | apply Kd.R_drewN | apply Kd.R_drew)); exact HO_11.out) (Kd.R_typed HO_12.out) (by decide) hg); have n3_ := Aside0.mk (hp_); have n4_ := Aside0.mk (Kd.R_after (v := (.slice (some ⟨go73, 0, none⟩) x12_4.length co74)) (v1 := (.slice (some ⟨go73, 0, none⟩) x12_4.length co74)) (ok := (fun _ => True)) (by (with_reducible repeat (first | apply Kd.R_alloc | apply Kd.R_drewN | apply Kd.R_drew)); exact Kd.R_mono HO_13.out (fun _ hk => ⟨trivial, hk⟩)) hg (.inl rfl)); have n5_ := Aside0.mk (Kd.R_over' (v := (.slice (some ⟨go73, 0, none⟩) x12_4.length co74)) (by (with_reducible repeat (first | apply Kd.R_alloc | apply Kd.R_drewN | apply Kd.R_drew)); exact HO_299002.out) (Kd.R_typed HO_12.out) (by decide) hg); have n6_ := Aside0.mk (blk_grown (g := gb292) (o := .cells #[.int .i64 a0_0, .int .i64 a0_1, .slice A0_2 l0_2.length c0_2] 32 (0, 0)) (by (with_reducible repeat (first | refine blk_drewN ?_ _ | refine blk_drew ?_ | refine blk_alloc ?_ _)); exact BK292.out) hg (Kd.R_ne HO_12.out BK292.out (by decide))); have n7_ := Aside0.mk (blk_grown (g := gb298) (o := .cells #[.int .i64 t293, .int .i64 t294, .slice Ao15 t295.length co15] 32 (0, 0)) (by (with_reducible repeat (first | refine blk_drewN ?_ _ | refine blk_drew ?_ | refine blk_alloc ?_ _)); exact BK298.out) hg (Kd.R_ne HO_12.out BK298.out (by decide))); have n8_ := Aside0.mk ((by rw [hw]; exact below_set (below_set (below_set (below_set (below_set (below_set (below_set (HB.out) GB73.out) GB73.out) GB73.out) GB73.out) GB73.out) GB73.out) GB73.out : Below w.heap.size w w76)); clear HO_6; clear HO_8; clear HO_11; clear HO_12; clear HO_13; clear HO_299002; clear BK292; clear BK298; clear HB; have HO_6 := n0_; have HO_8 := n1_; have HO_11 := n2_; have HO_12 := n3_; have HO_13 := n4_; have HO_299002 := n5_; have BK292 := n6_; have BK298 := n7_; have HB := n8_; clear n0_ n1_ n2_ n3_ n4_ n5_ n6_ n7_ n8_; clear hg hw hp_))
                                go_roundg k4
                                case measure => have := HJ7.out; have := HK2.out; have := HJ44.out; have := HK4.out; omega
                                case rel => exact ⟨(y328), (wrap64 (x14_4 + 1)), (by first | rfl | (simp; done) | (simp [*]; done)), H', ⟨by have := HJ7.out; have := HK2.out; have := HJ44.out; have := HK4.out; omega⟩, ⟨by (with_reducible repeat (first | apply Kd.R_alloc | apply Kd.R_drewN | apply Kd.R_drew)); exact HO_6.out⟩, ⟨by (with_reducible repeat (first | apply Kd.R_alloc | apply Kd.R_drewN | apply Kd.R_drew)); exact HO_8.out⟩, ⟨by (with_reducible repeat (first | apply Kd.R_alloc | apply Kd.R_drewN | apply Kd.R_drew)); exact HO_11.out⟩, ⟨by (with_reducible repeat (first | apply Kd.R_alloc | apply Kd.R_drewN | apply Kd.R_drew)); exact HO_12.out⟩, ⟨by (with_reducible repeat (first | apply Kd.R_alloc | apply Kd.R_drewN | apply Kd.R_drew)); exact Kd.R_mono HO_13.out (fun _ hk => hk.2)⟩, ⟨by (with_reducible repeat (first | apply Kd.R_alloc | apply Kd.R_drewN | apply Kd.R_drew)); exact HO_299002.out⟩, ⟨by (with_reducible repeat (first | refine blk_drewN ?_ _ | refine blk_drew ?_ | refine blk_alloc ?_ _)); exact BK292.out⟩, ⟨by (with_reducible repeat (first | refine blk_drewN ?_ _ | refine blk_drew ?_ | refine blk_alloc ?_ _)); exact BK298.out⟩, ⟨by repeat (first | (with_reducible first | exact HB.out | apply below_alloc | apply pw_below_drewN | apply below_drew1 | refine below_set ?_ GE292.out | refine below_set ?_ GE298.out) | exact HB.out)⟩⟩
                              · rw [if_neg c72] at H
                                exact absurd H (by simp)
                            · rw [if_neg c71] at H
                              have c71b0 : decide (x14_4 < (x12_4.length : Int)) = false := decide_eq_false c71
                              clear c71
                              by_cases c77 : x12_4.length + 64 < 2199023255552
                              · rw [if_pos c77] at H
                                have LMc77 := Aside0.mk c77
                                clear c77
                                obtain ⟨y329, hy329⟩ : ∃ y_ : List (S42), y_ = (x12_4 ++ List.replicate 64 z42) := ⟨_, rfl⟩
                                replace H : (if (y314.length : Int) = (wrap64 ((t303.length : Int) + 64)) then (arrearslaw20_LockboxTells.j4 k4 t303 t309 t320 ((y329.length : Int) != (wrap64 ((t320.length : Int) + 64))) a0_0 a0_1 l0_2 t293 t294 t295) else (arrearslaw20_LockboxTells.j4 k4 t303 t309 t320 true a0_0 a0_1 l0_2 t293 t294 t295)) = some r := by first | (rw [hy329]; with_reducible exact H) | (have H2_ := (Option.bind_some _ _).symm.trans H; rw [hy329]; with_reducible exact H2_) | (have H2_ := (Option.bind_some _ _).symm.trans H; with_reducible exact H2_) | with_reducible exact H | (rw [hy329]; exact H) | exact H
                                have Ny329 := Aside0.mk hy329
                                clear hy329
                                have HC78 := Aside0.mk H
                                clear H
                                obtain ⟨Ao79, co79, eo79⟩ := Kd.R_slice HO_12.out
                                subst eo79
                                go_upto_region 23 with (first | (at_builtin; refine Kd.R_append_zeros k42 (w0 := w) w.heap.size rfl (.tmp 88) (.const (.int .i64 64)) 38 3 42 (.agg #[(.int .i64 0), (.int .i64 0), (.int .i64 0), (.int .i64 0), (.int .i64 0), (.int .i64 0), (.string ⟨#[]⟩)]) 64 rfl Tryd.underlying38 Tryd.underlying3 info42 rfl (by decide) (by omega) (.slice Ao79 x12_4.length co79) x12_4 z42 (64 : Int) (fun k_ => some k_ ≠ (v321 : Value).ownBlock) rfl rfl (k42_mkM _ _ _ z42 ) ?aF ?aO (by omega) ?aB ?aS ?aL ?_; (case aB => exact (by repeat (first | (with_reducible first | exact HB.out | apply below_alloc | apply pw_below_drewN | apply below_drew1 | refine below_set ?_ GE292.out | refine below_set ?_ GE298.out) | exact HB.out))); (case aF => exact (fun k_ hk => Kd.fresh' (Kd.R_lt (by (with_reducible repeat (first | apply Kd.R_alloc | apply Kd.R_drewN | apply Kd.R_drew)); exact HO_13.out)) k_ hk)); (case aO => exact (by (with_reducible repeat (first | apply Kd.R_alloc | apply Kd.R_drewN | apply Kd.R_drew)); exact HO_12.out)); (case aS => exact (below_size (by repeat (first | (with_reducible first | exact HB.out | apply below_alloc | apply pw_below_drewN | apply below_drew1 | refine below_set ?_ GE292.out | refine below_set ?_ GE298.out) | exact HB.out)))); (case aL => have := LMc77.out; omega); intro v330 w80 ho hb hg hat; (first | rw [← Ny329.out] at ho | (simp only [Int.reduceToNat] at ho; rw [← Ny329.out] at ho)); have n0_ := Aside0.mk (Kd.R_over' (by (with_reducible repeat (first | apply Kd.R_alloc | apply Kd.R_drewN | apply Kd.R_drew)); exact HO_6.out) (Kd.R_typed (by (with_reducible repeat (first | apply Kd.R_alloc | apply Kd.R_drewN | apply Kd.R_drew)); exact HO_12.out)) (by decide) hg); have n1_ := Aside0.mk (Kd.R_over' (by (with_reducible repeat (first | apply Kd.R_alloc | apply Kd.R_drewN | apply Kd.R_drew)); exact HO_8.out) (Kd.R_typed (by (with_reducible repeat (first | apply Kd.R_alloc | apply Kd.R_drewN | apply Kd.R_drew)); exact HO_12.out)) (by decide) hg); have n2_ := Aside0.mk (Kd.R_over' (by (with_reducible repeat (first | apply Kd.R_alloc | apply Kd.R_drewN | apply Kd.R_drew)); exact HO_11.out) (Kd.R_typed (by (with_reducible repeat (first | apply Kd.R_alloc | apply Kd.R_drewN | apply Kd.R_drew)); exact HO_12.out)) (by decide) hg); have n3_ := Aside0.mk (Kd.R_after (ok := (fun _ => True)) (by (with_reducible repeat (first | apply Kd.R_alloc | apply Kd.R_drewN | apply Kd.R_drew)); exact Kd.R_mono HO_13.out (fun _ hk => ⟨trivial, hk⟩)) hg hat); have n4_ := Aside0.mk (Kd.R_over' (by (with_reducible repeat (first | apply Kd.R_alloc | apply Kd.R_drewN | apply Kd.R_drew)); exact HO_299002.out) (Kd.R_typed (by (with_reducible repeat (first | apply Kd.R_alloc | apply Kd.R_drewN | apply Kd.R_drew)); exact HO_12.out)) (by decide) hg); have n5_ := Aside0.mk (blk_grown (g := gb292) (o := .cells #[.int .i64 a0_0, .int .i64 a0_1, .slice A0_2 l0_2.length c0_2] 32 (0, 0)) (by (with_reducible repeat (first | refine blk_drewN ?_ _ | refine blk_drew ?_ | refine blk_alloc ?_ _)); exact BK292.out) hg (Kd.R_ne HO_12.out BK292.out (by decide))); have n6_ := Aside0.mk (blk_grown (g := gb298) (o := .cells #[.int .i64 t293, .int .i64 t294, .slice Ao15 t295.length co15] 32 (0, 0)) (by (with_reducible repeat (first | refine blk_drewN ?_ _ | refine blk_drew ?_ | refine blk_alloc ?_ _)); exact BK298.out) hg (Kd.R_ne HO_12.out BK298.out (by decide))); have n7_ := Aside0.mk (hb); have n8_ := Aside0.mk (ho); clear HO_6; clear HO_8; clear HO_11; clear HO_13; clear HO_299002; clear BK292; clear BK298; clear HB; clear HO_12; have HO_6 := n0_; have HO_8 := n1_; have HO_11 := n2_; have HO_13 := n3_; have HO_299002 := n4_; have BK292 := n5_; have BK298 := n6_; have HB := n7_; have HO331 := n8_; clear n0_ n1_ n2_ n3_ n4_ n5_ n6_ n7_ n8_; clear ho hb hg hat))
                                (try simp only [Act.put, List.setIfInBounds_toArray, List.set_cons_zero, List.set_cons_succ])
                                go_cut [103] (fun v103 wc => ∃ (kq : Nat) (x103_77 : Bool), v103 = .bool x103_77 ∧ Aside0 (arrearslaw20_LockboxTells.j4 kq t303 t309 t320 x103_77 a0_0 a0_1 l0_2 t293 t294 t295 = some r) ∧ Aside0 (kq ≤ k4) ∧ Aside0 (Kd.R (Kd.int .u8) 5 wc w.heap.size (fun k_ => some k_ ≠ (v310 : Value).ownBlock) v304 t303) ∧ Aside0 (Kd.R (Kd.int .u8) 5 wc w.heap.size (fun k_ => some k_ ≠ (v304 : Value).ownBlock) v310 t309) ∧ Aside0 (Kd.R k42 42 wc w.heap.size (fun _ => True) v321 t320) ∧ Aside0 (Kd.R k50 50 wc w.heap.size (fun _ => True) (.slice Ao15 t295.length co15) t295) ∧ Aside0 (wc.heap[gb292]? = some (.cells #[.int .i64 a0_0, .int .i64 a0_1, (.slice A0_2 l0_2.length c0_2)] 32 (0, 0))) ∧ Aside0 (wc.heap[gb298]? = some (.cells #[.int .i64 t293, .int .i64 t294, (.slice Ao15 t295.length co15)] 32 (0, 0))) ∧ Aside0 (Below w.heap.size w wc))
                                case first =>
                                  have H := HC78.out
                                  clear HC78
                                  by_cases c81 : (y314.length : Int) = (wrap64 ((t303.length : Int) + 64))
                                  · rw [if_pos c81] at H
                                    have c81b0 : ((y314.length : Int) == (wrap64 ((t303.length : Int) + 64))) = true := beq_iff_eq.mpr c81
                                    have c81b1 : ((y314.length : Int) != (wrap64 ((t303.length : Int) + 64))) = false := bne_eq_false_iff_eq.mpr c81
                                    clear c81
                                    (first | rw [c81b0] | (simp only [i64_w, i32_w]; rw [c81b0]) | skip)
                                    have H' := Aside0.mk H
                                    clear H
                                    obtain ⟨Ao82, co82, eo82⟩ := Kd.R_slice HO_11.out
                                    subst eo82
                                    obtain ⟨Ao83, co83, eo83⟩ := Kd.R_slice HO_6.out
                                    subst eo83
                                    obtain ⟨Ao84, co84, eo84⟩ := Kd.R_slice HO331.out
                                    subst eo84
                                    obtain ⟨Ao85, co85, eo85⟩ := Kd.R_slice HO_13.out
                                    subst eo85
                                    go_wp2
                                    go_meet
                                    case rel => exact ⟨_, (((y329.length : Int) != (wrap64 ((t320.length : Int) + 64)))), (by first | rfl | (simp; done) | (simp [*]; done)), H', ⟨by have := HJ7.out; have := HK2.out; have := HJ44.out; have := HK4.out; first | omega | exact Nat.le_refl _⟩, ⟨by (with_reducible repeat (first | apply Kd.R_alloc | apply Kd.R_drewN | apply Kd.R_drew)); exact Kd.R_mono HO_6.out (fun _ hk => hk.1)⟩, ⟨by (with_reducible repeat (first | apply Kd.R_alloc | apply Kd.R_drewN | apply Kd.R_drew)); exact Kd.R_mono HO_8.out (fun _ hk => hk.1)⟩, ⟨by (with_reducible repeat (first | apply Kd.R_alloc | apply Kd.R_drewN | apply Kd.R_drew)); exact Kd.R_mono HO_13.out (fun _ hk => trivial)⟩, ⟨by (with_reducible repeat (first | apply Kd.R_alloc | apply Kd.R_drewN | apply Kd.R_drew)); exact HO_299002.out⟩, ⟨by (with_reducible repeat (first | refine blk_drewN ?_ _ | refine blk_drew ?_ | refine blk_alloc ?_ _)); exact BK292.out⟩, ⟨by (with_reducible repeat (first | refine blk_drewN ?_ _ | refine blk_drew ?_ | refine blk_alloc ?_ _)); exact BK298.out⟩, ⟨by repeat (first | (with_reducible first | exact HB.out | apply below_alloc | apply pw_below_drewN | apply below_drew1 | refine below_set ?_ GE292.out | refine below_set ?_ GE298.out) | exact HB.out)⟩⟩
                                  · rw [if_neg c81] at H
                                    have c81b0 : ((y314.length : Int) == (wrap64 ((t303.length : Int) + 64))) = false := beq_eq_false_iff_ne.mpr c81
                                    have c81b1 : ((y314.length : Int) != (wrap64 ((t303.length : Int) + 64))) = true := bne_iff_ne.mpr c81
                                    (first | rw [c81b0] | (simp only [i64_w, i32_w]; rw [c81b0]) | skip)
                                    have H' := Aside0.mk H
                                    clear H
                                    obtain ⟨Ao86, co86, eo86⟩ := Kd.R_slice HO_11.out
                                    subst eo86
                                    obtain ⟨Ao87, co87, eo87⟩ := Kd.R_slice HO_6.out
                                    subst eo87
                                    go_wp2
                                    go_meet
                                    case rel => exact ⟨_, (true), (by first | rfl | (simp; done) | (simp [*]; done)), H', ⟨by have := HJ7.out; have := HK2.out; have := HJ44.out; have := HK4.out; first | omega | exact Nat.le_refl _⟩, ⟨by (with_reducible repeat (first | apply Kd.R_alloc | apply Kd.R_drewN | apply Kd.R_drew)); exact Kd.R_mono HO_6.out (fun _ hk => hk.1)⟩, ⟨by (with_reducible repeat (first | apply Kd.R_alloc | apply Kd.R_drewN | apply Kd.R_drew)); exact Kd.R_mono HO_8.out (fun _ hk => hk.1)⟩, ⟨by (with_reducible repeat (first | apply Kd.R_alloc | apply Kd.R_drewN | apply Kd.R_drew)); exact Kd.R_mono HO_13.out (fun _ hk => trivial)⟩, ⟨by (with_reducible repeat (first | apply Kd.R_alloc | apply Kd.R_drewN | apply Kd.R_drew)); exact HO_299002.out⟩, ⟨by (with_reducible repeat (first | refine blk_drewN ?_ _ | refine blk_drew ?_ | refine blk_alloc ?_ _)); exact BK292.out⟩, ⟨by (with_reducible repeat (first | refine blk_drewN ?_ _ | refine blk_drew ?_ | refine blk_alloc ?_ _)); exact BK298.out⟩, ⟨by repeat (first | (with_reducible first | exact HB.out | apply below_alloc | apply pw_below_drewN | apply below_drew1 | refine below_set ?_ GE292.out | refine below_set ?_ GE298.out) | exact HB.out)⟩⟩
                                case rest =>
                                  clear HC78
                                  try clear c1
                                  try clear c2
                                  try clear c2b0
                                  try clear c2b1
                                  try clear p2
                                  try clear c3
                                  try clear p3
                                  try clear q3
                                  try clear hx3
                                  try clear hf3
                                  try clear c4
                                  try clear c5
                                  try clear c6
                                  try clear p6
                                  try clear c7
                                  try clear p7
                                  try clear q7
                                  try clear hx7
                                  try clear hf7
                                  try clear c8
                                  try clear c13
                                  try clear c15
                                  try clear c16
                                  try clear c17
                                  try clear c19
                                  try clear c19b0
                                  try clear c19b1
                                  try clear c19b2
                                  try clear c20
                                  try clear c21
                                  try clear c22
                                  try clear c25
                                  try clear c31
                                  try clear c33
                                  try clear c36
                                  try clear c36b0
                                  try clear c37
                                  try clear c37b0
                                  try clear p38
                                  try clear q38
                                  try clear hx38
                                  try clear hf38
                                  try clear c42
                                  try clear c48
                                  try clear c55
                                  try clear c57
                                  try clear p64
                                  try clear c65
                                  try clear c70
                                  try clear c71
                                  try clear c71b0
                                  try clear c72
                                  try clear c72b0
                                  try clear c73
                                  try clear p73
                                  try clear q73
                                  try clear hx73
                                  try clear hf73
                                  try clear c75
                                  try clear hx75
                                  try clear hf75
                                  try clear c77
                                  try clear c81
                                  try clear c81b0
                                  try clear c81b1
                                  try clear hcz10_0
                                  try clear hcz10_1
                                  try clear hcz10_2
                                  try clear hcz14_0
                                  try clear hcz14_1
                                  try clear hcz14_2
                                  try clear hcz17_0
                                  try clear hcz17_1
                                  try clear hcz17_2
                                  try clear hcz26_0
                                  try clear hcz26_1
                                  try clear hcz26_2
                                  try clear hcz27_0
                                  try clear hcz27_1
                                  try clear hcz27_2
                                  try clear hcz34_0
                                  try clear hcz34_1
                                  try clear hcz34_2
                                  try clear hcz49_0
                                  try clear hcz49_1
                                  try clear hcz49_2
                                  try clear hcz4_0
                                  try clear hcz4_1
                                  try clear hcz4_2
                                  try clear hcz51_0
                                  try clear hcz51_1
                                  try clear hcz51_2
                                  try clear hcz58_0
                                  try clear hcz58_1
                                  try clear hcz58_2
                                  try clear hcz62_0
                                  try clear hcz62_1
                                  try clear hcz62_2
                                  try clear hcz63_0
                                  try clear hcz63_1
                                  try clear hcz63_2
                                  try clear hcz66_0
                                  try clear hcz66_1
                                  try clear hcz66_2
                                  try clear hfz10_0
                                  try clear hfz10_1
                                  try clear hfz10_2
                                  try clear hfz14_0
                                  try clear hfz14_1
                                  try clear hfz14_2
                                  try clear hfz17_0
                                  try clear hfz17_1
                                  try clear hfz17_2
                                  try clear hfz26_0
                                  try clear hfz26_1
                                  try clear hfz26_2
                                  try clear hfz27_0
                                  try clear hfz27_1
                                  try clear hfz27_2
                                  try clear hfz34_0
                                  try clear hfz34_1
                                  try clear hfz34_2
                                  try clear hfz49_0
                                  try clear hfz49_1
                                  try clear hfz49_2
                                  try clear hfz4_0
                                  try clear hfz4_1
                                  try clear hfz4_2
                                  try clear hfz51_0
                                  try clear hfz51_1
                                  try clear hfz51_2
                                  try clear hfz58_0
                                  try clear hfz58_1
                                  try clear hfz58_2
                                  try clear hfz62_0
                                  try clear hfz62_1
                                  try clear hfz62_2
                                  try clear hfz63_0
                                  try clear hfz63_1
                                  try clear hfz63_2
                                  try clear hfz66_0
                                  try clear hfz66_1
                                  try clear hfz66_2
                                  try clear hx38_0
                                  try clear hx73_0
                                  try clear hx73_1
                                  try clear hx73_2
                                  try clear hx73_3
                                  try clear hx73_4
                                  try clear hx73_5
                                  try clear hx73_6
                                  try clear hx75_0
                                  try clear hx75_1
                                  try clear hx75_2
                                  try clear hx75_3
                                  try clear hx75_4
                                  try clear hx75_5
                                  try clear hx75_6
                                  try clear p2
                                  try clear p3
                                  try clear p38
                                  try clear p6
                                  try clear p64
                                  try clear p73
                                  try clear q3
                                  try clear q38
                                  try clear q73
                                  obtain ⟨kq, x103_77, rfl, HA, HJ77, HO_6, HO_8, HO_13, HO_299002, BK292, BK298, HB⟩ := hcut
                                  cases kq with
                                  | zero => exact absurd HA.out (by simp [arrearslaw20_LockboxTells.j4])
                                  | succ kj77 =>
                                    have H := HA.out
                                    clear HA
                                    simp only [arrearslaw20_LockboxTells.j4] at H
                                    by_cases c88 : x103_77 = true
                                    · subst c88
                                      have H1 : (some false) = some r := by rw [if_pos rfl] at H; exact H
                                      clear H
                                      have H := H1
                                      clear H1
                                      obtain rfl := Option.some.inj H
                                      go_wp2
                                      go_ret
                                      exact ⟨by first | rfl | (simp [errW_none, errW_some] <;> rfl) | (simp [*, errW_none, errW_some] <;> rfl), by repeat (first | (with_reducible first | exact HB.out | apply below_alloc | apply pw_below_drewN | apply below_drew1 | refine below_set ?_ GE292.out | refine below_set ?_ GE298.out) | exact HB.out)⟩
                                    · replace c88 := Bool.eq_false_iff.mpr c88
                                      subst c88
                                      have H1 : ((arrearslaw19_SameBytes.f t309 t303).bind fun t332 => (if t332 = true then ((arrearsref20_Ops.f kj77 a0_0 a0_1 l0_2).bind fun t333 => ((arrearslaw20_sameOps.f kj77 t320 t333).bind fun t336 => (if t336 = true then ((arrearslaw20_anew.f kj77 t293 t294 t295).bind fun bt337 => (some bt337.1)) else (some false)))) else (some false))) = some r := by rw [if_neg (show ¬ (false = true) by decide)] at H; exact H
                                      clear H
                                      have H := H1
                                      clear H1
                                      replace H := Option.bind_eq_some_iff.mp H
                                      obtain ⟨t332, A890, H⟩ := H
                                      replace H : (if t332 = true then ((arrearsref20_Ops.f kj77 a0_0 a0_1 l0_2).bind fun t333 => ((arrearslaw20_sameOps.f kj77 t320 t333).bind fun t336 => (if t336 = true then ((arrearslaw20_anew.f kj77 t293 t294 t295).bind fun bt337 => (some bt337.1)) else (some false)))) else (some false)) = some r := H
                                      have A89 := Aside0.mk A890
                                      clear A890
                                      by_cases c90 : t332 = true
                                      · subst c90
                                        have H1 : ((arrearsref20_Ops.f kj77 a0_0 a0_1 l0_2).bind fun t333 => ((arrearslaw20_sameOps.f kj77 t320 t333).bind fun t336 => (if t336 = true then ((arrearslaw20_anew.f kj77 t293 t294 t295).bind fun bt337 => (some bt337.1)) else (some false)))) = some r := by rw [if_pos rfl] at H; exact H
                                        clear H
                                        have H := H1
                                        clear H1
                                        replace H := Option.bind_eq_some_iff.mp H
                                        obtain ⟨t333, A910, H⟩ := H
                                        replace H : ((arrearslaw20_sameOps.f kj77 t320 t333).bind fun t336 => (if t336 = true then ((arrearslaw20_anew.f kj77 t293 t294 t295).bind fun bt337 => (some bt337.1)) else (some false))) = some r := H
                                        have A91 := Aside0.mk A910
                                        clear A910
                                        replace H := Option.bind_eq_some_iff.mp H
                                        obtain ⟨t336, A920, H⟩ := H
                                        replace H : (if t336 = true then ((arrearslaw20_anew.f kj77 t293 t294 t295).bind fun bt337 => (some bt337.1)) else (some false)) = some r := H
                                        have A92 := Aside0.mk A920
                                        clear A920
                                        by_cases c93 : t336 = true
                                        · subst c93
                                          have H1 : ((arrearslaw20_anew.f kj77 t293 t294 t295).bind fun bt337 => (some bt337.1)) = some r := by rw [if_pos rfl] at H; exact H
                                          clear H
                                          have H := H1
                                          clear H1
                                          replace H := Option.bind_eq_some_iff.mp H
                                          obtain ⟨⟨t337, t338⟩, A940, H⟩ := H
                                          replace H : (some t337) = some r := H
                                          have A94 := Aside0.mk A940
                                          clear A940
                                          obtain rfl := Option.some.inj H
                                          obtain ⟨Ao95, co95, eo95⟩ := Kd.R_slice HO_8.out
                                          subst eo95
                                          obtain ⟨Ao96, co96, eo96⟩ := Kd.R_slice HO_6.out
                                          subst eo96
                                          go_wp2_with (first | ((with_reducible refine gate_callee (f := 18) rfl ?_); refine goesL_ (some 106) rfl rfl Tryd.func18 (by kernel_rfl) rfl #[.slice Ao95 t309.length co95, .slice Ao96 t303.length co96] rfl (by (try simp only [List.map_toArray, List.map_cons, List.map_nil]); first | done | rfl | (simp only [List.length_drop, List.length_take]; rfl)) ?_; (with_reducible refine (arrearslaw19_SameBytes.calls _ _ t309 _ _ t303 true _ ?side1 ?side2 ?side3 ?side4 A89.out).mono ?_); (case side1 => repeat (first | exact (Kd.R_reads' HO_8.out).2.2 | (with_reducible refine Kd.C_alloc ?_ _) | (with_reducible refine Kd.C_drewN ?_ _) | (with_reducible refine Kd.C_drew ?_))); (case side2 => exact (Kd.R_reads' HO_8.out).2.1); (case side3 => repeat (first | exact (Kd.R_reads' HO_6.out).2.2 | (with_reducible refine Kd.C_alloc ?_ _) | (with_reducible refine Kd.C_drewN ?_ _) | (with_reducible refine Kd.C_drew ?_))); (case side4 => exact (Kd.R_reads' HO_6.out).2.1); rintro e w' ⟨rfl, ⟨nd, rfl⟩⟩; refine ⟨_, rfl, ?_⟩; have hnb97 := NB292_298.out; have hnc97 := NB298_292.out; have hcz98_0 : wc.cell? ⟨gb292, 0, none⟩ = some (.int .i64 a0_0) := (blk_cell BK292.out 0).trans rfl; have hcz98_1 : wc.cell? ⟨gb292, 1, none⟩ = some (.int .i64 a0_1) := (blk_cell BK292.out 1).trans rfl; have hcz98_2 : wc.cell? ⟨gb292, 2, none⟩ = some (.slice A0_2 l0_2.length c0_2) := (blk_cell BK292.out 2).trans rfl; have hfz98_0 := blk_frozen BK292.out 0; have hfz98_1 := blk_frozen BK292.out 1; have hfz98_2 := blk_frozen BK292.out 2) | (go_at_call 22; (with_reducible refine (arrearsref20_Ops.calls kj77 a0_0 a0_1 _ _ l0_2 t333 _ ?side1 ?side2 A91.out).mono ?_); (case side1 => repeat (first | exact (Kd.C_below HR0_2.out (by repeat (first | (with_reducible first | exact HB.out | apply below_alloc | apply pw_below_drewN | apply below_drew1 | refine below_set ?_ GE292.out | refine below_set ?_ GE298.out) | exact HB.out))) | (with_reducible refine Kd.C_alloc ?_ _) | (with_reducible refine Kd.C_drewN ?_ _) | (with_reducible refine Kd.C_drew ?_))); (case side2 => exact HC0_2.out); rintro e w99 ⟨v334, rfl, ho0, hb⟩; have n0_ := Aside0.mk (Kd.R_below (by (with_reducible repeat (first | apply Kd.R_alloc | apply Kd.R_drewN | apply Kd.R_drew)); exact HO_6.out) hb); have n1_ := Aside0.mk (Kd.R_below (by (with_reducible repeat (first | apply Kd.R_alloc | apply Kd.R_drewN | apply Kd.R_drew)); exact HO_8.out) hb); have n2_ := Aside0.mk (Kd.R_elder' (by (with_reducible repeat (first | apply Kd.R_alloc | apply Kd.R_drewN | apply Kd.R_drew)); exact HO_13.out) (Kd.R_base ho0) hb); have n3_ := Aside0.mk (Kd.R_below (by (with_reducible repeat (first | apply Kd.R_alloc | apply Kd.R_drewN | apply Kd.R_drew)); exact HO_299002.out) hb); have n4_ := Aside0.mk (Kd.R_lower (Kd.R_new' ho0 (Kd.R_lt (by (with_reducible repeat (first | apply Kd.R_alloc | apply Kd.R_drewN | apply Kd.R_drew)); exact HO_13.out))) (below_size (by repeat (first | (with_reducible first | exact HB.out | apply below_alloc | apply pw_below_drewN | apply below_drew1 | refine below_set ?_ GE292.out | refine below_set ?_ GE298.out) | exact HB.out)))); have n5_ := Aside0.mk (blk_below (g := gb292) (o := .cells #[.int .i64 a0_0, .int .i64 a0_1, .slice A0_2 l0_2.length c0_2] 32 (0, 0)) (by (with_reducible repeat (first | refine blk_drewN ?_ _ | refine blk_drew ?_ | refine blk_alloc ?_ _)); exact BK292.out) hb); have n6_ := Aside0.mk (blk_below (g := gb298) (o := .cells #[.int .i64 t293, .int .i64 t294, .slice Ao15 t295.length co15] 32 (0, 0)) (by (with_reducible repeat (first | refine blk_drewN ?_ _ | refine blk_drew ?_ | refine blk_alloc ?_ _)); exact BK298.out) hb); have n7_ := Aside0.mk (below_step (by repeat (first | (with_reducible first | exact HB.out | apply below_alloc | apply pw_below_drewN | apply below_drew1 | refine below_set ?_ GE292.out | refine below_set ?_ GE298.out) | exact HB.out)) hb); clear HO_6; clear HO_8; clear HO_13; clear HO_299002; clear BK292; clear BK298; clear HB; have HO_6 := n0_; have HO_8 := n1_; have HO_13 := n2_; have HO_299002 := n3_; have HO335 := n4_; have BK292 := n5_; have BK298 := n6_; have HB := n7_; clear n0_ n1_ n2_ n3_ n4_ n5_ n6_ n7_; (try clear hb); (try clear hb2); (try clear hk); (try clear hi); (try clear ho0); obtain ⟨Ao100, co100, eo100⟩ := Kd.R_slice HO_13.out; subst eo100; obtain ⟨Ao101, co101, eo101⟩ := Kd.R_slice HO335.out; subst eo101) | (go_at_call 21; (with_reducible refine (arrearslaw20_sameOps.calls kj77 _ _ t320 _ _ t333 true _ ?side1 ?side2 ?side3 ?side4 A92.out).mono ?_); (case side1 => repeat (first | exact (Kd.R_reads' HO_13.out).2.2 | (with_reducible refine Kd.C_alloc ?_ _) | (with_reducible refine Kd.C_drewN ?_ _) | (with_reducible refine Kd.C_drew ?_))); (case side2 => exact (Kd.R_reads' HO_13.out).2.1); (case side3 => repeat (first | exact (Kd.R_reads' HO335.out).2.2 | (with_reducible refine Kd.C_alloc ?_ _) | (with_reducible refine Kd.C_drewN ?_ _) | (with_reducible refine Kd.C_drew ?_))); (case side4 => exact (Kd.R_reads' HO335.out).2.1); rintro e w' ⟨rfl, ⟨nd, rfl⟩⟩; have hcz102_0 : w99.cell? ⟨gb298, 0, none⟩ = some (.int .i64 t293) := (blk_cell BK298.out 0).trans rfl; have hcz102_1 : w99.cell? ⟨gb298, 1, none⟩ = some (.int .i64 t294) := (blk_cell BK298.out 1).trans rfl; have hcz102_2 : w99.cell? ⟨gb298, 2, none⟩ = some (.slice Ao15 t295.length co15) := (blk_cell BK298.out 2).trans rfl; have hfz102_0 := blk_frozen BK298.out 0; have hfz102_1 := blk_frozen BK298.out 1; have hfz102_2 := blk_frozen BK298.out 2) | (go_at_call 23; (with_reducible refine (arrearslaw20_anew.calls kj77 t293 t294 (fun k_ => some k_ = (.slice Ao15 t295.length co15 : Value).ownBlock) (.slice Ao15 t295.length co15) t295 t337 t338 w _ ?side1 ?side2 A94.out).mono ?_); (case side1 => repeat (first | (with_reducible first | exact HB.out | apply below_alloc | apply pw_below_drewN | apply below_drew1 | refine below_set ?_ GE292.out | refine below_set ?_ GE298.out) | exact HB.out)); (case side2 => exact Kd.R_tight rfl HO_299002.out); rintro e w103 ⟨rfl, hy0, hb, hkp⟩; have n0_ := Aside0.mk (Kd.R_mono (ok' := fun k_ => some k_ ≠ (.slice Ao95 t309.length co95 : Value).ownBlock) (Kd.R_keptB ((Kd.R_apart' HO_6.out (Kd.R_typed HO_299002.out) (by decide))) hkp (fun k_ hk_ hs_ => (hk_.2) hs_)) (fun k_ hk_ => hk_.1.1)); have n1_ := Aside0.mk (Kd.R_mono (ok' := fun k_ => some k_ ≠ (.slice Ao96 t303.length co96 : Value).ownBlock) (Kd.R_keptB ((Kd.R_apart' HO_8.out (Kd.R_typed HO_299002.out) (by decide))) hkp (fun k_ hk_ hs_ => (hk_.2) hs_)) (fun k_ hk_ => hk_.1.1)); have n2_ := Aside0.mk (Kd.R_mono (ok' := fun k_ => some k_ ≠ (.slice Ao101 t333.length co101 : Value).ownBlock) (Kd.R_keptB ((Kd.R_apart' HO_13.out (Kd.R_typed HO_299002.out) (by decide))) hkp (fun k_ hk_ hs_ => (hk_.2) hs_)) (fun k_ hk_ => hk_.1.1.2)); have n3_ := Aside0.mk (Kd.R_reok rfl hy0 (fun k_ e_ => HO_299002.out.1 k_ e_)); have n4_ := Aside0.mk (blk_kept BK292.out hkp (fun hs_ => (fun e_ => (Kd.R_ne HO_299002.out BK292.out (by decide)) e_) hs_)); have n5_ := Aside0.mk (blk_kept BK298.out hkp (fun hs_ => (fun e_ => (Kd.R_ne HO_299002.out BK298.out (by decide)) e_) hs_)); have n6_ := Aside0.mk (Kd.R_mono (ok' := fun k_ => some k_ ≠ (.slice Ao100 t320.length co100 : Value).ownBlock) (Kd.R_keptB ((Kd.R_apart' HO335.out (Kd.R_typed HO_299002.out) (by decide))) hkp (fun k_ hk_ hs_ => (hk_.2) hs_)) (fun k_ hk_ => hk_.1.1.2)); have n7_ := Aside0.mk (hb); clear HO_6; clear HO_8; clear HO_13; clear HO_299002; clear BK292; clear BK298; clear HO335; clear HB; have HO_6 := n0_; have HO_8 := n1_; have HO_13 := n2_; have HO_299002 := n3_; have BK292 := n4_; have BK298 := n5_; have HO335 := n6_; have HB := n7_; clear n0_ n1_ n2_ n3_ n4_ n5_ n6_ n7_; (try clear hb); (try clear hkp); (try clear hy0)))
                                          go_ret
                                          exact ⟨by first | rfl | (simp [errW_none, errW_some] <;> rfl) | (simp [*, errW_none, errW_some] <;> rfl), by repeat (first | (with_reducible first | exact HB.out | apply below_alloc | apply pw_below_drewN | apply below_drew1 | refine below_set ?_ GE292.out | refine below_set ?_ GE298.out) | exact HB.out)⟩
                                        · replace c93 := Bool.eq_false_iff.mpr c93
                                          subst c93
                                          have H1 : (some false) = some r := by rw [if_neg (show ¬ (false = true) by decide)] at H; exact H
                                          clear H
                                          have H := H1
                                          clear H1
                                          obtain rfl := Option.some.inj H
                                          obtain ⟨Ao104, co104, eo104⟩ := Kd.R_slice HO_8.out
                                          subst eo104
                                          obtain ⟨Ao105, co105, eo105⟩ := Kd.R_slice HO_6.out
                                          subst eo105
                                          go_wp2_with (first | ((with_reducible refine gate_callee (f := 18) rfl ?_); refine goesL_ (some 106) rfl rfl Tryd.func18 (by kernel_rfl) rfl #[.slice Ao104 t309.length co104, .slice Ao105 t303.length co105] rfl (by (try simp only [List.map_toArray, List.map_cons, List.map_nil]); first | done | rfl | (simp only [List.length_drop, List.length_take]; rfl)) ?_; (with_reducible refine (arrearslaw19_SameBytes.calls _ _ t309 _ _ t303 true _ ?side1 ?side2 ?side3 ?side4 A89.out).mono ?_); (case side1 => repeat (first | exact (Kd.R_reads' HO_8.out).2.2 | (with_reducible refine Kd.C_alloc ?_ _) | (with_reducible refine Kd.C_drewN ?_ _) | (with_reducible refine Kd.C_drew ?_))); (case side2 => exact (Kd.R_reads' HO_8.out).2.1); (case side3 => repeat (first | exact (Kd.R_reads' HO_6.out).2.2 | (with_reducible refine Kd.C_alloc ?_ _) | (with_reducible refine Kd.C_drewN ?_ _) | (with_reducible refine Kd.C_drew ?_))); (case side4 => exact (Kd.R_reads' HO_6.out).2.1); rintro e w' ⟨rfl, ⟨nd, rfl⟩⟩; refine ⟨_, rfl, ?_⟩; have hnb106 := NB292_298.out; have hnc106 := NB298_292.out; have hcz107_0 : wc.cell? ⟨gb292, 0, none⟩ = some (.int .i64 a0_0) := (blk_cell BK292.out 0).trans rfl; have hcz107_1 : wc.cell? ⟨gb292, 1, none⟩ = some (.int .i64 a0_1) := (blk_cell BK292.out 1).trans rfl; have hcz107_2 : wc.cell? ⟨gb292, 2, none⟩ = some (.slice A0_2 l0_2.length c0_2) := (blk_cell BK292.out 2).trans rfl; have hfz107_0 := blk_frozen BK292.out 0; have hfz107_1 := blk_frozen BK292.out 1; have hfz107_2 := blk_frozen BK292.out 2) | (go_at_call 22; (with_reducible refine (arrearsref20_Ops.calls kj77 a0_0 a0_1 _ _ l0_2 t333 _ ?side1 ?side2 A91.out).mono ?_); (case side1 => repeat (first | exact (Kd.C_below HR0_2.out (by repeat (first | (with_reducible first | exact HB.out | apply below_alloc | apply pw_below_drewN | apply below_drew1 | refine below_set ?_ GE292.out | refine below_set ?_ GE298.out) | exact HB.out))) | (with_reducible refine Kd.C_alloc ?_ _) | (with_reducible refine Kd.C_drewN ?_ _) | (with_reducible refine Kd.C_drew ?_))); (case side2 => exact HC0_2.out); rintro e w108 ⟨v334, rfl, ho0, hb⟩; have n0_ := Aside0.mk (Kd.R_below (by (with_reducible repeat (first | apply Kd.R_alloc | apply Kd.R_drewN | apply Kd.R_drew)); exact HO_6.out) hb); have n1_ := Aside0.mk (Kd.R_below (by (with_reducible repeat (first | apply Kd.R_alloc | apply Kd.R_drewN | apply Kd.R_drew)); exact HO_8.out) hb); have n2_ := Aside0.mk (Kd.R_elder' (by (with_reducible repeat (first | apply Kd.R_alloc | apply Kd.R_drewN | apply Kd.R_drew)); exact HO_13.out) (Kd.R_base ho0) hb); have n3_ := Aside0.mk (Kd.R_below (by (with_reducible repeat (first | apply Kd.R_alloc | apply Kd.R_drewN | apply Kd.R_drew)); exact HO_299002.out) hb); have n4_ := Aside0.mk (Kd.R_lower (Kd.R_new' ho0 (Kd.R_lt (by (with_reducible repeat (first | apply Kd.R_alloc | apply Kd.R_drewN | apply Kd.R_drew)); exact HO_13.out))) (below_size (by repeat (first | (with_reducible first | exact HB.out | apply below_alloc | apply pw_below_drewN | apply below_drew1 | refine below_set ?_ GE292.out | refine below_set ?_ GE298.out) | exact HB.out)))); have n5_ := Aside0.mk (blk_below (g := gb292) (o := .cells #[.int .i64 a0_0, .int .i64 a0_1, .slice A0_2 l0_2.length c0_2] 32 (0, 0)) (by (with_reducible repeat (first | refine blk_drewN ?_ _ | refine blk_drew ?_ | refine blk_alloc ?_ _)); exact BK292.out) hb); have n6_ := Aside0.mk (blk_below (g := gb298) (o := .cells #[.int .i64 t293, .int .i64 t294, .slice Ao15 t295.length co15] 32 (0, 0)) (by (with_reducible repeat (first | refine blk_drewN ?_ _ | refine blk_drew ?_ | refine blk_alloc ?_ _)); exact BK298.out) hb); have n7_ := Aside0.mk (below_step (by repeat (first | (with_reducible first | exact HB.out | apply below_alloc | apply pw_below_drewN | apply below_drew1 | refine below_set ?_ GE292.out | refine below_set ?_ GE298.out) | exact HB.out)) hb); clear HO_6; clear HO_8; clear HO_13; clear HO_299002; clear BK292; clear BK298; clear HB; have HO_6 := n0_; have HO_8 := n1_; have HO_13 := n2_; have HO_299002 := n3_; have HO335 := n4_; have BK292 := n5_; have BK298 := n6_; have HB := n7_; clear n0_ n1_ n2_ n3_ n4_ n5_ n6_ n7_; (try clear hb); (try clear hb2); (try clear hk); (try clear hi); (try clear ho0); obtain ⟨Ao109, co109, eo109⟩ := Kd.R_slice HO_13.out; subst eo109; obtain ⟨Ao110, co110, eo110⟩ := Kd.R_slice HO335.out; subst eo110) | (go_at_call 21; (with_reducible refine (arrearslaw20_sameOps.calls kj77 _ _ t320 _ _ t333 false _ ?side1 ?side2 ?side3 ?side4 A92.out).mono ?_); (case side1 => repeat (first | exact (Kd.R_reads' HO_13.out).2.2 | (with_reducible refine Kd.C_alloc ?_ _) | (with_reducible refine Kd.C_drewN ?_ _) | (with_reducible refine Kd.C_drew ?_))); (case side2 => exact (Kd.R_reads' HO_13.out).2.1); (case side3 => repeat (first | exact (Kd.R_reads' HO335.out).2.2 | (with_reducible refine Kd.C_alloc ?_ _) | (with_reducible refine Kd.C_drewN ?_ _) | (with_reducible refine Kd.C_drew ?_))); (case side4 => exact (Kd.R_reads' HO335.out).2.1); rintro e w' ⟨rfl, ⟨nd, rfl⟩⟩))
                                          go_ret
                                          exact ⟨by first | rfl | (simp [errW_none, errW_some] <;> rfl) | (simp [*, errW_none, errW_some] <;> rfl), by repeat (first | (with_reducible first | exact HB.out | apply below_alloc | apply pw_below_drewN | apply below_drew1 | refine below_set ?_ GE292.out | refine below_set ?_ GE298.out) | exact HB.out)⟩
                                      · replace c90 := Bool.eq_false_iff.mpr c90
                                        subst c90
                                        have H1 : (some false) = some r := by rw [if_neg (show ¬ (false = true) by decide)] at H; exact H
                                        clear H
                                        have H := H1
                                        clear H1
                                        obtain rfl := Option.some.inj H
                                        obtain ⟨Ao111, co111, eo111⟩ := Kd.R_slice HO_8.out
                                        subst eo111
                                        obtain ⟨Ao112, co112, eo112⟩ := Kd.R_slice HO_6.out
                                        subst eo112
                                        go_wp2_with (first | ((with_reducible refine gate_callee (f := 18) rfl ?_); refine goesL_ (some 106) rfl rfl Tryd.func18 (by kernel_rfl) rfl #[.slice Ao111 t309.length co111, .slice Ao112 t303.length co112] rfl (by (try simp only [List.map_toArray, List.map_cons, List.map_nil]); first | done | rfl | (simp only [List.length_drop, List.length_take]; rfl)) ?_; (with_reducible refine (arrearslaw19_SameBytes.calls _ _ t309 _ _ t303 false _ ?side1 ?side2 ?side3 ?side4 A89.out).mono ?_); (case side1 => repeat (first | exact (Kd.R_reads' HO_8.out).2.2 | (with_reducible refine Kd.C_alloc ?_ _) | (with_reducible refine Kd.C_drewN ?_ _) | (with_reducible refine Kd.C_drew ?_))); (case side2 => exact (Kd.R_reads' HO_8.out).2.1); (case side3 => repeat (first | exact (Kd.R_reads' HO_6.out).2.2 | (with_reducible refine Kd.C_alloc ?_ _) | (with_reducible refine Kd.C_drewN ?_ _) | (with_reducible refine Kd.C_drew ?_))); (case side4 => exact (Kd.R_reads' HO_6.out).2.1); rintro e w' ⟨rfl, ⟨nd, rfl⟩⟩; refine ⟨_, rfl, ?_⟩))
                                        go_ret
                                        exact ⟨by first | rfl | (simp [errW_none, errW_some] <;> rfl) | (simp [*, errW_none, errW_some] <;> rfl), by repeat (first | (with_reducible first | exact HB.out | apply below_alloc | apply pw_below_drewN | apply below_drew1 | refine below_set ?_ GE292.out | refine below_set ?_ GE298.out) | exact HB.out)⟩
                              · rw [if_neg c77] at H
                                exact absurd H (by simp)
                · rw [if_neg c42] at H
                  exact absurd H (by simp)
end Go.Proofs.YtkjdmbbaacjpmaaDoor.T
end
