-- Texts of this claim, joined and cut down to what it uses (a program of this session).
import Derived.Test.YtklpneeakhbahaaGreatDoorV5
import Derived.Test.YtklpneeakhbahaaGreatDoorRows
import Derived.LaidSub
import Derived.LaidLaws
import Derived.Lib.LaidTab
import Derived.Lib.SmallJoins
import Derived.Deep.Slices
import Derived.Deep.Fields
import Derived.ChangeSame
import Derived.ChangeSlices
import Derived.OpenShut
import Derived.SizedLaws
import Derived.Below
section
set_option linter.unusedVariables false
set_option linter.unusedSimpArgs false
namespace Go.Proofs.YtklpneeakhbahaaGreatDoor.Fs
open Go Go.Proofs.YtklpneeakhbahaaGreatDoor.Ls P Go.Proofs.YtklpneeakhbahaaGreatDoor.Cal
def planP (part : Int → Int → Int → Int) (due : Int → Int × Bool × Unit) (r : Int) : Nat → Int → Int → List T99 → Bool × List T99
  | 0, _, _, acc => (true, acc)
  | n + 1, k, b, acc =>
    if 0 < b ∧ ¬(mP b r = 0 ∧ part k b (mP b r) = 0) then
      if (due k).2.1 = true then planP part due r n (k + 1) (b - part k b (mP b r)) (acc ++ [((due k).1, mP b r, part k b (mP b r), false, ())]) else (false, [])
    else planP part due r n (k + 1) b acc
theorem planP_done {part due r} : ∀ (n : Nat) (k b : Int) (acc : List T99), b ≤ 0 → planP part due r n k b acc = (true, acc)
  | 0, k, b, acc, h => rfl
  | n + 1, k, b, acc, h => by
    unfold planP
    rw [if_neg (by omega)]
    exact planP_done n (k + 1) b acc h
structure Keeps (part : Int → Int → Int → Int) (r c : Int) (Inv : Int → Int → Prop) : Prop where
  lo : ∀ k b, 1 ≤ k → k ≤ c → Inv k b → 0 ≤ b ∧ b ≤ 10000000000000
  idle : ∀ k b, 1 ≤ k → k ≤ c → Inv k b → b ≤ 0 → Inv (k + 1) b
  step : ∀ k b, 1 ≤ k → k ≤ c → Inv k b → 0 < b → 0 ≤ part k b (mP b r) ∧ part k b (mP b r) ≤ b ∧ Inv (k + 1) (b - part k b (mP b r))
theorem ble_room {n : Nat} (h : n ≤ 100000) : Nat.ble (n * 32) 140737488355328 = true := Nat.ble_eq_true_of_le (by omega)
theorem L_rPlan {kd P r c st ru pay : Int} {s : List Int} {part : Int → Int → Int → Int} {Inv : Int → Int → Prop} {due : Int → Int × Bool × Unit} (hr : 0 ≤ r) (hr2 : r ≤ 100000) (hc : c ≤ 1000) (hK : Keeps part r c Inv)
    (hP : ∀ k b, 1 ≤ k → k ≤ c → Inv k b → F_rpart ((kd, P, r, c, st, ru, ()), pay, k, b, mP b r, ()) () = ⟨true, false, part k b (mP b r), (), ()⟩)
    (hD : ∀ k, 1 ≤ k → k ≤ c → F_rDue ((kd, P, r, c, st, ru, ()), (), k, ()) (s, ()) = ⟨true, false, due k, ((), ()), ()⟩) :
    ∀ (n kf : Nat) (k b : Int) (acc : List T99), n < kf → k + n = c + 1 → 1 ≤ k → Inv k b → acc.length + n ≤ 1000 →
    L_rPlan_8 kf (((), (), pay, (), b, k, ()), s, (kd, P, r, c, st, ru, ()), acc, ()) = ⟨true, false, ((), (planP part due r n k b acc).1, ()), ((), (planP part due r n k b acc).2, ()), ()⟩
  | n, 0, k, b, acc, hk, _, _, _, _ => by omega
  | 0, kf + 1, k, b, acc, hk, hn, h1, hi, hl => by
    rw [L_rPlan_8_eq]
    have d : decide (k ≤ c) = false := by simp; omega
    simp only [d, cond_false]
    rfl
  | n + 1, kf + 1, k, b, acc, hk, hn, h1, hi, hl => by
    rw [L_rPlan_8_eq]
    have d : decide (k ≤ c) = true := by simp; omega
    have hb := hK.lo k b h1 (by omega) hi
    have hm := rmonth hb.1 hb.2 hr hr2
    have hp := hP k b h1 (by omega) hi
    have hd := hD k h1 (by omega)
    have g1 := mP_nonneg hb.1 hr
    have w1 : IntKind.i64.wrap (k + 1) = k + 1 := w64 (by omega) (by omega)
    simp only [d, hm, hp, hd, cond_true, Bool.and_true, w1]
    unfold planP
    by_cases c0 : 0 < b
    · have c0' : decide (b > 0) = true := by simpa using c0
      have hs := hK.step k b h1 (by omega) hi c0
      have w2 : IntKind.i64.wrap (b - part k b (mP b r)) = b - part k b (mP b r) := w64 (by omega) (by omega)
      by_cases c1 : mP b r = 0 ∧ part k b (mP b r) = 0
      · have e1 : decide (mP b r > 0) = false := by simp; omega
        have e2 : decide (part k b (mP b r) > 0) = false := by simp; omega
        simp only [c0', e1, e2, cond_true, cond_false]
        rw [if_neg (by omega)]
        have hi' : Inv (k + 1) b := by have := hs.2.2; rwa [c1.2, Int.sub_zero] at this
        rw [L_rPlan hr hr2 hc hK hP hD n kf (k + 1) b acc (by omega) (by omega) (by omega) hi' (by omega)]
        rfl
      · have e1 : (bif decide (mP b r > 0) then true else decide (part k b (mP b r) > 0)) = true := by
          by_cases c2 : 0 < mP b r
          · have : decide (mP b r > 0) = true := by simpa using c2
            rw [this]; rfl
          · have e3 : decide (mP b r > 0) = false := by simp; omega
            have e4 : decide (part k b (mP b r) > 0) = true := by simp; omega
            rw [e3, e4]; rfl
        simp only [c0', e1, w2, cond_true]
        rw [if_pos (by omega)]
        by_cases c3 : (due k).2.1 = true
        · simp only [c3, Bool.not_true, cond_false, if_true]
          rw [L_rPlan hr hr2 hc hK hP hD n kf (k + 1) (b - part k b (mP b r)) (acc ++ [((due k).1, mP b r, part k b (mP b r), false, ())]) (by omega) (by omega) (by omega) hs.2.2 (by simp; omega)]
          have : Nat.ble ((acc.length + [((due k).1, mP b r, part k b (mP b r), false, ())].length) * 32) 140737488355328 = true := ble_room (by simp; omega)
          simp only [this]
          cases decide (mP b r > 0) <;> rfl
        · have c3' : (due k).2.1 = false := by simpa using c3
          simp only [c3', Bool.not_false, cond_true]
          cases decide (mP b r > 0) <;> rfl
    · have c0' : decide (b > 0) = false := by simpa using c0
      simp only [c0', cond_false]
      rw [if_neg (by omega)]
      rw [L_rPlan hr hr2 hc hK hP hD n kf (k + 1) b acc (by omega) (by omega) (by omega) (hK.idle k b h1 (by omega) hi (by omega)) (by omega)]
      rfl
theorem L_plan17 {kd P r c st ru pay anc : Int} {s : List Int} {part : Int → Int → Int → Int} {Inv : Int → Int → Prop} {due : Int → Int × Bool × Unit} (hr : 0 ≤ r) (hr2 : r ≤ 100000) (hc0 : 1 ≤ c) (hc : c ≤ 1000) (hK : Keeps part r c Inv)
    (hP : ∀ k b, 1 ≤ k → k ≤ c → Inv k b → 0 < b → (if (b < IntKind.i64.wrap (pay - mP b r)) then b else IntKind.i64.wrap (pay - mP b r)) = part k b (mP b r))
    (hD : ∀ k, 1 ≤ k → k ≤ c → ∃ a : Int × Bool × Unit, F_addMonths (st, k, anc, ()) () = ⟨true, false, a, (), ()⟩ ∧ (a.2.1 = true → F_adjust (a.1, (), ru, ()) (s, ()) = ⟨true, false, due k, ((), ()), ()⟩) ∧ (a.2.1 = false → due k = (0, false, ()))) :
    ∀ (n kf : Nat) (k b : Int) (acc : List T99), n < kf → k + n = c + 1 → 1 ≤ k → Inv k b → acc.length + n ≤ 1000 →
    L_plan_17 kf (((), true, (), (), k, ()), s, (kd, P, r, c, st, ru, ()), ((kd, P, r, c, st, ru, ()), (), anc, pay, b, ((), ()), ()), acc, ()) = ⟨true, false, ((), (planP part due r n k b acc).1, ()), ((), (planP part due r n k b acc).2, ()), ()⟩
  | n, 0, k, b, acc, hk, _, _, _, _ => by omega
  | 0, kf + 1, k, b, acc, hk, hn, h1, hi, hl => by
    rw [L_plan_17_eq]
    have d : decide (k ≤ c) = false := by simp; omega
    simp only [d, cond_false, cond_true, Bool.not_true]
    cases decide (b > 0) <;> rfl
  | n + 1, kf + 1, k, b, acc, hk, hn, h1, hi, hl => by
    rw [L_plan_17_eq]
    have d : decide (k ≤ c) = true := by simp; omega
    have hb := hK.lo k b h1 (by omega) hi
    have hm := month hb.1 hb.2 hr hr2
    have g1 := mP_nonneg hb.1 hr
    have g2 := mP_le hb.1 hb.2 hr hr2
    have w1 : IntKind.i64.wrap (k + 1) = k + 1 := w64 (by omega) (by omega)
    by_cases c0 : 0 < b
    · have c0' : decide (b > 0) = true := by simpa using c0
      have hs := hK.step k b h1 (by omega) hi c0
      have hp := hP k b h1 (by omega) hi c0
      have w2 : IntKind.i64.wrap (b - part k b (mP b r)) = b - part k b (mP b r) := w64 (by omega) (by omega)
      obtain ⟨a, ha, hd1, hd2⟩ := hD k h1 (by omega)
      simp only [d, hm, hp, cond_true, Bool.and_true, Bool.true_and, Bool.not_true, cond_false, w1, ha, c0']
      unfold planP
      by_cases c1 : mP b r = 0 ∧ part k b (mP b r) = 0
      · have e1 : (bif mP b r == 0 then part k b (mP b r) == 0 else false) = true := by
          have e3 : (mP b r == 0) = true := by rw [beq_iff_eq]; exact c1.1
          have e4 : (part k b (mP b r) == 0) = true := by rw [beq_iff_eq]; exact c1.2
          rw [e3, e4]; rfl
        simp only [e1, cond_true]
        rw [if_neg (by omega)]
        have hi' : Inv (k + 1) b := by have := hs.2.2; rwa [c1.2, Int.sub_zero] at this
        rw [L_plan17 hr hr2 hc0 hc hK hP hD n kf (k + 1) b acc (by omega) (by omega) (by omega) hi' (by omega)]
        cases (mP b r == 0) <;> rfl
      · have e1 : (bif mP b r == 0 then part k b (mP b r) == 0 else false) = false := by
          by_cases c2 : mP b r = 0
          · have c3 : part k b (mP b r) ≠ 0 := fun h => c1 ⟨c2, h⟩
            have e3 : (mP b r == 0) = true := by simpa using c2
            have e4 : (part k b (mP b r) == 0) = false := by simpa using c3
            rw [e3, e4]; rfl
          · have e3 : (mP b r == 0) = false := by simpa using c2
            rw [e3]; rfl
        simp only [e1, cond_false]
        rw [if_pos (by omega)]
        by_cases c4 : a.2.1 = true
        · have hd := hd1 c4
          simp only [c4, Bool.not_true, cond_false, hd, w2]
          by_cases c3 : (due k).2.1 = true
          · simp only [c3, Bool.not_true, cond_false, if_true]
            rw [L_plan17 hr hr2 hc0 hc hK hP hD n kf (k + 1) (b - part k b (mP b r)) (acc ++ [((due k).1, mP b r, part k b (mP b r), false, ())]) (by omega) (by omega) (by omega) hs.2.2 (by simp; omega)]
            have : Nat.ble ((acc.length + [((due k).1, mP b r, part k b (mP b r), false, ())].length) * 32) 140737488355328 = true := ble_room (by simp; omega)
            simp only [this]
            cases (mP b r == 0) <;> rfl
          · have c3' : (due k).2.1 = false := by simpa using c3
            simp only [c3', Bool.not_false, cond_true]
            obtain ⟨kf', rfl⟩ : ∃ kf', kf = kf' + 1 := ⟨kf - 1, by omega⟩
            rw [L_plan_17_eq]
            cases (mP b r == 0) <;> rfl
        · have c4' : a.2.1 = false := by simpa using c4
          have hd := hd2 c4'
          simp only [c4', Bool.not_false, Bool.not_true, cond_true, hd]
          obtain ⟨kf', rfl⟩ : ∃ kf', kf = kf' + 1 := ⟨kf - 1, by omega⟩
          rw [L_plan_17_eq]
          cases (mP b r == 0) <;> rfl
    · have c0' : decide (b > 0) = false := by simpa using c0
      simp only [c0', cond_false, cond_true, Bool.not_true]
      rw [planP_done _ _ _ _ (by omega)]
theorem L_plan17_1 {kd P r c st ru pay anc : Int} {s : List Int} {part : Int → Int → Int → Int} {Inv : Int → Int → Prop} {due : Int → Int × Bool × Unit} (hr : 0 ≤ r) (hr2 : r ≤ 100000) (hc0 : 1 ≤ c) (hc : c ≤ 1000) (hK : Keeps part r c Inv)
    (hP : ∀ k b, 1 ≤ k → k ≤ c → Inv k b → 0 < b → (bif decide (k ≤ P.tmod c) then IntKind.i64.wrap (IntKind.i64.wrap (P.tdiv c) + 1) else IntKind.i64.wrap (P.tdiv c)) = part k b (mP b r))
    (hD : ∀ k, 1 ≤ k → k ≤ c → ∃ a : Int × Bool × Unit, F_addMonths (st, k, anc, ()) () = ⟨true, false, a, (), ()⟩ ∧ (a.2.1 = true → F_adjust (a.1, (), ru, ()) (s, ()) = ⟨true, false, due k, ((), ()), ()⟩) ∧ (a.2.1 = false → due k = (0, false, ()))) :
    ∀ (n kf : Nat) (k b : Int) (acc : List T99), n < kf → k + n = c + 1 → 1 ≤ k → Inv k b → acc.length + n ≤ 1000 →
    L_plan_17_1 kf (((), true, (), (), k, ()), s, (kd, P, r, c, st, ru, ()), ((kd, P, r, c, st, ru, ()), (), anc, pay, b, ((), ()), ()), acc, ()) = ⟨true, false, ((), (planP part due r n k b acc).1, ()), ((), (planP part due r n k b acc).2, ()), ()⟩
  | n, 0, k, b, acc, hk, _, _, _, _ => by omega
  | 0, kf + 1, k, b, acc, hk, hn, h1, hi, hl => by
    rw [L_plan_17_1_eq]
    have d : decide (k ≤ c) = false := by simp; omega
    simp only [d, cond_false, cond_true, Bool.not_true]
    cases decide (b > 0) <;> rfl
  | n + 1, kf + 1, k, b, acc, hk, hn, h1, hi, hl => by
    rw [L_plan_17_1_eq]
    have d : decide (k ≤ c) = true := by simp; omega
    have hb := hK.lo k b h1 (by omega) hi
    have hm := month hb.1 hb.2 hr hr2
    have g1 := mP_nonneg hb.1 hr
    have g2 := mP_le hb.1 hb.2 hr hr2
    have w1 : IntKind.i64.wrap (k + 1) = k + 1 := w64 (by omega) (by omega)
    by_cases c0 : 0 < b
    · have c0' : decide (b > 0) = true := by simpa using c0
      have hs := hK.step k b h1 (by omega) hi c0
      have hp := hP k b h1 (by omega) hi c0
      have w2 : IntKind.i64.wrap (b - part k b (mP b r)) = b - part k b (mP b r) := w64 (by omega) (by omega)
      obtain ⟨a, ha, hd1, hd2⟩ := hD k h1 (by omega)
      have ec : (c != 0) = true := by simp; omega
      simp only [d, hm, hp, cond_true, Bool.and_true, Bool.true_and, Bool.not_true, cond_false, w1, ha, c0', ec]
      unfold planP
      by_cases c1 : mP b r = 0 ∧ part k b (mP b r) = 0
      · have e1 : (bif mP b r == 0 then part k b (mP b r) == 0 else false) = true := by
          have e3 : (mP b r == 0) = true := by rw [beq_iff_eq]; exact c1.1
          have e4 : (part k b (mP b r) == 0) = true := by rw [beq_iff_eq]; exact c1.2
          rw [e3, e4]; rfl
        simp only [e1, cond_true]
        rw [if_neg (by omega)]
        have hi' : Inv (k + 1) b := by have := hs.2.2; rwa [c1.2, Int.sub_zero] at this
        rw [L_plan17_1 hr hr2 hc0 hc hK hP hD n kf (k + 1) b acc (by omega) (by omega) (by omega) hi' (by omega)]
        cases (mP b r == 0) <;> cases decide (k ≤ P.tmod c) <;> rfl
      · have e1 : (bif mP b r == 0 then part k b (mP b r) == 0 else false) = false := by
          by_cases c2 : mP b r = 0
          · have c3 : part k b (mP b r) ≠ 0 := fun h => c1 ⟨c2, h⟩
            have e3 : (mP b r == 0) = true := by simpa using c2
            have e4 : (part k b (mP b r) == 0) = false := by simpa using c3
            rw [e3, e4]; rfl
          · have e3 : (mP b r == 0) = false := by simpa using c2
            rw [e3]; rfl
        simp only [e1, cond_false]
        rw [if_pos (by omega)]
        by_cases c4 : a.2.1 = true
        · have hd := hd1 c4
          simp only [c4, Bool.not_true, cond_false, hd, w2]
          by_cases c3 : (due k).2.1 = true
          · simp only [c3, Bool.not_true, cond_false, if_true]
            rw [L_plan17_1 hr hr2 hc0 hc hK hP hD n kf (k + 1) (b - part k b (mP b r)) (acc ++ [((due k).1, mP b r, part k b (mP b r), false, ())]) (by omega) (by omega) (by omega) hs.2.2 (by simp; omega)]
            have : Nat.ble ((acc.length + [((due k).1, mP b r, part k b (mP b r), false, ())].length) * 32) 140737488355328 = true := ble_room (by simp; omega)
            simp only [this]
            cases (mP b r == 0) <;> cases decide (k ≤ P.tmod c) <;> rfl
          · have c3' : (due k).2.1 = false := by simpa using c3
            simp only [c3', Bool.not_false, cond_true]
            obtain ⟨kf', rfl⟩ : ∃ kf', kf = kf' + 1 := ⟨kf - 1, by omega⟩
            rw [L_plan_17_1_eq]
            cases (mP b r == 0) <;> cases decide (k ≤ P.tmod c) <;> rfl
        · have c4' : a.2.1 = false := by simpa using c4
          have hd := hd2 c4'
          simp only [c4', Bool.not_false, Bool.not_true, cond_true, hd]
          obtain ⟨kf', rfl⟩ : ∃ kf', kf = kf' + 1 := ⟨kf - 1, by omega⟩
          rw [L_plan_17_1_eq]
          cases (mP b r == 0) <;> cases decide (k ≤ P.tmod c) <;> rfl
    · have c0' : decide (b > 0) = false := by simpa using c0
      simp only [c0', cond_false, cond_true, Bool.not_true]
      rw [planP_done _ _ _ _ (by omega)]
theorem L_plan17_2 {kd P r c st ru pay anc : Int} {s : List Int} {part : Int → Int → Int → Int} {Inv : Int → Int → Prop} {due : Int → Int × Bool × Unit} (hr : 0 ≤ r) (hr2 : r ≤ 100000) (hc0 : 1 ≤ c) (hc : c ≤ 1000) (hK : Keeps part r c Inv)
    (hP : ∀ k b, 1 ≤ k → k ≤ c → Inv k b → 0 < b → (bif decide (k < c) then (0 : Int) else b) = part k b (mP b r))
    (hD : ∀ k, 1 ≤ k → k ≤ c → ∃ a : Int × Bool × Unit, F_addMonths (st, k, anc, ()) () = ⟨true, false, a, (), ()⟩ ∧ (a.2.1 = true → F_adjust (a.1, (), ru, ()) (s, ()) = ⟨true, false, due k, ((), ()), ()⟩) ∧ (a.2.1 = false → due k = (0, false, ()))) :
    ∀ (n kf : Nat) (k b : Int) (acc : List T99), n < kf → k + n = c + 1 → 1 ≤ k → Inv k b → acc.length + n ≤ 1000 →
    L_plan_17_2 kf (((), true, (), (), k, ()), s, (kd, P, r, c, st, ru, ()), ((kd, P, r, c, st, ru, ()), (), anc, pay, b, ((), ()), ()), acc, ()) = ⟨true, false, ((), (planP part due r n k b acc).1, ()), ((), (planP part due r n k b acc).2, ()), ()⟩
  | n, 0, k, b, acc, hk, _, _, _, _ => by omega
  | 0, kf + 1, k, b, acc, hk, hn, h1, hi, hl => by
    rw [L_plan_17_2_eq]
    have d : decide (k ≤ c) = false := by simp; omega
    simp only [d, cond_false, cond_true, Bool.not_true]
    cases decide (b > 0) <;> rfl
  | n + 1, kf + 1, k, b, acc, hk, hn, h1, hi, hl => by
    rw [L_plan_17_2_eq]
    have d : decide (k ≤ c) = true := by simp; omega
    have hb := hK.lo k b h1 (by omega) hi
    have hm := month hb.1 hb.2 hr hr2
    have g1 := mP_nonneg hb.1 hr
    have g2 := mP_le hb.1 hb.2 hr hr2
    have w1 : IntKind.i64.wrap (k + 1) = k + 1 := w64 (by omega) (by omega)
    by_cases c0 : 0 < b
    · have c0' : decide (b > 0) = true := by simpa using c0
      have hs := hK.step k b h1 (by omega) hi c0
      have hp := hP k b h1 (by omega) hi c0
      have w2 : IntKind.i64.wrap (b - part k b (mP b r)) = b - part k b (mP b r) := w64 (by omega) (by omega)
      obtain ⟨a, ha, hd1, hd2⟩ := hD k h1 (by omega)
      simp only [d, hm, hp, cond_true, Bool.and_true, Bool.true_and, Bool.not_true, cond_false, w1, ha, c0']
      unfold planP
      by_cases c1 : mP b r = 0 ∧ part k b (mP b r) = 0
      · have e1 : (bif mP b r == 0 then part k b (mP b r) == 0 else false) = true := by
          have e3 : (mP b r == 0) = true := by rw [beq_iff_eq]; exact c1.1
          have e4 : (part k b (mP b r) == 0) = true := by rw [beq_iff_eq]; exact c1.2
          rw [e3, e4]; rfl
        simp only [e1, cond_true]
        rw [if_neg (by omega)]
        have hi' : Inv (k + 1) b := by have := hs.2.2; rwa [c1.2, Int.sub_zero] at this
        rw [L_plan17_2 hr hr2 hc0 hc hK hP hD n kf (k + 1) b acc (by omega) (by omega) (by omega) hi' (by omega)]
        cases (mP b r == 0) <;> cases decide (k < c) <;> rfl
      · have e1 : (bif mP b r == 0 then part k b (mP b r) == 0 else false) = false := by
          by_cases c2 : mP b r = 0
          · have c3 : part k b (mP b r) ≠ 0 := fun h => c1 ⟨c2, h⟩
            have e3 : (mP b r == 0) = true := by simpa using c2
            have e4 : (part k b (mP b r) == 0) = false := by simpa using c3
            rw [e3, e4]; rfl
          · have e3 : (mP b r == 0) = false := by simpa using c2
            rw [e3]; rfl
        simp only [e1, cond_false]
        rw [if_pos (by omega)]
        by_cases c4 : a.2.1 = true
        · have hd := hd1 c4
          simp only [c4, Bool.not_true, cond_false, hd, w2]
          by_cases c3 : (due k).2.1 = true
          · simp only [c3, Bool.not_true, cond_false, if_true]
            rw [L_plan17_2 hr hr2 hc0 hc hK hP hD n kf (k + 1) (b - part k b (mP b r)) (acc ++ [((due k).1, mP b r, part k b (mP b r), false, ())]) (by omega) (by omega) (by omega) hs.2.2 (by simp; omega)]
            have : Nat.ble ((acc.length + [((due k).1, mP b r, part k b (mP b r), false, ())].length) * 32) 140737488355328 = true := ble_room (by simp; omega)
            simp only [this]
            cases (mP b r == 0) <;> cases decide (k < c) <;> rfl
          · have c3' : (due k).2.1 = false := by simpa using c3
            simp only [c3', Bool.not_false, cond_true]
            obtain ⟨kf', rfl⟩ : ∃ kf', kf = kf' + 1 := ⟨kf - 1, by omega⟩
            rw [L_plan_17_2_eq]
            cases (mP b r == 0) <;> cases decide (k < c) <;> rfl
        · have c4' : a.2.1 = false := by simpa using c4
          have hd := hd2 c4'
          simp only [c4', Bool.not_false, Bool.not_true, cond_true, hd]
          obtain ⟨kf', rfl⟩ : ∃ kf', kf = kf' + 1 := ⟨kf - 1, by omega⟩
          rw [L_plan_17_2_eq]
          cases (mP b r == 0) <;> cases decide (k < c) <;> rfl
    · have c0' : decide (b > 0) = false := by simpa using c0
      simp only [c0', cond_false, cond_true, Bool.not_true]
      rw [planP_done _ _ _ _ (by omega)]
end Go.Proofs.YtklpneeakhbahaaGreatDoor.Fs
end
section
set_option linter.unusedVariables false
set_option linter.unusedSimpArgs false
namespace Go.Proofs.YtklpneeakhbahaaGreatDoor.Fs
open Go Go.Proofs.YtklpneeakhbahaaGreatDoor.Ls P Go.Proofs.YtklpneeakhbahaaGreatDoor.Cal
def okT (t : T25) : Bool :=
  decide (t.1 ≥ 0) && (decide (t.1 ≤ 2) && (decide (t.2.1 ≥ 1) && (decide (t.2.1 ≤ 10000000000000) && ((decide (t.2.2.1 ≥ 0) && decide (t.2.2.1 ≤ 100000)) && (decide (t.2.2.2.1 ≥ 1) && (decide (t.2.2.2.1 ≤ 120) && (decide (t.2.2.2.2.1 ≥ 1) && (decide (t.2.2.2.2.1 ≤ 3652059) && (decide (t.2.2.2.2.2.1 ≥ 0) && decide (t.2.2.2.2.2.1 ≤ 3))))))))))
theorem cft (a b : Bool) : (bif a then b else false) = (a && b) := by cases a <;> rfl
theorem ctb (a b : Bool) : (bif a then true else b) = (a || b) := by cases a <;> rfl
theorem csame {α : Type} (a : Bool) (x : α) : (bif a then x else x) = x := by cases a <;> rfl
theorem valid (t : T25) : F_valid (t, ()) () = ⟨true, false, okT t, (), ()⟩ := by
  rw [F_valid_eq]
  simp only [csame, cft]
  rfl
theorem dlt (a b : Int) : decide (a < b) = !decide (a ≥ b) := by by_cases h : a < b <;> simp [h] <;> omega
theorem dgt (a b : Int) : decide (a > b) = !decide (a ≤ b) := by by_cases h : a > b <;> simp [h] <;> omega
theorem rValid (t : T25) : F_rValid (t, ()) () = ⟨true, false, okT t, (), ()⟩ := by
  rw [F_rValid_eq]
  simp only [csame, cft, ctb, dlt, dgt]
  unfold okT
  generalize decide (t.1 ≥ 0) = a1
  generalize decide (t.1 ≤ 2) = a2
  generalize decide (t.2.1 ≥ 1) = a3
  generalize decide (t.2.1 ≤ 10000000000000) = a4
  generalize (decide (t.2.2.1 ≥ 0) && decide (t.2.2.1 ≤ 100000)) = a5
  generalize decide (t.2.2.2.1 ≥ 1) = a6
  generalize decide (t.2.2.2.1 ≤ 120) = a7
  generalize decide (t.2.2.2.2.1 ≥ 1) = a8
  generalize decide (t.2.2.2.2.1 ≤ 3652059) = a9
  generalize (decide (t.2.2.2.2.2.1 ≥ 0) && decide (t.2.2.2.2.2.1 ≤ 3)) = a10
  cases a1 <;> try rfl
  cases a2 <;> try rfl
  cases a3 <;> try rfl
  cases a4 <;> try rfl
  cases a5 <;> try rfl
  cases a6 <;> try rfl
  cases a7 <;> try rfl
  cases a8 <;> try rfl
  cases a9 <;> try rfl
theorem okT_out {kd P r c st ru : Int} (h : okT (kd, P, r, c, st, ru, ()) = true) : 0 ≤ kd ∧ kd ≤ 2 ∧ 1 ≤ P ∧ P ≤ 10000000000000 ∧ 0 ≤ r ∧ r ≤ 100000 ∧ 1 ≤ c ∧ c ≤ 120 ∧ 1 ≤ st ∧ st ≤ 3652059 ∧ 0 ≤ ru ∧ ru ≤ 3 := by
  unfold okT at h
  simp only [Bool.and_eq_true, decide_eq_true_eq] at h
  omega
theorem dues {kd P r c st ru : Int} {s : List Int} (hs : s.length ≤ 1000000) (h1 : 1 ≤ st) (h2 : st ≤ 3652059) :
    ∃ y m anc, (F_civil (st, ()) () = ⟨true, false, ((y, m, anc, ()), true, ()), (), ()⟩) ∧ ∀ k : Int, 1 ≤ k → k ≤ 1000 →
      ∃ a d : Int × Bool × Unit, F_rDue ((kd, P, r, c, st, ru, ()), (), k, ()) (s, ()) = ⟨true, false, d, ((), ()), ()⟩ ∧ F_addMonths (st, k, anc, ()) () = ⟨true, false, a, (), ()⟩ ∧ (a.2.1 = true → F_adjust (a.1, (), ru, ()) (s, ()) = ⟨true, false, d, ((), ()), ()⟩) ∧ (a.2.1 = false → d = (0, false, ())) := by
  obtain ⟨y, m, anc, hi, e, e'⟩ := civils h1 h2
  refine ⟨y, m, anc, e, fun k k1 k2 => ?_⟩
  have hr := mlen_range y m
  have d1 := hi.d1; have d2 := hi.d2
  obtain ⟨a, f, f', ha⟩ := addMonthsB (months := k) (anchor := anc) h1 h2 d1 (by omega) (by omega) (by omega)
  by_cases c : a.2.1 = true
  · obtain ⟨d, g, g'⟩ := adjusts (s := s) (day := a.1) (rule := ru) hs (ha c).1 (ha c).2
    refine ⟨a, d, ?_, f, fun _ => g, (fun h => by rw [c] at h; cases h)⟩
    rw [F_rDue_eq]
    simp only [e', f', c, Bool.not_true, cond_false, g', Bool.and_true]
  · have c' : a.2.1 = false := by simpa using c
    refine ⟨a, (0, false, ()), ?_, f, (fun h => by rw [c'] at h; cases h), fun _ => rfl⟩
    rw [F_rDue_eq]
    simp only [e', f', c', Bool.not_false, cond_true, Bool.and_true]
theorem planP_length {part due r} : ∀ (n : Nat) (k b : Int) (acc : List T99), (planP part due r n k b acc).2.length ≤ acc.length + n
  | 0, k, b, acc => by simp [planP]
  | n + 1, k, b, acc => by
    unfold planP
    split
    · split
      · have := planP_length (part := part) (due := due) (r := r) n (k + 1) (b - part k b (mP b r)) (acc ++ [((due k).1, mP b r, part k b (mP b r), false, ())])
        simp at this; omega
      · simp
    · have := planP_length (part := part) (due := due) (r := r) n (k + 1) b acc
      omega
end Go.Proofs.YtklpneeakhbahaaGreatDoor.Fs
end
section
set_option linter.unusedVariables false
set_option linter.unusedSimpArgs false
namespace Go.Proofs.YtklpneeakhbahaaGreatDoor.Fs
open Go Go.Proofs.YtklpneeakhbahaaGreatDoor.Ls P Go.Proofs.YtklpneeakhbahaaGreatDoor.Cal
def pLevel (pay : Int) : Int → Int → Int → Int := fun _ b i => if b < pay - i then b else pay - i
def pEqual (P c : Int) : Int → Int → Int → Int := fun k _ _ => if k ≤ P % c then P / c + 1 else P / c
def pBall (c : Int) : Int → Int → Int → Int := fun k b _ => if k < c then 0 else b
theorem keepsLevel {pay P r c : Int} (hr : 0 ≤ r) (hp : mP P r < pay) (hP : P ≤ 10000000000000) : Keeps (pLevel pay) r c (fun _ b => 0 ≤ b ∧ b ≤ P) where
  lo := fun k b _ _ h => ⟨h.1, by omega⟩
  idle := fun k b _ _ h _ => h
  step := fun k b _ _ h h0 => by
    have g := mP_mono hr h.2
    have g1 := mP_nonneg h.1 hr
    unfold pLevel
    show 0 ≤ (if b < pay - mP b r then b else pay - mP b r) ∧ (if b < pay - mP b r then b else pay - mP b r) ≤ b ∧ 0 ≤ b - (if b < pay - mP b r then b else pay - mP b r) ∧ b - (if b < pay - mP b r then b else pay - mP b r) ≤ P
    split <;> omega
theorem keepsBall {r c : Int} : Keeps (pBall c) r c (fun _ b => 0 ≤ b ∧ b ≤ 10000000000000) where
  lo := fun k b _ _ h => h
  idle := fun k b _ _ h _ => h
  step := fun k b _ _ h h0 => by
    unfold pBall
    show 0 ≤ (if k < c then 0 else b) ∧ (if k < c then 0 else b) ≤ b ∧ 0 ≤ b - (if k < c then 0 else b) ∧ b - (if k < c then 0 else b) ≤ _
    split <;> omega
def eqB (P c k : Int) : Int := P - (k - 1) * (P / c) - (if k - 1 ≤ P % c then k - 1 else P % c)
theorem keepsEqual {P r c : Int} (h1 : 1 ≤ P) (hP : P ≤ 10000000000000) (hc : 1 ≤ c) : Keeps (pEqual P c) r c (fun k b => b = eqB P c k) where
  lo := fun k b k1 k2 h => by
    rw [h]; unfold eqB
    have hd : c * (P / c) + P % c = P := Int.mul_ediv_add_emod P c
    have hm := Int.emod_nonneg P (show c ≠ 0 by omega)
    have hq : 0 ≤ P / c := Int.ediv_nonneg (by omega) (by omega)
    have hle : (k - 1) * (P / c) ≤ c * (P / c) := Int.mul_le_mul_of_nonneg_right (by omega) hq
    have hge : 0 ≤ (k - 1) * (P / c) := Int.mul_nonneg (by omega) hq
    generalize (k - 1) * (P / c) = x at *
    generalize c * (P / c) = z at *
    generalize P % c = m at *
    split <;> omega
  idle := fun k b k1 k2 h h0 => by
    rw [h] at h0 ⊢
    unfold eqB at h0 ⊢
    have hd : c * (P / c) + P % c = P := Int.mul_ediv_add_emod P c
    have hm := Int.emod_nonneg P (show c ≠ 0 by omega)
    have hmc := Int.emod_lt_of_pos P (show 0 < c by omega)
    have hq : 0 ≤ P / c := Int.ediv_nonneg (by omega) (by omega)
    have hle : k * (P / c) ≤ c * (P / c) := Int.mul_le_mul_of_nonneg_right (by omega) hq
    have e : k * (P / c) = (k - 1) * (P / c) + P / c := by rw [Int.sub_mul, Int.one_mul]; omega
    rw [show k + 1 - 1 = k by omega, e]
    rw [e] at hle
    generalize (k - 1) * (P / c) = x at *
    generalize c * (P / c) = z at *
    generalize P / c = q at *
    generalize P % c = m at *
    split at h0 <;> split <;> omega
  step := fun k b k1 k2 h h0 => by
    rw [h]
    unfold pEqual
    show 0 ≤ (if k ≤ P % c then P / c + 1 else P / c) ∧ (if k ≤ P % c then P / c + 1 else P / c) ≤ eqB P c k ∧ eqB P c k - (if k ≤ P % c then P / c + 1 else P / c) = eqB P c (k + 1)
    unfold eqB
    have hd : c * (P / c) + P % c = P := Int.mul_ediv_add_emod P c
    have hm := Int.emod_nonneg P (show c ≠ 0 by omega)
    have hq : 0 ≤ P / c := Int.ediv_nonneg (by omega) (by omega)
    have hle : k * (P / c) ≤ c * (P / c) := Int.mul_le_mul_of_nonneg_right (by omega) hq
    have e : k * (P / c) = (k - 1) * (P / c) + P / c := by rw [Int.sub_mul, Int.one_mul]; omega
    rw [show k + 1 - 1 = k by omega, e]
    rw [e] at hle
    generalize (k - 1) * (P / c) = x at *
    generalize c * (P / c) = z at *
    generalize P / c = q at *
    generalize P % c = m at *
    split <;> split <;> (try split) <;> omega
theorem plans (t : T25) (s : List Int) : ∃ pl : Bool × List T99, F_plan (t, (), ()) (s, ()) = ⟨true, false, ((), pl.1, ()), ((), pl.2, ()), ()⟩ ∧ F_rPlan (t, (), ()) (s, ()) = ⟨true, false, ((), pl.1, ()), ((), pl.2, ()), ()⟩ ∧ pl.2.length ≤ 120 ∧ (pl.1 = true → okT t = true) := by
  rw [F_plan_eq, F_rPlan_eq, valid t, rValid t]
  cases hv : okT t with
  | false => exact ⟨(false, []), rfl, rfl, by simp, fun h => by cases h⟩
  | true =>
  by_cases hs : s.length ≤ 64
  · have d0 : decide (((s.length : Nat) : Int) > 64) = false := by simp; omega
    simp only [Bool.not_true, cond_false, d0]
    obtain ⟨kd, P, r, c, st, ru, ⟨⟩⟩ := t
    obtain ⟨a1, a2, a3, a4, a5, a6, a7, a8, a9, a10, a11, a12⟩ := okT_out hv
    obtain ⟨y, m, anc, e, hd⟩ := dues (kd := kd) (P := P) (r := r) (c := c) (ru := ru) (s := s) (by omega) a9 a10
    obtain ⟨due, hdR, hdP⟩ : ∃ due : Int → Int × Bool × Unit, (∀ k, 1 ≤ k → k ≤ c → F_rDue ((kd, P, r, c, st, ru, ()), (), k, ()) (s, ()) = ⟨true, false, due k, ((), ()), ()⟩) ∧
        (∀ k, 1 ≤ k → k ≤ c → ∃ a : Int × Bool × Unit, F_addMonths (st, k, anc, ()) () = ⟨true, false, a, (), ()⟩ ∧ (a.2.1 = true → F_adjust (a.1, (), ru, ()) (s, ()) = ⟨true, false, due k, ((), ()), ()⟩) ∧ (a.2.1 = false → due k = (0, false, ()))) := by
      refine ⟨fun k => (F_rDue ((kd, P, r, c, st, ru, ()), (), k, ()) (s, ())).ret, fun k k1 k2 => ?_, fun k k1 k2 => ?_⟩
      · obtain ⟨a, d, h, _⟩ := hd k k1 (by omega)
        simp only [h]
      · obtain ⟨a, d, h, h2, h3, h4⟩ := hd k k1 (by omega)
        simp only [h]; exact ⟨a, h2, h3, h4⟩
    obtain ⟨pay, hl, e3, e4⟩ := levels (b := P) (r := r) (c := c) (by omega) a4 a5 a6 a7 a8
    have hpay : mP P r < pay := by
      have := hl.2.2.1
      obtain ⟨n, hn⟩ : ∃ n, c.toNat = n + 1 := ⟨c.toNat - 1, by omega⟩
      rw [hn] at this
      unfold payP at this
      split at this
      · cases this
      · omega
    have hpay2 := hl.2.1
    have hq : 0 ≤ P / c := Int.ediv_nonneg (by omega) (by omega)
    have hq2 : P / c ≤ P := Int.ediv_le_self _ (by omega)
    have hk1 : ∀ h, k_plan (((kd, P, r, c, st, ru, ()) : T25), (), ()) h = c.toNat + 2 := fun _ => rfl
    have hk2 : ∀ h, k_rPlan (((kd, P, r, c, st, ru, ()) : T25), (), ()) h = c.toNat + 2 := fun _ => rfl
    simp only [e, e3, e4, hk1, hk2, Bool.not_true, cond_false, cond_true, Bool.and_true, Bool.true_and]
    have room : ([] : List T99).length + c.toNat ≤ 1000 := by simp; omega
    by_cases c0 : kd = 0
    · subst c0
      have hrp : ∀ k b, 1 ≤ k → k ≤ c → (0 ≤ b ∧ b ≤ P) → F_rpart (((0 : Int), P, r, c, st, ru, ()), pay, k, b, mP b r, ()) () = ⟨true, false, pLevel pay k b (mP b r), (), ()⟩ := fun k b k1 k2 h => by
        rw [F_rpart_eq]
        have g := mP_mono a5 h.2
        have g1 := mP_nonneg h.1 a5
        have w : IntKind.i64.wrap (pay - mP b r) = pay - mP b r := w64 (by omega) (by omega)
        simp only [w, beq_self_eq_true, cond_true]
        have ee : pLevel pay k b (mP b r) = if pay - mP b r < b then pay - mP b r else b := by
          unfold pLevel; clear w; split <;> split <;> omega
        rw [ee]
        by_cases cc : pay - mP b r < b
        · have : decide (pay - mP b r < b) = true := by simpa using cc
          rw [this, if_pos cc]; rfl
        · have : decide (pay - mP b r < b) = false := by simpa using cc
          rw [this, if_neg cc]; rfl
      have A := L_plan17 (due := due) (part := pLevel pay) (kd := 0) (P := P) (st := st) (pay := pay) a5 a6 a7 (by omega) (keepsLevel a5 hpay a4) (fun k b k1 k2 h h0 => by
        have g := mP_mono a5 h.2
        have g1 := mP_nonneg h.1 a5
        have w : IntKind.i64.wrap (pay - mP b r) = pay - mP b r := w64 (by omega) (by omega)
        rw [w]; rfl) hdP c.toNat (c.toNat + 2) 1 P [] (by omega) (by omega) (by omega) ⟨by omega, by omega⟩ room
      have B := L_rPlan (due := due) (part := pLevel pay) (kd := 0) (P := P) (st := st) (ru := ru) (pay := pay) (s := s) a5 a6 (by omega) (keepsLevel a5 hpay a4) hrp hdR c.toNat (c.toNat + 2) 1 P [] (by omega) (by omega) (by omega) ⟨by omega, by omega⟩ room
      simp only [beq_self_eq_true, cond_true, A, B, Bool.and_true]
      exact ⟨_, rfl, rfl, Nat.le_trans (planP_length _ _ _ _) (by simp; omega), fun _ => trivial⟩
    have e0 : (kd == 0) = false := by simpa using c0
    by_cases c1 : kd = 1
    · subst c1
      have tm : P.tmod c = P % c := Int.tmod_eq_emod_of_nonneg (by omega)
      have td : P.tdiv c = P / c := Int.tdiv_eq_ediv_of_nonneg (by omega)
      have wq : IntKind.i64.wrap (P / c) = P / c := w64 (by omega) (by omega)
      have wq1 : IntKind.i64.wrap (P / c + 1) = P / c + 1 := w64 (by omega) (by omega)
      have hd2 : P / c * c + P % c = P := Int.ediv_mul_add_emod P c
      have hm0 := Int.emod_nonneg P (show c ≠ 0 by omega)
      have wm : IntKind.i64.wrap (P / c * c) = P / c * c := w64 (by have : 0 ≤ P / c * c := Int.mul_nonneg hq (by omega); omega) (by omega)
      have ws : IntKind.i64.wrap (P - P / c * c) = P % c := by rw [show P - P / c * c = P % c by omega]; exact w64 (by omega) (by have := Int.emod_lt_of_pos P (show 0 < c by omega); omega)
      have ec : (c != 0) = true := by simp; omega
      have hrp : ∀ k b, 1 ≤ k → k ≤ c → b = eqB P c k → F_rpart (((1 : Int), P, r, c, st, ru, ()), pay, k, b, mP b r, ()) () = ⟨true, false, pEqual P c k b (mP b r), (), ()⟩ := fun k b k1 k2 h => by
        rw [F_rpart_eq]
        have e10 : ((1 : Int) == 0) = false := rfl
        simp only [e10, beq_self_eq_true, cond_true, cond_false, tm, td, wq, wq1, wm, ws, ec]
        unfold pEqual
        by_cases cc : k ≤ P % c
        · have : decide (k ≤ P % c) = true := by simpa using cc
          rw [this, if_pos cc]; rfl
        · have : decide (k ≤ P % c) = false := by simpa using cc
          rw [this, if_neg cc]; rfl
      have A := L_plan17_1 (due := due) (part := pEqual P c) (kd := 1) (P := P) (st := st) (pay := 0) a5 a6 a7 (by omega) (keepsEqual a3 a4 a7) (fun k b k1 k2 h h0 => by
        rw [tm, td, wq, wq1]
        unfold pEqual
        by_cases cc : k ≤ P % c
        · have : decide (k ≤ P % c) = true := by simpa using cc
          rw [this, if_pos cc]; rfl
        · have : decide (k ≤ P % c) = false := by simpa using cc
          rw [this, if_neg cc]; rfl) hdP c.toNat (c.toNat + 2) 1 P [] (by omega) (by omega) (by omega) (by unfold eqB; rw [if_pos (by omega)]; omega) room
      have B := L_rPlan (due := due) (part := pEqual P c) (kd := 1) (P := P) (st := st) (ru := ru) (pay := pay) (s := s) a5 a6 (by omega) (keepsEqual a3 a4 a7) hrp hdR c.toNat (c.toNat + 2) 1 P [] (by omega) (by omega) (by omega) (by unfold eqB; rw [if_pos (by omega)]; omega) room
      simp only [e0, beq_self_eq_true, cond_true, cond_false, A, B, Bool.and_true]
      exact ⟨_, rfl, rfl, Nat.le_trans (planP_length _ _ _ _) (by simp; omega), fun _ => trivial⟩
    · have c2 : kd = 2 := by omega
      subst c2
      have e1 : ((2 : Int) == 1) = false := rfl
      have hrp : ∀ k b, 1 ≤ k → k ≤ c → (0 ≤ b ∧ b ≤ 10000000000000) → F_rpart (((2 : Int), P, r, c, st, ru, ()), pay, k, b, mP b r, ()) () = ⟨true, false, pBall c k b (mP b r), (), ()⟩ := fun k b k1 k2 h => by
        rw [F_rpart_eq]
        simp only [e0, e1, cond_true, cond_false]
        unfold pBall
        by_cases cc : k < c
        · have : decide (k < c) = true := by simpa using cc
          rw [this, if_pos cc]; rfl
        · have : decide (k < c) = false := by simpa using cc
          rw [this, if_neg cc]; rfl
      have A := L_plan17_2 (due := due) (part := pBall c) (kd := 2) (P := P) (st := st) (pay := 0) a5 a6 a7 (by omega) (keepsBall (r := r) (c := c)) (fun k b k1 k2 h h0 => by
        unfold pBall
        by_cases cc : k < c
        · have : decide (k < c) = true := by simpa using cc
          rw [this, if_pos cc]; rfl
        · have : decide (k < c) = false := by simpa using cc
          rw [this, if_neg cc]; rfl) hdP c.toNat (c.toNat + 2) 1 P [] (by omega) (by omega) (by omega) ⟨by omega, by omega⟩ room
      have B := L_rPlan (due := due) (part := pBall c) (kd := 2) (P := P) (st := st) (ru := ru) (pay := pay) (s := s) a5 a6 (by omega) (keepsBall (r := r) (c := c)) hrp hdR c.toNat (c.toNat + 2) 1 P [] (by omega) (by omega) (by omega) ⟨by omega, by omega⟩ room
      simp only [e0, e1, cond_true, cond_false, A, B, Bool.and_true]
      exact ⟨_, rfl, rfl, Nat.le_trans (planP_length _ _ _ _) (by simp; omega), fun _ => trivial⟩
  · have d0 : decide (((s.length : Nat) : Int) > 64) = true := by simp; omega
    simp only [Bool.not_true, cond_false, cond_true, d0]
    exact ⟨(false, []), rfl, rfl, by simp, fun h => by cases h⟩
end Go.Proofs.YtklpneeakhbahaaGreatDoor.Fs
end
section
set_option linter.unusedVariables false
set_option linter.unusedSimpArgs false
set_option maxRecDepth 20000
namespace Go.Proofs.YtklpneeakhbahaaGreatDoor.Fs
open Go Go.Proofs.YtklpneeakhbahaaGreatDoor.Ls P Go.Proofs.YtklpneeakhbahaaGreatDoor.Cal
def ascP : Int → List Int → Bool
  | _, [] => true
  | last, x :: r => if x ≤ last ∨ 3652059 < x then false else ascP x r
theorem drop_one {s : List Int} {i : Nat} (h : i < s.length) : s.drop i = s.getD i 0 :: s.drop (i + 1) := by
  rw [List.drop_eq_getElem_cons h]
  congr 1
  simp [List.getD, List.getElem?_eq_getElem h]
theorem L_days {s : List Int} (hs : s.length ≤ 1000000) : ∀ (n k i : Nat) (last : Int), n < k → i + n = s.length →
    L_days_6 k ((last, (), ((s.length : Nat) : Int), (i : Int), ()), s, ()) = ⟨true, false, ascP last (s.drop i), ((), ()), ()⟩
  | n, 0, i, last, hk, _ => by omega
  | n, k + 1, i, last, hk, hn => by
    rw [L_days_6_eq]
    by_cases c : i < s.length
    · have d : decide ((i : Int) < ((s.length : Nat) : Int)) = true := by simp; omega
      have w : IntKind.i64.wrap ((i : Int) + 1) = ((i + 1 : Nat) : Int) := w64 (by omega) (by omega)
      simp only [inb c]
      simp only [d, cond_true, w, Bool.true_and, Int.toNat_natCast, csame]
      rw [drop_one c]
      unfold ascP
      by_cases c1 : s.getD i 0 ≤ last
      · have c1' : decide (s.getD i 0 ≤ last) = true := by rw [decide_eq_true_eq]; exact c1
        rw [c1', if_pos (Or.inl c1)]; rfl
      · have c1' : decide (s.getD i 0 ≤ last) = false := by rw [decide_eq_false_iff_not]; exact c1
        by_cases c2 : s.getD i 0 > 3652059
        · have c2' : decide (s.getD i 0 > 3652059) = true := by rw [decide_eq_true_eq]; exact c2
          rw [c1', c2', if_pos (Or.inr c2)]; rfl
        · have c2' : decide (s.getD i 0 > 3652059) = false := by rw [decide_eq_false_iff_not]; exact c2
          rw [c1', c2', if_neg (by omega)]
          obtain ⟨n', rfl⟩ : ∃ n', n = n' + 1 := ⟨n - 1, by omega⟩
          simp only [cond_false]
          rw [L_days hs n' k (i + 1) (s.getD i 0) (by omega) (by omega)]
    · have d : decide ((i : Int) < ((s.length : Nat) : Int)) = false := by simp; omega
      simp only [d, cond_false]
      rw [List.drop_eq_nil_of_le (by omega)]; rfl
theorem L_holidays {s : List Int} (hs : s.length ≤ 1000000) : ∀ (n k i : Nat) (last : Int), n < k → i + n = s.length → 0 ≤ last → (0 < i → last = s.getD (i - 1) 0) → (i = 0 → last = 0) →
    L_holidays_5 k (((), (i : Int), ()), s, ()) = ⟨true, false, ascP last (s.drop i), ((), ()), ()⟩
  | n, 0, i, last, hk, _, _, _, _ => by omega
  | n, k + 1, i, last, hk, hn, hl, h1, h2 => by
    rw [L_holidays_5_eq]
    by_cases c : i < s.length
    · have d : decide ((i : Int) < ((s.length : Nat) : Int)) = true := by simp; omega
      have w : IntKind.i64.wrap ((i : Int) + 1) = ((i + 1 : Nat) : Int) := w64 (by omega) (by omega)
      have e1 : (decide ((0 : Int) ≤ (i : Int)) && decide ((i : Int) < ((s.length : Nat) : Int))) = true := by simp; omega
      have e2 : Nat.blt (i : Int).toNat s.length = true := by rw [Int.toNat_natCast]; exact Nat.ble_eq_true_of_le c
      simp only [e1, e2, Bool.true_and]
      simp only [d, cond_true, w, Bool.true_and, Int.toNat_natCast]
      rw [drop_one c]
      unfold ascP
      by_cases c0 : s.getD i 0 < 1
      · have c0' : decide (s.getD i 0 < 1) = true := by rw [decide_eq_true_eq]; exact c0
        rw [c0', if_pos (Or.inl (by omega))]; rfl
      have c0' : decide (s.getD i 0 < 1) = false := by rw [decide_eq_false_iff_not]; exact c0
      by_cases c2 : s.getD i 0 > 3652059
      · have c2' : decide (s.getD i 0 > 3652059) = true := by rw [decide_eq_true_eq]; exact c2
        rw [c0', c2', if_pos (Or.inr c2)]; rfl
      have c2' : decide (s.getD i 0 > 3652059) = false := by rw [decide_eq_false_iff_not]; exact c2
      obtain ⟨n', rfl⟩ : ∃ n', n = n' + 1 := ⟨n - 1, by omega⟩
      by_cases ci : 0 < i
      · have ci' : decide ((i : Int) > 0) = true := by simp; omega
        have w2 : IntKind.i64.wrap ((i : Int) - 1) = ((i - 1 : Nat) : Int) := by rw [w64 (by omega) (by omega)]; omega
        have e3 : (decide ((0 : Int) ≤ ((i - 1 : Nat) : Int)) && decide (((i - 1 : Nat) : Int) < ((s.length : Nat) : Int))) = true := by simp; omega
        have e4 : Nat.blt (i - 1) s.length = true := Nat.ble_eq_true_of_le (by omega)
        simp only [c0', c2', ci', w2, e3, cond_false, cond_true, Int.toNat_natCast, e4, Bool.and_true, ← h1 ci]
        by_cases c1 : s.getD i 0 ≤ last
        · have c1' : decide (s.getD i 0 ≤ last) = true := by rw [decide_eq_true_eq]; exact c1
          rw [c1', if_pos (Or.inl c1)]; rfl
        · have c1' : decide (s.getD i 0 ≤ last) = false := by rw [decide_eq_false_iff_not]; exact c1
          rw [c1', if_neg (by omega)]
          rw [L_holidays hs n' k (i + 1) (s.getD i 0) (by omega) (by omega) (by omega) (fun _ => rfl) (fun h => by omega)]
          rfl
      · have ci' : decide ((i : Int) > 0) = false := by simp; omega
        simp only [c0', c2', ci', cond_false, cond_true, Bool.and_true]
        have hl0 := h2 (by omega)
        rw [if_neg (by omega)]
        rw [L_holidays hs n' k (i + 1) (s.getD i 0) (by omega) (by omega) (by omega) (fun _ => rfl) (fun h => by omega)]
        rfl
    · have d : decide ((i : Int) < ((s.length : Nat) : Int)) = false := by simp; omega
      simp only [d, cond_false]
      rw [List.drop_eq_nil_of_le (by omega)]; rfl
def okH (s : List Int) : Bool := if 64 < s.length then false else ascP 0 s
theorem days (p : T23) (s : List Int) : F_days (p, ()) (s, ()) = ⟨true, false, okH s, ((), ()), ()⟩ := by
  rw [F_days_eq]
  unfold okH
  by_cases c : 64 < s.length
  · have d : decide (((s.length : Nat) : Int) > 64) = true := by simp; omega
    rw [d, if_pos c]; rfl
  · have d : decide (((s.length : Nat) : Int) > 64) = false := by simp; omega
    rw [d, if_neg c]
    have hk : k_days (p, ()) (s, ()) = s.length + 2 := rfl
    rw [hk]
    exact L_days (s := s) (by omega) s.length (s.length + 2) 0 0 (by omega) (by omega)
theorem holidays (s : List Int) : F_holidays ((), ()) (s, ()) = ⟨true, false, okH s, ((), ()), ()⟩ := by
  rw [F_holidays_eq]
  unfold okH
  by_cases c : 64 < s.length
  · have d : decide (((s.length : Nat) : Int) > 64) = true := by simp; omega
    rw [d, if_pos c]; rfl
  · have d : decide (((s.length : Nat) : Int) > 64) = false := by simp; omega
    rw [d, if_neg c]
    have hk : k_holidays ((), ()) (s, ()) = s.length + 2 := rfl
    rw [hk]
    have e := L_holidays (s := s) (by omega) s.length (s.length + 2) 0 0 (by omega) (by omega) (by omega) (fun h => by omega) (fun _ => rfl)
    rw [List.drop_zero] at e
    rw [show ((0 : Nat) : Int) = 0 from rfl] at e
    rw [e]; rfl
def c1 (p : T23) : Bool := (bif decide (p.1 ≥ 1) then decide (p.1 ≤ 3652059) else false)
def c2 (p : T23) : Bool := (bif decide (p.2.1 ≥ 0) then decide (p.2.1 ≤ 30) else false)
def c3 (p : T23) : Bool := (bif decide (p.2.2.1 > p.2.1) then decide (p.2.2.1 ≤ 365) else false)
def c4 (p : T23) : Bool := (bif decide (p.2.2.2.1 ≥ 1) then decide (p.2.2.2.1 ≤ 365) else false)
def c5 (p : T23) : Bool := (bif decide (p.2.2.2.2.1 ≥ 0) then decide (p.2.2.2.2.1 ≤ 10000) else false)
def c6 (p : T23) : Bool := (bif decide (p.2.2.2.2.2.1 ≥ 0) then decide (p.2.2.2.2.2.1 ≤ 1000000000) else false)
def c7 (p : T23) : Bool := (bif (decide (p.2.2.2.2.2.2.1 ≥ p.2.2.2.2.2.1)) then decide (p.2.2.2.2.2.2.1 ≤ 1000000000) else false)
def c8 (p : T23) : Bool := (bif (decide (p.2.2.2.2.2.2.2.1 ≥ 0)) then decide (p.2.2.2.2.2.2.2.1 ≤ 1000000000) else false)
def c9 (p : T23) : Bool := (bif (decide (p.2.2.2.2.2.2.2.2.1 ≥ 0)) then decide (p.2.2.2.2.2.2.2.2.1 ≤ 1000000000) else false)
def c10 (p : T23) : Bool := (bif (decide (p.2.2.2.2.2.2.2.2.2.1 ≥ 0)) then decide (p.2.2.2.2.2.2.2.2.2.1 ≤ 8) else false)
def c11 (p : T23) : Bool := (bif (decide ((p.2.2.2.2.2.2.2.2.2.2.1) ≥ 1)) then decide ((p.2.2.2.2.2.2.2.2.2.2.1) ≤ 60) else false)
def c12 (p : T23) : Bool := (bif (decide (((p.2.2.2.2.2.2.2.2.2.2.2).1) ≥ 0)) then decide (((p.2.2.2.2.2.2.2.2.2.2.2).1) ≤ 4) else false)
def c13 (p : T23) : Bool := (bif (decide ((((p.2.2.2.2.2.2.2.2.2.2.2).2).1) ≥ 0)) then decide ((((p.2.2.2.2.2.2.2.2.2.2.2).2).1) ≤ 5) else false)
def c14 (p : T23) : Bool := (bif (decide (((((p.2.2.2.2.2.2.2.2.2.2.2).2).2).1) ≥ 0)) then decide (((((p.2.2.2.2.2.2.2.2.2.2.2).2).2).1) ≤ 3) else false)
def c15 (p : T23) : Bool := (bif (decide ((((((p.2.2.2.2.2.2.2.2.2.2.2).2).2).2).1) ≥ 1)) then decide ((((((p.2.2.2.2.2.2.2.2.2.2.2).2).2).2).1) ≤ 64) else false)
def c16 (p : T23) : Bool := (bif (decide (((((((p.2.2.2.2.2.2.2.2.2.2.2).2).2).2).2).1) ≥ (((((p.2.2.2.2.2.2.2.2.2.2.2).2).2).2).1))) then decide (((((((p.2.2.2.2.2.2.2.2.2.2.2).2).2).2).2).1) ≤ 64) else false)
def c17 (p : T23) : Bool := (bif (decide (((((((p.2.2.2.2.2.2.2.2.2.2.2).2).2).2).2).2.1) ≥ 0)) then decide (((((((p.2.2.2.2.2.2.2.2.2.2.2).2).2).2).2).2.1) ≤ 1000) else false)
theorem pmay1 (p : T23) (s : List Int) : F_pmay (p, (1 : Int), ()) (s, ()) = ⟨true, false, c1 p, ((), ()), ()⟩ := by
  rw [F_pmay_eq]; unfold c1; simp only [csame, Int.reduceBEq, cond_true, cond_false]
theorem pmay2 (p : T23) (s : List Int) : F_pmay (p, (2 : Int), ()) (s, ()) = ⟨true, false, c2 p, ((), ()), ()⟩ := by
  rw [F_pmay_eq]; unfold c2; simp only [csame, Int.reduceBEq, cond_true, cond_false]
theorem pmay3 (p : T23) (s : List Int) : F_pmay (p, (3 : Int), ()) (s, ()) = ⟨true, false, c3 p, ((), ()), ()⟩ := by
  rw [F_pmay_eq]; unfold c3; simp only [csame, Int.reduceBEq, cond_true, cond_false]
theorem pmay4 (p : T23) (s : List Int) : F_pmay (p, (4 : Int), ()) (s, ()) = ⟨true, false, c4 p, ((), ()), ()⟩ := by
  rw [F_pmay_eq]; unfold c4; simp only [csame, Int.reduceBEq, cond_true, cond_false]
theorem pmay5 (p : T23) (s : List Int) : F_pmay (p, (5 : Int), ()) (s, ()) = ⟨true, false, c5 p, ((), ()), ()⟩ := by
  rw [F_pmay_eq]; unfold c5; simp only [csame, Int.reduceBEq, cond_true, cond_false]
theorem pmay6 (p : T23) (s : List Int) : F_pmay (p, (6 : Int), ()) (s, ()) = ⟨true, false, c6 p, ((), ()), ()⟩ := by
  rw [F_pmay_eq]; unfold c6; simp only [csame, Int.reduceBEq, cond_true, cond_false]
theorem pmay7 (p : T23) (s : List Int) : F_pmay (p, (7 : Int), ()) (s, ()) = ⟨true, false, c7 p, ((), ()), ()⟩ := by
  rw [F_pmay_eq]; unfold c7; simp only [csame, Int.reduceBEq, cond_true, cond_false]
theorem pmay8 (p : T23) (s : List Int) : F_pmay (p, (8 : Int), ()) (s, ()) = ⟨true, false, c8 p, ((), ()), ()⟩ := by
  rw [F_pmay_eq]; unfold c8; simp only [csame, Int.reduceBEq, cond_true, cond_false]
theorem pmay9 (p : T23) (s : List Int) : F_pmay (p, (9 : Int), ()) (s, ()) = ⟨true, false, c9 p, ((), ()), ()⟩ := by
  rw [F_pmay_eq]; unfold c9; simp only [csame, Int.reduceBEq, cond_true, cond_false]
theorem pmay10 (p : T23) (s : List Int) : F_pmay (p, (10 : Int), ()) (s, ()) = ⟨true, false, c10 p, ((), ()), ()⟩ := by
  rw [F_pmay_eq]; unfold c10; simp only [csame, Int.reduceBEq, cond_true, cond_false]
theorem pmay11 (p : T23) (s : List Int) : F_pmay (p, (11 : Int), ()) (s, ()) = ⟨true, false, c11 p, ((), ()), ()⟩ := by
  rw [F_pmay_eq]; unfold c11; simp only [csame, Int.reduceBEq, cond_true, cond_false]
theorem pmay12 (p : T23) (s : List Int) : F_pmay (p, (12 : Int), ()) (s, ()) = ⟨true, false, c12 p, ((), ()), ()⟩ := by
  rw [F_pmay_eq]; unfold c12; simp only [csame, Int.reduceBEq, cond_true, cond_false]
theorem pmay13 (p : T23) (s : List Int) : F_pmay (p, (13 : Int), ()) (s, ()) = ⟨true, false, c13 p, ((), ()), ()⟩ := by
  rw [F_pmay_eq]; unfold c13; simp only [csame, Int.reduceBEq, cond_true, cond_false]
theorem pmay14 (p : T23) (s : List Int) : F_pmay (p, (14 : Int), ()) (s, ()) = ⟨true, false, c14 p, ((), ()), ()⟩ := by
  rw [F_pmay_eq]; unfold c14; simp only [csame, Int.reduceBEq, cond_true, cond_false]
theorem pmay15 (p : T23) (s : List Int) : F_pmay (p, (15 : Int), ()) (s, ()) = ⟨true, false, c15 p, ((), ()), ()⟩ := by
  rw [F_pmay_eq]; unfold c15; simp only [csame, Int.reduceBEq, cond_true, cond_false]
theorem pmay16 (p : T23) (s : List Int) : F_pmay (p, (16 : Int), ()) (s, ()) = ⟨true, false, c16 p, ((), ()), ()⟩ := by
  rw [F_pmay_eq]; unfold c16; simp only [csame, Int.reduceBEq, cond_true, cond_false]
theorem pmay17 (p : T23) (s : List Int) : F_pmay (p, (17 : Int), ()) (s, ()) = ⟨true, false, c17 p, ((), ()), ()⟩ := by
  rw [F_pmay_eq]; unfold c17; simp only [csame, Int.reduceBEq, cond_true, cond_false]
theorem pmay18 (p : T23) (s : List Int) : F_pmay (p, (18 : Int), ()) (s, ()) = ⟨true, false, okH s, ((), ()), ()⟩ := by
  rw [F_pmay_eq]; have hh := holidays s; simp only [csame, hh, Int.reduceBEq, cond_true, cond_false]
theorem w01 : IntKind.i64.wrap ((0 : Int) + (1 : Int)) = 1 := by rfl
theorem w2 : IntKind.i64.wrap ((1 : Int) + (1 : Int)) = 2 := by rfl
theorem w3 : IntKind.i64.wrap ((2 : Int) + (1 : Int)) = 3 := by rfl
theorem w4 : IntKind.i64.wrap ((3 : Int) + (1 : Int)) = 4 := by rfl
theorem w5 : IntKind.i64.wrap ((4 : Int) + (1 : Int)) = 5 := by rfl
theorem w6 : IntKind.i64.wrap ((5 : Int) + (1 : Int)) = 6 := by rfl
theorem w7 : IntKind.i64.wrap ((6 : Int) + (1 : Int)) = 7 := by rfl
theorem w8 : IntKind.i64.wrap ((7 : Int) + (1 : Int)) = 8 := by rfl
theorem w9 : IntKind.i64.wrap ((8 : Int) + (1 : Int)) = 9 := by rfl
theorem w10 : IntKind.i64.wrap ((9 : Int) + (1 : Int)) = 10 := by rfl
theorem w11 : IntKind.i64.wrap ((10 : Int) + (1 : Int)) = 11 := by rfl
theorem w12 : IntKind.i64.wrap ((11 : Int) + (1 : Int)) = 12 := by rfl
theorem w13 : IntKind.i64.wrap ((12 : Int) + (1 : Int)) = 13 := by rfl
theorem w14 : IntKind.i64.wrap ((13 : Int) + (1 : Int)) = 14 := by rfl
theorem w15 : IntKind.i64.wrap ((14 : Int) + (1 : Int)) = 15 := by rfl
theorem w16 : IntKind.i64.wrap ((15 : Int) + (1 : Int)) = 16 := by rfl
theorem w17 : IntKind.i64.wrap ((16 : Int) + (1 : Int)) = 17 := by rfl
theorem w18 : IntKind.i64.wrap ((17 : Int) + (1 : Int)) = 18 := by rfl
def chk (p : T23) (s : List Int) : Int × Int × Unit :=
  bif !c1 p then (120, 1, ()) else bif !c2 p then (120, 2, ()) else bif !c3 p then (120, 3, ()) else bif !c4 p then (120, 4, ()) else bif !c5 p then (120, 5, ()) else bif !c6 p then (120, 6, ()) else bif !c7 p then (120, 7, ()) else bif !c8 p then (120, 8, ()) else bif !c9 p then (120, 9, ()) else bif !c10 p then (120, 10, ()) else bif !c11 p then (120, 11, ()) else bif !c12 p then (120, 12, ()) else bif !c13 p then (120, 13, ()) else bif !c14 p then (120, 14, ()) else bif !c15 p then (120, 15, ()) else bif !c16 p then (120, 16, ()) else bif !c17 p then (120, 17, ()) else bif !okH s then (120, 18, ()) else (0, 0, ())
theorem rCheck (p : T23) (s : List Int) : F_rCheck (p, ()) (s, ()) = ⟨true, false, chk p s, ((), ()), ()⟩ := by
  rw [F_rCheck_eq]
  have q1 := pmay1 p s
  have q2 := pmay2 p s
  have q3 := pmay3 p s
  have q4 := pmay4 p s
  have q5 := pmay5 p s
  have q6 := pmay6 p s
  have q7 := pmay7 p s
  have q8 := pmay8 p s
  have q9 := pmay9 p s
  have q10 := pmay10 p s
  have q11 := pmay11 p s
  have q12 := pmay12 p s
  have q13 := pmay13 p s
  have q14 := pmay14 p s
  have q15 := pmay15 p s
  have q16 := pmay16 p s
  have q17 := pmay17 p s
  have q18 := pmay18 p s
  simp only [w01, w2, w3, w4, w5, w6, w7, w8, w9, w10, w11, w12, w13, w14, w15, w16, w17, w18, q1, q2, q3, q4, q5, q6, q7, q8, q9, q10, q11, q12, q13, q14, q15, q16, q17, q18, Bool.and_true]
  unfold chk
  cases c1 p with
  | false => rfl
  | true =>
  cases c2 p with
  | false => rfl
  | true =>
  cases c3 p with
  | false => rfl
  | true =>
  cases c4 p with
  | false => rfl
  | true =>
  cases c5 p with
  | false => rfl
  | true =>
  cases c6 p with
  | false => rfl
  | true =>
  cases c7 p with
  | false => rfl
  | true =>
  cases c8 p with
  | false => rfl
  | true =>
  cases c9 p with
  | false => rfl
  | true =>
  cases c10 p with
  | false => rfl
  | true =>
  cases c11 p with
  | false => rfl
  | true =>
  cases c12 p with
  | false => rfl
  | true =>
  cases c13 p with
  | false => rfl
  | true =>
  cases c14 p with
  | false => rfl
  | true =>
  cases c15 p with
  | false => rfl
  | true =>
  cases c16 p with
  | false => rfl
  | true =>
  cases c17 p with
  | false => rfl
  | true =>
  cases okH s <;> rfl
theorem check (p : T23) (s : List Int) : F_check (p, ()) (s, ()) = ⟨true, false, chk p s, ((), ()), ()⟩ := by
  rw [F_check_eq]
  have hd := days p s
  simp only [w01, w2, w3, w4, w5, w6, w7, w8, w9, w10, w11, w12, w13, w14, w15, w16, w17, w18, csame, hd, Bool.and_true]
  unfold chk
  have e1 : ((bif decide (p.1 ≥ 1) then decide (p.1 ≤ 3652059) else false)) = c1 p := rfl
  rw [e1]
  cases h1 : c1 p with
  | false => rfl
  | true =>
  have e2 : ((bif decide (p.2.1 ≥ 0) then decide (p.2.1 ≤ 30) else false)) = c2 p := rfl
  rw [e2]
  cases h2 : c2 p with
  | false => rfl
  | true =>
  have h2 : c2 p = true := by assumption
  have e3 : (bif decide (p.2.2.1 ≥ IntKind.i64.wrap (p.2.1 + 1)) then decide (p.2.2.1 ≤ 365) else false) = c3 p := by
    have hb : 0 ≤ p.2.1 ∧ p.2.1 ≤ 30 := by
      have := h2; unfold c2 at this; rw [cft] at this; simpa using this
    rw [w64 (by omega) (by omega)]
    unfold c3
    by_cases g : p.2.2.1 ≥ p.2.1 + 1
    · have g1 : decide (p.2.2.1 ≥ p.2.1 + 1) = true := by rw [decide_eq_true_eq]; exact g
      have g2 : decide (p.2.2.1 > p.2.1) = true := by rw [decide_eq_true_eq]; omega
      rw [g1, g2]
    · have g1 : decide (p.2.2.1 ≥ p.2.1 + 1) = false := by rw [decide_eq_false_iff_not]; exact g
      have g2 : decide (p.2.2.1 > p.2.1) = false := by rw [decide_eq_false_iff_not]; omega
      rw [g1, g2]
  rw [e3]
  cases h3 : c3 p with
  | false => rfl
  | true =>
  have e4 : ((bif decide (p.2.2.2.1 ≥ 1) then decide (p.2.2.2.1 ≤ 365) else false)) = c4 p := rfl
  rw [e4]
  cases h4 : c4 p with
  | false => rfl
  | true =>
  have e5 : ((bif decide (p.2.2.2.2.1 ≥ 0) then decide (p.2.2.2.2.1 ≤ 10000) else false)) = c5 p := rfl
  rw [e5]
  cases h5 : c5 p with
  | false => rfl
  | true =>
  have e6 : ((bif decide (p.2.2.2.2.2.1 ≥ 0) then decide (p.2.2.2.2.2.1 ≤ 1000000000) else false)) = c6 p := rfl
  rw [e6]
  cases h6 : c6 p with
  | false => rfl
  | true =>
  have e7 : ((bif (decide (p.2.2.2.2.2.2.1 ≥ p.2.2.2.2.2.1)) then decide (p.2.2.2.2.2.2.1 ≤ 1000000000) else false)) = c7 p := rfl
  rw [e7]
  cases h7 : c7 p with
  | false => rfl
  | true =>
  have e8 : ((bif (decide (p.2.2.2.2.2.2.2.1 ≥ 0)) then decide (p.2.2.2.2.2.2.2.1 ≤ 1000000000) else false)) = c8 p := rfl
  rw [e8]
  cases h8 : c8 p with
  | false => rfl
  | true =>
  have e9 : ((bif (decide (p.2.2.2.2.2.2.2.2.1 ≥ 0)) then decide (p.2.2.2.2.2.2.2.2.1 ≤ 1000000000) else false)) = c9 p := rfl
  rw [e9]
  cases h9 : c9 p with
  | false => rfl
  | true =>
  have e10 : ((bif (decide (p.2.2.2.2.2.2.2.2.2.1 ≥ 0)) then decide (p.2.2.2.2.2.2.2.2.2.1 ≤ 8) else false)) = c10 p := rfl
  rw [e10]
  cases h10 : c10 p with
  | false => rfl
  | true =>
  have e11 : ((bif (decide ((p.2.2.2.2.2.2.2.2.2.2.1) ≥ 1)) then decide ((p.2.2.2.2.2.2.2.2.2.2.1) ≤ 60) else false)) = c11 p := rfl
  rw [e11]
  cases h11 : c11 p with
  | false => rfl
  | true =>
  have e12 : ((bif (decide (((p.2.2.2.2.2.2.2.2.2.2.2).1) ≥ 0)) then decide (((p.2.2.2.2.2.2.2.2.2.2.2).1) ≤ 4) else false)) = c12 p := rfl
  rw [e12]
  cases h12 : c12 p with
  | false => rfl
  | true =>
  have e13 : ((bif (decide ((((p.2.2.2.2.2.2.2.2.2.2.2).2).1) ≥ 0)) then decide ((((p.2.2.2.2.2.2.2.2.2.2.2).2).1) ≤ 5) else false)) = c13 p := rfl
  rw [e13]
  cases h13 : c13 p with
  | false => rfl
  | true =>
  have e14 : ((bif (decide (((((p.2.2.2.2.2.2.2.2.2.2.2).2).2).1) ≥ 0)) then decide (((((p.2.2.2.2.2.2.2.2.2.2.2).2).2).1) ≤ 3) else false)) = c14 p := rfl
  rw [e14]
  cases h14 : c14 p with
  | false => rfl
  | true =>
  have e15 : ((bif (decide ((((((p.2.2.2.2.2.2.2.2.2.2.2).2).2).2).1) ≥ 1)) then decide ((((((p.2.2.2.2.2.2.2.2.2.2.2).2).2).2).1) ≤ 64) else false)) = c15 p := rfl
  rw [e15]
  cases h15 : c15 p with
  | false => rfl
  | true =>
  have e16 : ((bif (decide (((((((p.2.2.2.2.2.2.2.2.2.2.2).2).2).2).2).1) ≥ (((((p.2.2.2.2.2.2.2.2.2.2.2).2).2).2).1))) then decide (((((((p.2.2.2.2.2.2.2.2.2.2.2).2).2).2).2).1) ≤ 64) else false)) = c16 p := rfl
  rw [e16]
  cases h16 : c16 p with
  | false => rfl
  | true =>
  have e17 : ((bif (decide (((((((p.2.2.2.2.2.2.2.2.2.2.2).2).2).2).2).2.1) ≥ 0)) then decide (((((((p.2.2.2.2.2.2.2.2.2.2.2).2).2).2).2).2.1) ≤ 1000) else false)) = c17 p := rfl
  rw [e17]
  cases h17 : c17 p with
  | false => rfl
  | true =>
  cases okH s <;> rfl
end Go.Proofs.YtklpneeakhbahaaGreatDoor.Fs
end
section
set_option linter.unusedVariables false
set_option linter.unusedSimpArgs false
set_option maxRecDepth 20000
namespace Go.Proofs.YtklpneeakhbahaaGreatDoor.Fs
open Go Go.Proofs.YtklpneeakhbahaaGreatDoor.Ls P Go.Proofs.YtklpneeakhbahaaGreatDoor.Cal
set_option maxHeartbeats 2000000 in
theorem post_one (n : Nat) (h1 : 1 ≤ n) (h2 : n ≤ 10000000000000) : F_post ((((0 : Int), (0 : Int), (0 : Int), (0 : Int), (0 : Int), (0 : Int), (0 : Int), (0 : Int), (0 : Int), (0 : Int), (0 : Int), (0 : Int), ()), ()), (), ()) ([((1 : Int), (6 : Int), (n : Int), ())], ()) =
    ⟨true, false, (((0, (n : Int), 0, 0, 0, 0, -(n : Int), 0, 0, 0, 0, 0, ()), ()), 0, ()), ((), ()), ()⟩ := by
  have hu : IntKind.u64.wrap (n : Int) = (n : Int) := wu64 (by omega) (by omega)
  have hf : (n : Int).fdiv 9223372036854775808 = 0 := by rw [Int.fdiv_eq_ediv_of_nonneg _ (by omega)]; omega
  have hm : n % 18446744073709551616 = n := by omega
  have hd : n / 18446744073709551616 = 0 := by omega
  have hs : (18446744073709551616 - n) % 18446744073709551616 = 18446744073709551616 - n := by omega
  have hw : IntKind.i64.wrap (n : Int) = (n : Int) := w64 (by omega) (by omega)
  have hw2 : IntKind.i64.wrap ((18446744073709551616 - n : Nat) : Int) = -(n : Int) := by
    unfold IntKind.wrap
    have e : (2 : Int) ^ IntKind.bits IntKind.i64 = 18446744073709551616 := by rfl
    have e2 : (2 : Int) ^ (IntKind.bits IntKind.i64 - 1) = 9223372036854775808 := by rfl
    simp only [e, e2, show IntKind.signed IntKind.i64 = true from rfl, Bool.true_and, decide_eq_true_eq]
    split <;> omega
  have hfd : (-(n : Int)).fdiv 9223372036854775808 = -1 := by rw [Int.fdiv_eq_ediv_of_nonneg _ (by omega)]; omega
  have hb : Nat.blt 0 n = true := Nat.ble_eq_true_of_le h1
  have c1 : decide ((n : Int) < 1) = false := by simp; omega
  have z0 : IntKind.i64.wrap 0 = 0 := rfl
  have z1 : IntKind.u64.wrap 0 = 0 := rfl
  have z2 : IntKind.i64.wrap 1 = 1 := rfl
  have zm : IntKind.i64.wrap (-1) = -1 := rfl
  have zf : (0 : Int).fdiv 9223372036854775808 = 0 := rfl
  have p63 : (2 : Int) ^ (min ((63 : Int).toNat) 64) = 9223372036854775808 := rfl
  rw [F_post_one]
  simp only [p63]
  simp only [w01, w2, w3, w4, w5, w6, w7, w8, w9, w10, w11, w12]
  have q1 : ((n : Int) == -9223372036854775808) = false := by rw [beq_eq_false_iff_ne]; omega
  have q2 : (-(n : Int) == -9223372036854775808) = false := by rw [beq_eq_false_iff_ne]; omega
  have q3 : decide ((n : Int) < 0) = false := by rw [decide_eq_false_iff_not]; omega
  simp [hu, hf, hm, hd, hs, hw, hw2, hfd, hb, c1, z0, z1, z2, zm, zf]
  have q4 : decide (0 < n) = true := by rw [decide_eq_true_eq]; omega
  simp only [q1, q2, q3, q4, cond_false, cond_true]
  rfl
end Go.Proofs.YtklpneeakhbahaaGreatDoor.Fs
end
section
set_option linter.unusedVariables false
set_option linter.unusedSimpArgs false
set_option maxRecDepth 20000
namespace Go.Proofs.YtklpneeakhbahaaGreatDoor.Fs
open Go Go.Proofs.YtklpneeakhbahaaGreatDoor.Ls P Go.Proofs.YtklpneeakhbahaaGreatDoor.Cal
def sumB (T : Int) : Int × Bool × Unit := if -9223372036854775808 ≤ T ∧ T ≤ 9223372036854775807 then (T, true, ()) else (0, false, ())
theorem getD_mem {s : List Int} {i : Nat} (h : i < s.length) : s.getD i 0 ∈ s := by
  simp [List.getD, List.getElem?_eq_getElem h]
theorem L_rsum {s : List Int} (hs : s.length ≤ 1000) (hx : ∀ x ∈ s, -9223372036854775808 ≤ x ∧ x ≤ 9223372036854775807) :
    ∀ (n k i : Nat) (hh l : Int), n < k → i + n = s.length → -2147483648 * i ≤ hh → hh ≤ 2147483648 * i → 0 ≤ l → l ≤ 4294967296 * i →
    L_rsum_4 k (((), hh, l, (i : Int), ()), s, ()) = ⟨true, false, sumB (hh * 4294967296 + l + (s.drop i).sum), ((), ()), ()⟩
  | n, 0, i, hh, l, hk, _, _, _, _, _ => by omega
  | n, k + 1, i, hh, l, hk, hn, b1, b2, b3, b4 => by
    rw [L_rsum_4_eq]
    simp only [fd32]
    by_cases c : i < s.length
    · have d : decide ((i : Int) < ((s.length : Nat) : Int)) = true := by simp; omega
      have w : IntKind.i64.wrap ((i : Int) + 1) = ((i + 1 : Nat) : Int) := w64 (by omega) (by omega)
      have hxi := hx _ (getD_mem c)
      simp only [inb c]
      simp only [d, cond_true, w, Bool.true_and, Bool.and_true, Int.toNat_natCast]
      rw [drop_one c, List.sum_cons]
      have e1 : (decide ((0 : Int) ≤ (i : Int)) && decide ((i : Int) < ((s.length : Nat) : Int))) = true := by simp; omega
      have e2 : Nat.blt i s.length = true := Nat.ble_eq_true_of_le c
      generalize s.getD i 0 = x at *
      have w1 : IntKind.i64.wrap (hh + x / 4294967296) = hh + x / 4294967296 := w64 (by omega) (by omega)
      have w2 : IntKind.i64.wrap (x / 4294967296 * 4294967296) = x / 4294967296 * 4294967296 := w64 (by omega) (by omega)
      have w3 : IntKind.i64.wrap (x - x / 4294967296 * 4294967296) = x - x / 4294967296 * 4294967296 := w64 (by omega) (by omega)
      have w4 : IntKind.i64.wrap (l + (x - x / 4294967296 * 4294967296)) = l + (x - x / 4294967296 * 4294967296) := w64 (by omega) (by omega)
      obtain ⟨n', rfl⟩ : ∃ n', n = n' + 1 := ⟨n - 1, by omega⟩
      simp only [w1, w2, w3, w4]
      clear w1 w2 w3 w4
      rw [L_rsum hs hx n' k (i + 1) (hh + x / 4294967296) (l + (x - x / 4294967296 * 4294967296)) (by omega) (by omega) (by omega) (by omega) (by omega) (by omega)]
      have : (hh + x / 4294967296) * 4294967296 + (l + (x - x / 4294967296 * 4294967296)) + (s.drop (i + 1)).sum = hh * 4294967296 + l + (x + (s.drop (i + 1)).sum) := by omega
      have d0 : decide ((0 : Int) ≤ (i : Int)) = true := by simp
      rw [this, d0, e2]; rfl
    · have d : decide ((i : Int) < ((s.length : Nat) : Int)) = false := by simp; omega
      simp only [d, cond_false]
      rw [List.drop_eq_nil_of_le (by omega), List.sum_nil]
      have w1 : IntKind.i64.wrap (hh + l / 4294967296) = hh + l / 4294967296 := w64 (by omega) (by omega)
      have w2 : IntKind.i64.wrap (l / 4294967296 * 4294967296) = l / 4294967296 * 4294967296 := w64 (by omega) (by omega)
      have w3 : IntKind.i64.wrap (l - l / 4294967296 * 4294967296) = l - l / 4294967296 * 4294967296 := w64 (by omega) (by omega)
      simp only [w1, w2, w3, csame]
      clear w1 w2 w3
      unfold sumB
      by_cases c1 : hh + l / 4294967296 < -2147483648
      · have c1' : decide (hh + l / 4294967296 < -2147483648) = true := by simpa using c1
        rw [c1', if_neg (by omega)]; rfl
      · have c1' : decide (hh + l / 4294967296 < -2147483648) = false := by simpa using c1
        by_cases c2 : hh + l / 4294967296 > 2147483647
        · have c2' : decide (hh + l / 4294967296 > 2147483647) = true := by simpa using c2
          rw [c1', c2', if_neg (by omega)]; rfl
        · have c2' : decide (hh + l / 4294967296 > 2147483647) = false := by simpa using c2
          rw [c1', c2', if_pos (by omega)]
          simp only [cond_false]
          have w1 : IntKind.i64.wrap ((hh + l / 4294967296) * 4294967296) = (hh + l / 4294967296) * 4294967296 := w64 (by omega) (by omega)
          have w2 : IntKind.i64.wrap ((hh + l / 4294967296) * 4294967296 + (l - l / 4294967296 * 4294967296)) = hh * 4294967296 + l + 0 := by
            clear w1; rw [w64 (by omega) (by omega)]; omega
          rw [w1, w2]
theorem rsum {s : List Int} (hs : s.length ≤ 1000) (hx : ∀ x ∈ s, -9223372036854775808 ≤ x ∧ x ≤ 9223372036854775807) : F_rsum ((), ()) (s, ()) = ⟨true, false, sumB s.sum, ((), ()), ()⟩ := by
  rw [F_rsum_eq]
  have hk : k_rsum ((), ()) (s, ()) = s.length + 2 := rfl
  have e := L_rsum hs hx s.length (s.length + 2) 0 0 0 (by omega) (by omega) (by omega) (by omega) (by omega) (by omega)
  rw [List.drop_zero, show ((0 : Nat) : Int) = 0 from rfl, show (0 : Int) * 4294967296 + 0 + s.sum = s.sum by omega] at e
  rw [hk, e]
def mvs (n : Nat) (a : Int) : List Int := if a = 1 then [0, (n : Int)] else if a = 6 then [0, -(n : Int)] else [0]
theorem L_moves_0 (n : Nat) (h2 : n ≤ 10000000000000) (a : Int) : L_moves_5 3 (((), a, (), (0 : Int), ()), ([((1 : Int), (6 : Int), (n : Int), ())] : List (Int × Int × Int × Unit)), ([0] : List Int), ()) = ⟨true, false, (), ((), mvs n a, ()), ()⟩ := by
  have hw : IntKind.i64.wrap (0 - (n : Int)) = -(n : Int) := by rw [w64 (by omega) (by omega)]; omega
  have m1 : ∀ l : List Int, L_moves_5 2 (((), a, (), (1 : Int), ()), ([((1 : Int), (6 : Int), (n : Int), ())] : List (Int × Int × Int × Unit)), l, ()) = ⟨true, false, (), ((), l, ()), ()⟩ := fun l => by
    rw [L_moves_5_eq]; rfl
  have g0 : ([((1 : Int), (6 : Int), (n : Int), ())] : List (Int × Int × Int × Unit)).getD (0 : Int).toNat ((0 : Int), (0 : Int), (0 : Int), ()) = ((1 : Int), (6 : Int), (n : Int), ()) := rfl
  have b1 : (decide ((0 : Int) ≤ 0) && decide ((0 : Int) < ((([((1 : Int), (6 : Int), (n : Int), ())] : List (Int × Int × Int × Unit)).length : Nat) : Int))) = true := rfl
  have b2 : Nat.blt (0 : Int).toNat ([((1 : Int), (6 : Int), (n : Int), ())] : List (Int × Int × Int × Unit)).length = true := rfl
  have b3 : decide ((0 : Int) < ((([((1 : Int), (6 : Int), (n : Int), ())] : List (Int × Int × Int × Unit)).length : Nat) : Int)) = true := rfl
  have r1 : ∀ x y : Int, Nat.ble (([x].length + [y].length) * 8) 140737488355328 = true := fun _ _ => rfl
  rw [L_moves_5_eq]
  simp only [g0, b1, b2, b3, w01, hw, r1, List.cons_append, List.nil_append, m1, cond_true, Bool.and_true]
  unfold mvs
  by_cases c1 : a = 1
  · subst c1; rfl
  · have d1 : ((1 : Int) == a) = false := by rw [beq_eq_false_iff_ne]; omega
    rw [d1, if_neg c1]
    by_cases c6 : a = 6
    · subst c6; rfl
    · have d6 : ((6 : Int) == a) = false := by rw [beq_eq_false_iff_ne]; omega
      rw [d6, if_neg c6]; rfl
theorem moves_one (n : Nat) (h2 : n ≤ 10000000000000) {a : Int} (h0 : 0 ≤ a) (h1 : a < 12) :
    F_moves ((((0 : Int), (0 : Int), (0 : Int), (0 : Int), (0 : Int), (0 : Int), (0 : Int), (0 : Int), (0 : Int), (0 : Int), (0 : Int), (0 : Int), ()), ()), (), a, ()) (([((1 : Int), (6 : Int), (n : Int), ())] : List (Int × Int × Int × Unit)), ()) = ⟨true, false, (), ((), mvs n a, ()), ()⟩ := by
  rw [F_moves_eq]
  have hk : ∀ a, k_moves a (([((1 : Int), (6 : Int), (n : Int), ())] : List (Int × Int × Int × Unit)), ()) = 3 := fun _ => rfl
  have hm := L_moves_0 n h2 a
  have d0 : decide (0 ≤ a) = true := by simpa using h0
  have d1 : decide (a < ((12 : Nat) : Int)) = true := by simp; omega
  have d2 : Nat.blt a.toNat 12 = true := Nat.ble_eq_true_of_le (by omega)
  have hz : ([(0 : Int), (0 : Int), (0 : Int), (0 : Int), (0 : Int), (0 : Int), (0 : Int), (0 : Int), (0 : Int), (0 : Int), (0 : Int), (0 : Int)] : List Int).getD a.toNat 0 = 0 := by
    have : a = 0 ∨ a = 1 ∨ a = 2 ∨ a = 3 ∨ a = 4 ∨ a = 5 ∨ a = 6 ∨ a = 7 ∨ a = 8 ∨ a = 9 ∨ a = 10 ∨ a = 11 := by omega
    rcases this with rfl | rfl | rfl | rfl | rfl | rfl | rfl | rfl | rfl | rfl | rfl | rfl <;> rfl
  rw [hk]
  simp only [hz, List.nil_append, hm, d0, d1, Bool.true_and]
  show (⟨Nat.blt a.toNat 12 && true && true, _, _, _, _⟩ : Res TT g_moves) = _
  rw [d2]; rfl
end Go.Proofs.YtklpneeakhbahaaGreatDoor.Fs
end
section
set_option linter.unusedVariables false
set_option linter.unusedSimpArgs false
set_option maxRecDepth 20000
namespace Go.Proofs.YtklpneeakhbahaaGreatDoor.Fs
open Go Go.Proofs.YtklpneeakhbahaaGreatDoor.Ls P Go.Proofs.YtklpneeakhbahaaGreatDoor.Cal
def vOf (n : Nat) (a : Int) : Int := if a = 1 then (n : Int) else if a = 6 then -(n : Int) else 0
def Z12 : List Int := [(0 : Int), (0 : Int), (0 : Int), (0 : Int), (0 : Int), (0 : Int), (0 : Int), (0 : Int), (0 : Int), (0 : Int), (0 : Int), (0 : Int)]
theorem sum_mvs (n : Nat) (h2 : n ≤ 10000000000000) (a : Int) : F_rsum ((), ()) (mvs n a, ()) = ⟨true, false, (vOf n a, true, ()), ((), ()), ()⟩ := by
  have h : ∀ x ∈ mvs n a, -9223372036854775808 ≤ x ∧ x ≤ 9223372036854775807 := by
    unfold mvs; intro x hx
    split at hx
    · simp at hx; omega
    · split at hx <;> simp at hx <;> omega
  have hl : (mvs n a).length ≤ 1000 := by
    unfold mvs; split
    · simp
    · split <;> simp
  rw [rsum hl h]
  have e : (mvs n a).sum = vOf n a := by
    unfold mvs vOf; split
    · simp
    · split <;> simp
  have hr : -9223372036854775808 ≤ vOf n a ∧ vOf n a ≤ 9223372036854775807 := by
    unfold vOf; split
    · omega
    · split <;> omega
  rw [e]; unfold sumB; rw [if_pos hr]
theorem round10 (n : Nat) (h2 : n ≤ 10000000000000) (k : Nat) {a : Int} (h0 : 0 ≤ a) (h1 : a < 12) (c_r : List Int) (hc : c_r.length = 12) :
    L_rpost_10 (k + 1) (((), (), (), (), a, ()), ([((1 : Int), (6 : Int), (n : Int), ())] : List (Int × Int × Int × Unit)), Z12, Z12, c_r, ()) = L_rpost_10 k (((), (), (), (), (a + 1), ()), ([((1 : Int), (6 : Int), (n : Int), ())] : List (Int × Int × Int × Unit)), Z12, Z12, c_r.set a.toNat (vOf n a), ()) := by
  rw [L_rpost_10_eq]
  have w : IntKind.i64.wrap (a + 1) = a + 1 := w64 (by omega) (by omega)
  have d : decide (a < 12) = true := by simpa using h1
  have d0 : decide (0 ≤ a) = true := by simpa using h0
  have hm := moves_one n h2 h0 h1
  have hs := sum_mvs n h2 a
  have hv : (vOf n a == -9223372036854775808) = false := by
    rw [beq_eq_false_iff_ne]; unfold vOf
    split
    · omega
    · split <;> omega
  have hb : Nat.blt a.toNat 12 = true := Nat.ble_eq_true_of_le (by omega)
  have d12 : decide (a < ((12 : Nat) : Int)) = true := by simp; omega
  simp only [Z12, List.getD_cons_zero, List.getD_cons_succ, hm, hs, w, d, d0, hv, cond_true, cond_false, Bool.not_true, hc, hb, d12]
  rfl
def C12 (n : Nat) : List Int := [(0 : Int), (n : Int), (0 : Int), (0 : Int), (0 : Int), (0 : Int), -(n : Int), (0 : Int), (0 : Int), (0 : Int), (0 : Int), (0 : Int)]
theorem round17 (n : Nat) (h2 : n ≤ 10000000000000) (k : Nat) {a : Int} (h0 : 0 ≤ a) (h1 : a < 12) :
    L_rpost_17 (k + 1) (((), (), (), a, ()), ([((1 : Int), (6 : Int), (n : Int), ())] : List (Int × Int × Int × Unit)), Z12, Z12, C12 n, ()) = L_rpost_17 k (((), (), (), (a + 1), ()), ([((1 : Int), (6 : Int), (n : Int), ())] : List (Int × Int × Int × Unit)), Z12, Z12, C12 n, ()) := by
  rw [L_rpost_17_eq]
  have w : IntKind.i64.wrap (a + 1) = a + 1 := w64 (by omega) (by omega)
  have d : decide (a < 12) = true := by simpa using h1
  have e1 : decide ((n : Int) ≥ 0) = true := by simp
  have e2 : decide (-(n : Int) ≤ 0) = true := by simp
  simp only [w, d, cond_true]
  have : a = 0 ∨ a = 1 ∨ a = 2 ∨ a = 3 ∨ a = 4 ∨ a = 5 ∨ a = 6 ∨ a = 7 ∨ a = 8 ∨ a = 9 ∨ a = 10 ∨ a = 11 := by omega
  rcases this with rfl | rfl | rfl | rfl | rfl | rfl | rfl | rfl | rfl | rfl | rfl | rfl
  · rfl
  · show (bif (!decide ((n : Int) ≥ 0)) then _ else _) = _
    rw [e1]; rfl
  · rfl
  · rfl
  · rfl
  · rfl
  · show (bif (!decide (-(n : Int) ≤ 0)) then _ else _) = _
    rw [e2]; rfl
  · rfl
  · rfl
  · rfl
  · rfl
  · rfl
end Go.Proofs.YtklpneeakhbahaaGreatDoor.Fs
end
section
set_option linter.unusedVariables false
set_option linter.unusedSimpArgs false
set_option maxRecDepth 20000
namespace Go.Proofs.YtklpneeakhbahaaGreatDoor.Fs
open Go Go.Proofs.YtklpneeakhbahaaGreatDoor.Ls P Go.Proofs.YtklpneeakhbahaaGreatDoor.Cal
theorem rp_s1' (n : Nat) (h1 : 1 ≤ n) (es : List (Int × Int × Int × Unit)) (hl : es.length = 1) (hg : es.getD (0 : Int).toNat ((0 : Int), (0 : Int), (0 : Int), ()) = ((1 : Int), (6 : Int), (n : Int), ())) :
    L_rpost_3 41 (((), (), (), (0 : Int), ()), es, Z12, Z12, ()) = L_rpost_3 40 (((), (), (), (1 : Int), ()), es, Z12, Z12, ()) := by
  have c1 : decide ((n : Int) < 1) = false := by simp; omega
  have b1 : (decide ((0 : Int) ≤ 0) && decide ((0 : Int) < ((1 : Nat) : Int))) = true := rfl
  have b2 : Nat.blt (0 : Int).toNat 1 = true := rfl
  have b3 : decide ((0 : Int) < ((1 : Nat) : Int)) = true := rfl
  have q1 : decide ((1 : Int) ≥ 0) = true := rfl
  have q2 : decide ((1 : Int) < 12) = true := rfl
  have q3 : decide ((6 : Int) ≥ 0) = true := rfl
  have q4 : decide ((6 : Int) < 12) = true := rfl
  have q5 : ((1 : Int) == 6) = false := rfl
  have q6 : ((0 : Int) != 0) = false := rfl
  have q7 : decide ((0 : Int) ≤ 0) = true := rfl
  rw [L_rpost_3_eq]
  simp only [hg, hl]
  simp only [b1, b2, b3, q1, q2, q3, q4, q5, q6, q7, c1, w01, cond_true, cond_false, Bool.not_true, Bool.and_true, Bool.true_and]
theorem rp_s2' (es : List (Int × Int × Int × Unit)) (hl : es.length = 1) : L_rpost_3 40 (((), (), (), (1 : Int), ()), es, Z12, Z12, ()) = L_rpost_10 39 (((), (), (), (), (0 : Int), ()), es, Z12, Z12, Z12, ()) := by
  have b4 : decide ((1 : Int) < ((1 : Nat) : Int)) = false := rfl
  rw [L_rpost_3_eq]
  simp only [hl]
  simp only [b4, cond_false]
  exact congrArg (fun z : List Int => L_rpost_10 39 (((), (), (), (), (0 : Int), ()), es, Z12, Z12, z, ())) (show ([(0 : Int), (0 : Int), (0 : Int), (0 : Int), (0 : Int), (0 : Int), (0 : Int), (0 : Int), (0 : Int), (0 : Int), (0 : Int), (0 : Int)] : List Int) = Z12 from rfl)
theorem rp_s3 (n : Nat) (h1 : 1 ≤ n) (h2 : n ≤ 10000000000000) : L_rpost_10 39 (((), (), (), (), (0 : Int), ()), ([((1 : Int), (6 : Int), (n : Int), ())] : List (Int × Int × Int × Unit)), Z12, Z12, Z12, ()) = L_rpost_10 27 (((), (), (), (), (12 : Int), ()), ([((1 : Int), (6 : Int), (n : Int), ())] : List (Int × Int × Int × Unit)), Z12, Z12, C12 n, ()) := by
  have r0 := round10 n h2 38 (a := 0) (by omega) (by omega) Z12 rfl
  rw [show (0 : Int) + 1 = 1 from rfl, show Z12.set (0 : Int).toNat (vOf n 0) = Z12 from rfl] at r0
  have r1 := round10 n h2 37 (a := 1) (by omega) (by omega) Z12 rfl
  rw [show (1 : Int) + 1 = 2 from rfl, show Z12.set (1 : Int).toNat (vOf n 1) = (Z12.set 1 (n : Int)) from rfl] at r1
  have r2 := round10 n h2 36 (a := 2) (by omega) (by omega) (Z12.set 1 (n : Int)) rfl
  rw [show (2 : Int) + 1 = 3 from rfl, show (Z12.set 1 (n : Int)).set (2 : Int).toNat (vOf n 2) = (Z12.set 1 (n : Int)) from rfl] at r2
  have r3 := round10 n h2 35 (a := 3) (by omega) (by omega) (Z12.set 1 (n : Int)) rfl
  rw [show (3 : Int) + 1 = 4 from rfl, show (Z12.set 1 (n : Int)).set (3 : Int).toNat (vOf n 3) = (Z12.set 1 (n : Int)) from rfl] at r3
  have r4 := round10 n h2 34 (a := 4) (by omega) (by omega) (Z12.set 1 (n : Int)) rfl
  rw [show (4 : Int) + 1 = 5 from rfl, show (Z12.set 1 (n : Int)).set (4 : Int).toNat (vOf n 4) = (Z12.set 1 (n : Int)) from rfl] at r4
  have r5 := round10 n h2 33 (a := 5) (by omega) (by omega) (Z12.set 1 (n : Int)) rfl
  rw [show (5 : Int) + 1 = 6 from rfl, show (Z12.set 1 (n : Int)).set (5 : Int).toNat (vOf n 5) = (Z12.set 1 (n : Int)) from rfl] at r5
  have r6 := round10 n h2 32 (a := 6) (by omega) (by omega) (Z12.set 1 (n : Int)) rfl
  rw [show (6 : Int) + 1 = 7 from rfl, show (Z12.set 1 (n : Int)).set (6 : Int).toNat (vOf n 6) = (C12 n) from rfl] at r6
  have r7 := round10 n h2 31 (a := 7) (by omega) (by omega) (C12 n) rfl
  rw [show (7 : Int) + 1 = 8 from rfl, show (C12 n).set (7 : Int).toNat (vOf n 7) = (C12 n) from rfl] at r7
  have r8 := round10 n h2 30 (a := 8) (by omega) (by omega) (C12 n) rfl
  rw [show (8 : Int) + 1 = 9 from rfl, show (C12 n).set (8 : Int).toNat (vOf n 8) = (C12 n) from rfl] at r8
  have r9 := round10 n h2 29 (a := 9) (by omega) (by omega) (C12 n) rfl
  rw [show (9 : Int) + 1 = 10 from rfl, show (C12 n).set (9 : Int).toNat (vOf n 9) = (C12 n) from rfl] at r9
  have r10 := round10 n h2 28 (a := 10) (by omega) (by omega) (C12 n) rfl
  rw [show (10 : Int) + 1 = 11 from rfl, show (C12 n).set (10 : Int).toNat (vOf n 10) = (C12 n) from rfl] at r10
  have r11 := round10 n h2 27 (a := 11) (by omega) (by omega) (C12 n) rfl
  rw [show (11 : Int) + 1 = 12 from rfl, show (C12 n).set (11 : Int).toNat (vOf n 11) = (C12 n) from rfl] at r11
  rw [r0, r1, r2, r3, r4, r5, r6, r7, r8, r9, r10, r11]
theorem rp_s4 (n : Nat) (h1 : 1 ≤ n) (h2 : n ≤ 10000000000000) : L_rpost_10 27 (((), (), (), (), (12 : Int), ()), ([((1 : Int), (6 : Int), (n : Int), ())] : List (Int × Int × Int × Unit)), Z12, Z12, C12 n, ()) = L_rpost_17 26 (((), (), (), (0 : Int), ()), ([((1 : Int), (6 : Int), (n : Int), ())] : List (Int × Int × Int × Unit)), Z12, Z12, C12 n, ()) := by
  rw [L_rpost_10_eq]
  simp only [show decide ((12 : Int) < 12) = false from rfl, cond_false]
theorem rp_s5 (n : Nat) (h1 : 1 ≤ n) (h2 : n ≤ 10000000000000) : L_rpost_17 26 (((), (), (), (0 : Int), ()), ([((1 : Int), (6 : Int), (n : Int), ())] : List (Int × Int × Int × Unit)), Z12, Z12, C12 n, ()) = L_rpost_17 14 (((), (), (), (12 : Int), ()), ([((1 : Int), (6 : Int), (n : Int), ())] : List (Int × Int × Int × Unit)), Z12, Z12, C12 n, ()) := by
  have r0 := round17 n h2 25 (a := 0) (by omega) (by omega)
  rw [show (0 : Int) + 1 = 1 from rfl] at r0
  have r1 := round17 n h2 24 (a := 1) (by omega) (by omega)
  rw [show (1 : Int) + 1 = 2 from rfl] at r1
  have r2 := round17 n h2 23 (a := 2) (by omega) (by omega)
  rw [show (2 : Int) + 1 = 3 from rfl] at r2
  have r3 := round17 n h2 22 (a := 3) (by omega) (by omega)
  rw [show (3 : Int) + 1 = 4 from rfl] at r3
  have r4 := round17 n h2 21 (a := 4) (by omega) (by omega)
  rw [show (4 : Int) + 1 = 5 from rfl] at r4
  have r5 := round17 n h2 20 (a := 5) (by omega) (by omega)
  rw [show (5 : Int) + 1 = 6 from rfl] at r5
  have r6 := round17 n h2 19 (a := 6) (by omega) (by omega)
  rw [show (6 : Int) + 1 = 7 from rfl] at r6
  have r7 := round17 n h2 18 (a := 7) (by omega) (by omega)
  rw [show (7 : Int) + 1 = 8 from rfl] at r7
  have r8 := round17 n h2 17 (a := 8) (by omega) (by omega)
  rw [show (8 : Int) + 1 = 9 from rfl] at r8
  have r9 := round17 n h2 16 (a := 9) (by omega) (by omega)
  rw [show (9 : Int) + 1 = 10 from rfl] at r9
  have r10 := round17 n h2 15 (a := 10) (by omega) (by omega)
  rw [show (10 : Int) + 1 = 11 from rfl] at r10
  have r11 := round17 n h2 14 (a := 11) (by omega) (by omega)
  rw [show (11 : Int) + 1 = 12 from rfl] at r11
  rw [r0, r1, r2, r3, r4, r5, r6, r7, r8, r9, r10, r11]
theorem rp_s6 (n : Nat) (h1 : 1 ≤ n) (h2 : n ≤ 10000000000000) : L_rpost_17 14 (((), (), (), (12 : Int), ()), ([((1 : Int), (6 : Int), (n : Int), ())] : List (Int × Int × Int × Unit)), Z12, Z12, C12 n, ()) = ⟨true, false, (((0, (n : Int), 0, 0, 0, 0, -(n : Int), 0, 0, 0, 0, 0, ()), ()), 0, ()), ((), ()), ()⟩ := by
  rw [L_rpost_17_eq]
  simp only [show decide ((12 : Int) < 12) = false from rfl, cond_false]
  rfl
end Go.Proofs.YtklpneeakhbahaaGreatDoor.Fs
end
section
set_option linter.unusedVariables false
set_option linter.unusedSimpArgs false
set_option maxRecDepth 20000
namespace Go.Proofs.YtklpneeakhbahaaGreatDoor.Fs
open Go Go.Proofs.YtklpneeakhbahaaGreatDoor.Ls P Go.Proofs.YtklpneeakhbahaaGreatDoor.Cal
theorem rpost_one (n : Nat) (h1 : 1 ≤ n) (h2 : n ≤ 10000000000000) : F_rpost ((((0 : Int), (0 : Int), (0 : Int), (0 : Int), (0 : Int), (0 : Int), (0 : Int), (0 : Int), (0 : Int), (0 : Int), (0 : Int), (0 : Int), ()), ()), (), ()) (([((1 : Int), (6 : Int), (n : Int), ())] : List (Int × Int × Int × Unit)), ()) =
    ⟨true, false, (((0, (n : Int), 0, 0, 0, 0, -(n : Int), 0, 0, 0, 0, 0, ()), ()), 0, ()), ((), ()), ()⟩ := by
  rw [F_rpost_eq]
  have hk : ∀ a, k_rpost a (([((1 : Int), (6 : Int), (n : Int), ())] : List (Int × Int × Int × Unit)), ()) = 41 := fun _ => rfl
  rw [hk]
  exact (rp_s1' n h1 ([((1 : Int), (6 : Int), (n : Int), ())] : List (Int × Int × Int × Unit)) rfl rfl).trans ((rp_s2' ([((1 : Int), (6 : Int), (n : Int), ())] : List (Int × Int × Int × Unit)) rfl).trans ((rp_s3 n h1 h2).trans ((rp_s4 n h1 h2).trans ((rp_s5 n h1 h2).trans (rp_s6 n h1 h2)))))
end Go.Proofs.YtklpneeakhbahaaGreatDoor.Fs
end
section
set_option linter.unusedVariables false
set_option linter.unusedSimpArgs false
set_option maxRecDepth 20000
namespace Go.Proofs.YtklpneeakhbahaaGreatDoor.Fs
open Go Go.Proofs.YtklpneeakhbahaaGreatDoor.Ls P Go.Proofs.YtklpneeakhbahaaGreatDoor.Cal
theorem may (t : T25) : F_may (t, ()) () = ⟨true, false, okT t, (), ()⟩ := by
  rw [F_may_eq]
  simp only [csame, cft]
  unfold okT
  generalize decide (t.1 ≥ 0) = a1
  generalize decide (t.1 ≤ 2) = a2
  generalize decide (t.2.1 ≥ 1) = a3
  generalize decide (t.2.1 ≤ 10000000000000) = a4
  generalize decide (t.2.2.1 ≥ 0) = a5
  generalize decide (t.2.2.1 ≤ 100000) = a5'
  generalize decide (t.2.2.2.1 ≥ 1) = a6
  generalize decide (t.2.2.2.1 ≤ 120) = a7
  generalize decide (t.2.2.2.2.1 ≥ 1) = a8
  generalize decide (t.2.2.2.2.1 ≤ 3652059) = a9
  generalize decide (t.2.2.2.2.2.1 ≥ 0) = a10
  generalize decide (t.2.2.2.2.2.1 ≤ 3) = a11
  congr 1
  cases a1 <;> cases a2 <;> cases a10 <;> cases a11 <;> cases a3 <;> cases a4 <;> cases a5 <;> simp
theorem wrong (t : T25) : F_wrong (t, ()) () = ⟨true, false, !okT t, (), ()⟩ := by
  rw [F_wrong_eq]
  simp only [csame, ctb, dlt, dgt]
  unfold okT
  generalize decide (t.1 ≥ 0) = a1
  generalize decide (t.1 ≤ 2) = a2
  generalize decide (t.2.1 ≥ 1) = a3
  generalize decide (t.2.1 ≤ 10000000000000) = a4
  generalize decide (t.2.2.1 ≥ 0) = a5
  generalize decide (t.2.2.1 ≤ 100000) = a5'
  generalize decide (t.2.2.2.1 ≥ 1) = a6
  generalize decide (t.2.2.2.1 ≤ 120) = a7
  generalize decide (t.2.2.2.2.1 ≥ 1) = a8
  generalize decide (t.2.2.2.2.1 ≤ 3652059) = a9
  generalize decide (t.2.2.2.2.2.1 ≥ 0) = a10
  generalize decide (t.2.2.2.2.2.1 ≤ 3) = a11
  cases a1 <;> try rfl
  cases a2 <;> try rfl
  cases a3 <;> try rfl
  cases a4 <;> try rfl
  cases a5 <;> try rfl
  cases a5' <;> try rfl
  cases a6 <;> try rfl
  cases a7 <;> try rfl
  cases a8 <;> try rfl
  cases a9 <;> try rfl
  cases a10 <;> try rfl
theorem rfail_err (pp : T23) (l : T36) (q : T34) {e : Int} (he : e ≠ 0) (met : Bool) (c : Int) (s : List Int) (x : List T99) (nn : List T60) :
    F_rfail ((pp, l, q, (), e, ()), met, c, ()) (s, x, nn, ()) = ⟨true, false, (pp, l, q, (), e, ()), ((), (), (), ()), ()⟩ := by
  rw [F_rfail_eq]
  have : (e == 0) = false := by simpa using he
  simp only [this, cond_false]
theorem rfail_zero (pp : T23) (l : T36) (q : T34) (met : Bool) (c : Int) (s : List Int) (x : List T99) (nn : List T60) :
    F_rfail ((pp, l, q, (), (0 : Int), ()), met, c, ()) (s, x, nn, ()) = ⟨true, false, (pp, l, q, (), (bif met then c else 0), ()), ((), (), (), ()), ()⟩ := by
  rw [F_rfail_eq]
  simp only [beq_self_eq_true, cond_true]
  cases met <;> rfl
theorem rposted_err (pp : T23) (l : T36) (q : T34) {e : Int} (he : e ≠ 0) (s : List Int) (x : List T99) (nn : List T60) (es : List T77) :
    F_rposted ((pp, l, q, (), e, ()), (), ()) (s, x, nn, es, ()) = ⟨true, false, (pp, l, q, (), e, ()), ((), (), (), (), ()), ()⟩ := by
  rw [F_rposted_eq]
  have : (e != 0) = true := by simpa using he
  simp only [this, cond_true]
theorem copied0 : F_copied (((0 : Int), ((0 : Int), (0 : Int), (0 : Int), (0 : Int), (0 : Int), (0 : Int), ()), (), (((0 : Int), (0 : Int), (0 : Int), (0 : Int), (0 : Int), (0 : Int), (0 : Int), (0 : Int), (0 : Int), (0 : Int), (0 : Int), (0 : Int), ()), ()), ((0 : Int), false, (0 : Int), (0 : Int), (0 : Int), (0 : Int), (0 : Int), (0 : Int), (0 : Int), (0 : Int), (0 : Int), (0 : Int), (0 : Int), (0 : Int), (0 : Int), ()), (0 : Int), (0 : Int), (0 : Int), ((0 : Int), (0 : Int), (0 : Int), (0 : Int), (0 : Int), ()), false, (0 : Int), (0 : Int), ()), ()) (([] : List T99), ()) = ⟨true, false, ((0 : Int), ((0 : Int), (0 : Int), (0 : Int), (0 : Int), (0 : Int), (0 : Int), ()), (), (((0 : Int), (0 : Int), (0 : Int), (0 : Int), (0 : Int), (0 : Int), (0 : Int), (0 : Int), (0 : Int), (0 : Int), (0 : Int), (0 : Int), ()), ()), ((0 : Int), false, (0 : Int), (0 : Int), (0 : Int), (0 : Int), (0 : Int), (0 : Int), (0 : Int), (0 : Int), (0 : Int), (0 : Int), (0 : Int), (0 : Int), (0 : Int), ()), (0 : Int), (0 : Int), (0 : Int), ((0 : Int), (0 : Int), (0 : Int), (0 : Int), (0 : Int), ()), false, (0 : Int), (0 : Int), ()), ((), [], ()), ()⟩ := by
  rw [F_copied_eq]
  have hk : ∀ a, k_copied a (([] : List T99), ()) = 2 := fun _ => rfl
  rw [hk, L_copied_4_eq]
  rfl
theorem hchk (p : T23) (s : List Int) : (chk p s).1 = 0 ∨ (chk p s).1 = 120 := by
  unfold chk
  cases c1 p with
  | false => exact Or.inr rfl
  | true =>
  cases c2 p with
  | false => exact Or.inr rfl
  | true =>
  cases c3 p with
  | false => exact Or.inr rfl
  | true =>
  cases c4 p with
  | false => exact Or.inr rfl
  | true =>
  cases c5 p with
  | false => exact Or.inr rfl
  | true =>
  cases c6 p with
  | false => exact Or.inr rfl
  | true =>
  cases c7 p with
  | false => exact Or.inr rfl
  | true =>
  cases c8 p with
  | false => exact Or.inr rfl
  | true =>
  cases c9 p with
  | false => exact Or.inr rfl
  | true =>
  cases c10 p with
  | false => exact Or.inr rfl
  | true =>
  cases c11 p with
  | false => exact Or.inr rfl
  | true =>
  cases c12 p with
  | false => exact Or.inr rfl
  | true =>
  cases c13 p with
  | false => exact Or.inr rfl
  | true =>
  cases c14 p with
  | false => exact Or.inr rfl
  | true =>
  cases c15 p with
  | false => exact Or.inr rfl
  | true =>
  cases c16 p with
  | false => exact Or.inr rfl
  | true =>
  cases c17 p with
  | false => exact Or.inr rfl
  | true =>
  cases okH s with
  | false => exact Or.inr rfl
  | true => exact Or.inl rfl
theorem rposted_ok (pp : T23) (id : Int) (t : T25) (q : T34) (s : List Int) (x : List T99) (nn : List T60) {n : Nat} (h1 : 1 ≤ n) (h2 : n ≤ 10000000000000) (ht : t.2.1 = (n : Int)) :
    F_rposted ((pp, (id, t, (), (((0 : Int), (0 : Int), (0 : Int), (0 : Int), (0 : Int), (0 : Int), (0 : Int), (0 : Int), (0 : Int), (0 : Int), (0 : Int), (0 : Int), ()), ()), ((1 : Int), false, (0 : Int), (0 : Int), (0 : Int), (0 : Int), (0 : Int), (0 : Int), (0 : Int), (0 : Int), (0 : Int), (0 : Int), (0 : Int), (0 : Int), (0 : Int), ()), t.2.2.2.2.1, (0 : Int), (0 : Int), ((0 : Int), (0 : Int), (0 : Int), (0 : Int), (0 : Int), ()), false, (0 : Int), (0 : Int), ()), q, (), (0 : Int), ()), (), ()) (s, x, nn, ([((1 : Int), (6 : Int), t.2.1, ())] : List (Int × Int × Int × Unit)), ()) = ⟨true, false, (pp, (id, t, (), ((0, (n : Int), 0, 0, 0, 0, -(n : Int), 0, 0, 0, 0, 0, ()), ()), ((1 : Int), false, (0 : Int), (0 : Int), (0 : Int), (0 : Int), (0 : Int), (0 : Int), (0 : Int), (0 : Int), (0 : Int), (0 : Int), (0 : Int), (0 : Int), (0 : Int), ()), t.2.2.2.2.1, (0 : Int), (0 : Int), ((0 : Int), (0 : Int), (0 : Int), (0 : Int), (0 : Int), ()), false, (0 : Int), (0 : Int), ()), q, (), (0 : Int), ()), ((), (), (), (), ()), ()⟩ := by
  have hp := rpost_one n h1 h2
  rw [F_rposted_eq, ht]
  simp only [hp]
  rfl
theorem opens (p : T23) (id : Int) (t : T25) (s : List Int) : ∃ (r : T40) (pl : List T99), F_open (p, id, t, ()) (s, ()) = ⟨true, false, r, ((), pl, [], ()), ()⟩ ∧ F_rOpen (p, id, t, ()) (s, ()) = ⟨true, false, r, ((), pl, [], ()), ()⟩ ∧ pl.length ≤ 120 := by
  obtain ⟨pl, e1, e2, hlen, hok⟩ := plans t s
  have k1 := check p s; have k2 := rCheck p s; have m1 := may t; have m2 := wrong t
  have room : Nat.ble ((([] : List (Int × Int × Int × Unit)).length + ([((1 : Int), (6 : Int), t.2.1, ())] : List (Int × Int × Int × Unit)).length) * 24) 140737488355328 = true := rfl
  rw [F_open_eq, F_rOpen_eq]
  obtain ⟨c, hc⟩ : ∃ c, F_copied (((0 : Int), ((0 : Int), (0 : Int), (0 : Int), (0 : Int), (0 : Int), (0 : Int), ()), (), (((0 : Int), (0 : Int), (0 : Int), (0 : Int), (0 : Int), (0 : Int), (0 : Int), (0 : Int), (0 : Int), (0 : Int), (0 : Int), (0 : Int), ()), ()), ((0 : Int), false, (0 : Int), (0 : Int), (0 : Int), (0 : Int), (0 : Int), (0 : Int), (0 : Int), (0 : Int), (0 : Int), (0 : Int), (0 : Int), (0 : Int), (0 : Int), ()), (0 : Int), (0 : Int), (0 : Int), ((0 : Int), (0 : Int), (0 : Int), (0 : Int), (0 : Int), ()), false, (0 : Int), (0 : Int), ()), ()) (([] : List (Int × Int × Int × Bool × Unit)), ()) = c := ⟨_, rfl⟩
  have hc' := hc.symm.trans copied0
  simp only [k1, k2, m1, m2, e1, e2, hc, room, Bool.and_true, List.nil_append]
  rcases hchk p s with h0 | h0
  · simp only [h0]
    have b0 : ((0 : Int) != 0) = false := rfl
    have z1 := rfail_zero p c.ret ((0 : Int), (0 : Int), (0 : Int), (0 : Int), (0 : Int), ()) true 2 s c.out.2.1 []
    have z2 := rfail_zero p c.ret ((0 : Int), (0 : Int), (0 : Int), (0 : Int), (0 : Int), ()) (decide (id > 999999)) 2 s c.out.2.1 []
    simp only [b0, cond_false]
    rw [z1, z2]
    simp only [cond_true]
    by_cases hid : id < 1 ∨ id > 999999
    ·
      have g1 := rfail_err p c.ret ((0 : Int), (0 : Int), (0 : Int), (0 : Int), (0 : Int), ()) (e := 2) (by omega) (!okT t) 140 s c.out.2.1 []
      have g2 := rfail_err p c.ret ((0 : Int), (0 : Int), (0 : Int), (0 : Int), (0 : Int), ()) (e := 2) (by omega) (!pl.1) 141 s c.out.2.1 []
      have g3 := rposted_err p (id, t, (), (((0 : Int), (0 : Int), (0 : Int), (0 : Int), (0 : Int), (0 : Int), (0 : Int), (0 : Int), (0 : Int), (0 : Int), (0 : Int), (0 : Int), ()), ()), ((1 : Int), false, (0 : Int), (0 : Int), (0 : Int), (0 : Int), (0 : Int), (0 : Int), (0 : Int), (0 : Int), (0 : Int), (0 : Int), (0 : Int), (0 : Int), (0 : Int), ()), t.2.2.2.2.1, (0 : Int), (0 : Int), ((0 : Int), (0 : Int), (0 : Int), (0 : Int), (0 : Int), ()), false, (0 : Int), (0 : Int), ()) ((0 : Int), (0 : Int), (0 : Int), (0 : Int), (0 : Int), ()) (e := 2) (by omega) s pl.2 [] []
      have g4 := rposted_err p (id, t, (), (((0 : Int), (0 : Int), (0 : Int), (0 : Int), (0 : Int), (0 : Int), (0 : Int), (0 : Int), (0 : Int), (0 : Int), (0 : Int), (0 : Int), ()), ()), ((1 : Int), false, (0 : Int), (0 : Int), (0 : Int), (0 : Int), (0 : Int), (0 : Int), (0 : Int), (0 : Int), (0 : Int), (0 : Int), (0 : Int), (0 : Int), (0 : Int), ()), t.2.2.2.2.1, (0 : Int), (0 : Int), ((0 : Int), (0 : Int), (0 : Int), (0 : Int), (0 : Int), ()), false, (0 : Int), (0 : Int), ()) ((0 : Int), (0 : Int), (0 : Int), (0 : Int), (0 : Int), ()) (e := 2) (by omega) s pl.2 [] ([((1 : Int), (6 : Int), t.2.1, ())] : List (Int × Int × Int × Unit))
      have b2 : ((2 : Int) != 0) = true := rfl
      by_cases h1 : id < 1
      · have d1 : decide (id < 1) = true := by simpa using h1
        have d2 : decide (id ≥ 1) = false := by simp; omega
        simp only [d1, d2, cond_true, cond_false]
        rw [g1]; dsimp only; rw [g2]; dsimp only; rw [g3, g4]
        simp only [b2, cond_true, Bool.and_true]
        subst hc'
        refine ⟨_, [], rfl, ?_, by simp⟩
        cases (t.2.1 == 0) <;> rfl
      · have d1 : decide (id < 1) = false := by simpa using h1
        have d2 : decide (id ≥ 1) = true := by simp; omega
        have d3 : decide (id > 999999) = true := by simp; omega
        have d4 : decide (id ≤ 999999) = false := by simp; omega
        simp only [d1, d2, d3, d4, cond_true, cond_false, Bool.not_false]
        rw [g1]; dsimp only; rw [g2]; dsimp only; rw [g3, g4]
        simp only [b2, cond_true, Bool.and_true]
        subst hc'
        refine ⟨_, [], rfl, ?_, by simp⟩
        cases (t.2.1 == 0) <;> rfl
    · have d1 : decide (id < 1) = false := by simp; omega
      have d2 : decide (id ≥ 1) = true := by simp; omega
      have d3 : decide (id > 999999) = false := by simp; omega
      have d4 : decide (id ≤ 999999) = true := by simp; omega
      have z3 := rfail_zero p c.ret ((0 : Int), (0 : Int), (0 : Int), (0 : Int), (0 : Int), ()) (!okT t) 140 s c.out.2.1 []
      simp only [d1, d2, d3, d4, cond_true, cond_false, Bool.not_true]
      rw [z3]; dsimp only
      cases hv : okT t with
      | false =>
        have g2 := rfail_err p c.ret ((0 : Int), (0 : Int), (0 : Int), (0 : Int), (0 : Int), ()) (e := 140) (by omega) (!pl.1) 141 s c.out.2.1 []
        have g3 := rposted_err p (id, t, (), (((0 : Int), (0 : Int), (0 : Int), (0 : Int), (0 : Int), (0 : Int), (0 : Int), (0 : Int), (0 : Int), (0 : Int), (0 : Int), (0 : Int), ()), ()), ((1 : Int), false, (0 : Int), (0 : Int), (0 : Int), (0 : Int), (0 : Int), (0 : Int), (0 : Int), (0 : Int), (0 : Int), (0 : Int), (0 : Int), (0 : Int), (0 : Int), ()), t.2.2.2.2.1, (0 : Int), (0 : Int), ((0 : Int), (0 : Int), (0 : Int), (0 : Int), (0 : Int), ()), false, (0 : Int), (0 : Int), ()) ((0 : Int), (0 : Int), (0 : Int), (0 : Int), (0 : Int), ()) (e := 140) (by omega) s pl.2 [] []
        have g4 := rposted_err p (id, t, (), (((0 : Int), (0 : Int), (0 : Int), (0 : Int), (0 : Int), (0 : Int), (0 : Int), (0 : Int), (0 : Int), (0 : Int), (0 : Int), (0 : Int), ()), ()), ((1 : Int), false, (0 : Int), (0 : Int), (0 : Int), (0 : Int), (0 : Int), (0 : Int), (0 : Int), (0 : Int), (0 : Int), (0 : Int), (0 : Int), (0 : Int), (0 : Int), ()), t.2.2.2.2.1, (0 : Int), (0 : Int), ((0 : Int), (0 : Int), (0 : Int), (0 : Int), (0 : Int), ()), false, (0 : Int), (0 : Int), ()) ((0 : Int), (0 : Int), (0 : Int), (0 : Int), (0 : Int), ()) (e := 140) (by omega) s pl.2 [] ([((1 : Int), (6 : Int), t.2.1, ())] : List (Int × Int × Int × Unit))
        have b2 : ((140 : Int) != 0) = true := rfl
        simp only [Bool.not_false, cond_true]
        rw [g2]; dsimp only; rw [g3, g4]
        simp only [b2, cond_true, Bool.and_true]
        subst hc'
        refine ⟨_, [], rfl, ?_, by simp⟩
        cases (t.2.1 == 0) <;> rfl
      | true =>
        have z4 := rfail_zero p c.ret ((0 : Int), (0 : Int), (0 : Int), (0 : Int), (0 : Int), ()) (!pl.1) 141 s c.out.2.1 []
        simp only [Bool.not_true, cond_false]
        rw [z4]; dsimp only
        obtain ⟨ok, rows⟩ := pl
        cases ok with
        | false =>
          have g3 := rposted_err p (id, t, (), (((0 : Int), (0 : Int), (0 : Int), (0 : Int), (0 : Int), (0 : Int), (0 : Int), (0 : Int), (0 : Int), (0 : Int), (0 : Int), (0 : Int), ()), ()), ((1 : Int), false, (0 : Int), (0 : Int), (0 : Int), (0 : Int), (0 : Int), (0 : Int), (0 : Int), (0 : Int), (0 : Int), (0 : Int), (0 : Int), (0 : Int), (0 : Int), ()), t.2.2.2.2.1, (0 : Int), (0 : Int), ((0 : Int), (0 : Int), (0 : Int), (0 : Int), (0 : Int), ()), false, (0 : Int), (0 : Int), ()) ((0 : Int), (0 : Int), (0 : Int), (0 : Int), (0 : Int), ()) (e := 141) (by omega) s rows [] []
          have g4 := rposted_err p (id, t, (), (((0 : Int), (0 : Int), (0 : Int), (0 : Int), (0 : Int), (0 : Int), (0 : Int), (0 : Int), (0 : Int), (0 : Int), (0 : Int), (0 : Int), ()), ()), ((1 : Int), false, (0 : Int), (0 : Int), (0 : Int), (0 : Int), (0 : Int), (0 : Int), (0 : Int), (0 : Int), (0 : Int), (0 : Int), (0 : Int), (0 : Int), (0 : Int), ()), t.2.2.2.2.1, (0 : Int), (0 : Int), ((0 : Int), (0 : Int), (0 : Int), (0 : Int), (0 : Int), ()), false, (0 : Int), (0 : Int), ()) ((0 : Int), (0 : Int), (0 : Int), (0 : Int), (0 : Int), ()) (e := 141) (by omega) s rows [] ([((1 : Int), (6 : Int), t.2.1, ())] : List (Int × Int × Int × Unit))
          have b2 : ((141 : Int) != 0) = true := rfl
          simp only [Bool.not_false, cond_true]
          rw [g3, g4]
          simp only [b2, cond_true, Bool.and_true]
          subst hc'
          refine ⟨_, [], rfl, ?_, by simp⟩
          cases (t.2.1 == 0) <;> rfl
        | true =>
          obtain ⟨n, hn⟩ : ∃ n : Nat, t.2.1 = (n : Int) := ⟨t.2.1.toNat, by
            have := hv; unfold okT at this; simp only [Bool.and_eq_true, decide_eq_true_eq] at this; omega⟩
          have hb : 1 ≤ n ∧ n ≤ 10000000000000 := by
            have := hv; unfold okT at this; simp only [Bool.and_eq_true, decide_eq_true_eq] at this; omega
          have g4 := rposted_ok p id t ((0 : Int), (0 : Int), (0 : Int), (0 : Int), (0 : Int), ()) s rows [] hb.1 hb.2 hn
          have q1 := post_one n hb.1 hb.2
          rw [← hn] at q1 g4
          have t0 : (t.2.1 == 0) = false := by rw [beq_eq_false_iff_ne]; omega
          simp only [Bool.not_true, cond_false, t0]
          rw [q1, g4]
          simp only [b0, cond_false, Bool.and_true]
          subst hc'
          exact ⟨_, rows, rfl, rfl, hlen⟩
  · simp only [h0]
    have b0 : ((120 : Int) != 0) = true := rfl
    have g1 := rfail_err p c.ret ((0 : Int), (0 : Int), (0 : Int), (0 : Int), (0 : Int), ()) (e := 120) (by omega) true 2 s c.out.2.1 []
    have g1' := rfail_err p c.ret ((0 : Int), (0 : Int), (0 : Int), (0 : Int), (0 : Int), ()) (e := 120) (by omega) (decide (id > 999999)) 2 s c.out.2.1 []
    have g2 := rfail_err p c.ret ((0 : Int), (0 : Int), (0 : Int), (0 : Int), (0 : Int), ()) (e := 120) (by omega) (!okT t) 140 s c.out.2.1 []
    have g3 := rfail_err p c.ret ((0 : Int), (0 : Int), (0 : Int), (0 : Int), (0 : Int), ()) (e := 120) (by omega) (!pl.1) 141 s c.out.2.1 []
    have g4 := rposted_err p (id, t, (), (((0 : Int), (0 : Int), (0 : Int), (0 : Int), (0 : Int), (0 : Int), (0 : Int), (0 : Int), (0 : Int), (0 : Int), (0 : Int), (0 : Int), ()), ()), ((1 : Int), false, (0 : Int), (0 : Int), (0 : Int), (0 : Int), (0 : Int), (0 : Int), (0 : Int), (0 : Int), (0 : Int), (0 : Int), (0 : Int), (0 : Int), (0 : Int), ()), t.2.2.2.2.1, (0 : Int), (0 : Int), ((0 : Int), (0 : Int), (0 : Int), (0 : Int), (0 : Int), ()), false, (0 : Int), (0 : Int), ()) ((0 : Int), (0 : Int), (0 : Int), (0 : Int), (0 : Int), ()) (e := 120) (by omega) s pl.2 [] []
    have g5 := rposted_err p (id, t, (), (((0 : Int), (0 : Int), (0 : Int), (0 : Int), (0 : Int), (0 : Int), (0 : Int), (0 : Int), (0 : Int), (0 : Int), (0 : Int), (0 : Int), ()), ()), ((1 : Int), false, (0 : Int), (0 : Int), (0 : Int), (0 : Int), (0 : Int), (0 : Int), (0 : Int), (0 : Int), (0 : Int), (0 : Int), (0 : Int), (0 : Int), (0 : Int), ()), t.2.2.2.2.1, (0 : Int), (0 : Int), ((0 : Int), (0 : Int), (0 : Int), (0 : Int), (0 : Int), ()), false, (0 : Int), (0 : Int), ()) ((0 : Int), (0 : Int), (0 : Int), (0 : Int), (0 : Int), ()) (e := 120) (by omega) s pl.2 [] ([((1 : Int), (6 : Int), t.2.1, ())] : List (Int × Int × Int × Unit))
    simp only [b0, cond_true]
    rw [g1, g1']; dsimp only; rw [g2]; dsimp only; rw [g3]; dsimp only; rw [g4, g5]
    simp only [b0, cond_true, Bool.and_true]
    subst hc'
    refine ⟨_, [], rfl, ?_, by simp⟩
    cases decide (id < 1) <;> cases (t.2.1 == 0) <;> rfl
end Go.Proofs.YtklpneeakhbahaaGreatDoor.Fs
end
section
set_option linter.unusedVariables false
set_option linter.unusedSimpArgs false
set_option maxRecDepth 20000
namespace Go.Proofs.YtklpneeakhbahaaGreatDoor.Fs
open Go Go.Proofs.YtklpneeakhbahaaGreatDoor.Ls P Go.Proofs.YtklpneeakhbahaaGreatDoor.Cal
theorem L_samePlan {l : List T99} (hl : l.length ≤ 1000000) : ∀ (n k i : Nat), n < k → i + n = l.length →
    L_samePlan_5 k (((), (), (i : Int), ()), l, l, ()) = ⟨true, false, true, ((), (), ()), ()⟩
  | n, 0, i, hk, _ => by omega
  | n, k + 1, i, hk, hn => by
    rw [L_samePlan_5_eq]
    by_cases c : i < l.length
    · have d : decide ((i : Int) < ((l.length : Nat) : Int)) = true := by simp; omega
      have w : IntKind.i64.wrap ((i : Int) + 1) = ((i + 1 : Nat) : Int) := w64 (by omega) (by omega)
      obtain ⟨n', rfl⟩ : ∃ n', n = n' + 1 := ⟨n - 1, by omega⟩
      have e1 : (decide ((0 : Int) ≤ (i : Int)) && decide ((i : Int) < ((l.length : Nat) : Int))) = true := by simp; omega
      have e2 : Nat.blt (i : Int).toNat l.length = true := by rw [Int.toNat_natCast]; exact Nat.ble_eq_true_of_le c
      have ih := L_samePlan hl n' k (i + 1) (by omega) (by omega)
      have d0 : decide ((0 : Int) ≤ (i : Int)) = true := by simp
      simp only [e1, e2, d, d0, w, ih, cond_true, beq_self_eq_true, Bool.and_true, Bool.not_true, cond_false]
    · have d : decide ((i : Int) < ((l.length : Nat) : Int)) = false := by simp; omega
      simp only [d, cond_false]
theorem samePlan {l : List T99} (hl : l.length ≤ 1000000) : F_samePlan ((), (), ()) (l, l, ()) = ⟨true, false, true, ((), (), ()), ()⟩ := by
  rw [F_samePlan_eq]
  have hk : k_samePlan ((), (), ()) (l, l, ()) = l.length + 2 := rfl
  have e := L_samePlan hl l.length (l.length + 2) 0 (by omega) (by omega)
  rw [show ((0 : Nat) : Int) = 0 from rfl] at e
  simp only [bne_self_eq_false, cond_false, hk, e]
theorem sameLoan (l : T36) {x : List T99} (hl : x.length ≤ 1000000) : F_sameLoan (l, l, ()) (x, x, ()) = ⟨true, false, true, ((), (), ()), ()⟩ := by
  have h := samePlan hl
  rw [F_sameLoan_eq]
  simp only [beq_self_eq_true, bne_self_eq_false, Bool.and_true, Bool.not_true, cond_false, cond_true, h]
theorem same (r : T40) {x : List T99} (hl : x.length ≤ 1000000) : F_same (r, r, ()) (x, ([] : List T60), x, ([] : List T60), ()) = ⟨true, false, true, ((), (), (), (), ()), ()⟩ := by
  have h := sameLoan r.1 hl
  rw [F_same_eq]
  have hk : k_same (r, r, ()) (x, ([] : List T60), x, ([] : List T60), ()) = 2 := rfl
  rw [hk, L_same_5_eq]
  simp only [beq_self_eq_true, bne_self_eq_false, Bool.and_true, Bool.not_true, cond_false, cond_true, h]
  rfl
theorem own {f1 f2 f3 f4 f5 f6 f7 f8 f9 f10 f11 f12 f13 f14 f15 f16 f17 : Int} {s : List Int} (hs : (s.length + 1) * 8 ≤ 140737488355328) : F_own ((f1, f2, f3, f4, f5, f6, f7, f8, f9, f10, f11, f12, f13, f14, f15, f16, f17, (), ()), ()) (s, ()) = ⟨true, false, (f1, f2, f3, f4, f5, f6, f7, f8, f9, f10, f11, f12, f13, f14, f15, f16, f17, ((0, s.length, s.length + 1) : Nat × Nat × Nat), ()), ((), s ++ [-44], ()), ()⟩ := by
  rw [F_own_eq]
  have h1 : Nat.ble ((([] : List Int).length + s.length) * 8) 140737488355328 = true := Nat.ble_eq_true_of_le (by simp; omega)
  have h2 : Nat.ble ((s.length + [(-44 : Int)].length) * 8) 140737488355328 = true := Nat.ble_eq_true_of_le (by simpa using hs)
  have h3 : (decide (0 ≤ ((0 : Nat) : Int)) && (decide (((0 : Nat) : Int) ≤ ((s.length : Nat) : Int)) && decide (((s.length : Nat) : Int) ≤ (((s ++ [(-44 : Int)]).length : Nat) : Int)))) = true := by simp; omega
  have h4 : ((0 : Nat) : Int).toNat = 0 := rfl
  have h5 : ((s.length : Nat) : Int).toNat = s.length := Int.toNat_natCast _
  have h6 : (s ++ [(-44 : Int)]).length = s.length + 1 := by simp
  simp only [List.nil_append, h1, h2, h3]
  simp only [h4, h5, h6, Nat.sub_zero, Bool.and_true]
  rfl
theorem L_leftAlone {pp : T23} {n : Nat} {Q : List Int} (hn : n ≤ 100000000000000) (hQ : Q.length = n + 1) (hm : Q.getD n 0 = -44) : ∀ (m k i : Nat), m < k → i + m = n →
    L_leftAlone_7 k (((), (n : Int), ((0, n + 1, n + 1) : Nat × Nat × Nat), (i : Int), ()), (List.take n Q : List Int), Q, pp, ()) = ⟨true, false, true, ((), (), ()), ()⟩
  | m, 0, i, hk, _ => by omega
  | m, k + 1, i, hk, hi => by
    rw [L_leftAlone_7_eq]
    have hT : (Q.take n).length = n := by rw [List.length_take]; omega
    by_cases c : i < n
    · have d : decide ((i : Int) < (n : Int)) = true := by simp; omega
      have w : IntKind.i64.wrap ((i : Int) + 1) = ((i + 1 : Nat) : Int) := w64 (by omega) (by omega)
      obtain ⟨m', rfl⟩ : ∃ m', m = m' + 1 := ⟨m - 1, by omega⟩
      have e1 : (decide ((0 : Int) ≤ (i : Int)) && decide ((i : Int) < ((n + 1 : Nat) : Int))) = true := by simp; omega
      have e2 : Nat.blt (0 + i) Q.length = true := Nat.ble_eq_true_of_le (by omega)
      have e3 : (decide ((0 : Int) ≤ (i : Int)) && decide ((i : Int) < (((Q.take n).length : Nat) : Int))) = true := by rw [hT]; simp; omega
      have e4 : Nat.blt i (Q.take n).length = true := Nat.ble_eq_true_of_le (by omega)
      have e5 : (Q.take n).getD i 0 = Q.getD (0 + i) 0 := by
        rw [Nat.zero_add, List.getD_eq_getElem?_getD, List.getD_eq_getElem?_getD, List.getElem?_take_of_lt c]
      have ih := L_leftAlone (pp := pp) hn hQ hm m' k (i + 1) (by omega) (by omega)
      simp only [Int.toNat_natCast, e1, e2, e3, e4, e5, d, w, ih, cond_true, cond_false, bne_self_eq_false, Bool.and_true]
    · have d : decide ((i : Int) < (n : Int)) = false := by simp; omega
      have e1 : (decide ((0 : Int) ≤ (n : Int)) && decide ((n : Int) < ((n + 1 : Nat) : Int))) = true := by simp; omega
      have e2 : Nat.blt (0 + n) Q.length = true := Nat.ble_eq_true_of_le (by omega)
      simp only [d, cond_false, Int.toNat_natCast, e1, e2, Nat.zero_add, hm]
      rw [Nat.zero_add] at e2
      rw [e2]; rfl
theorem leftAlone {f1 f2 f3 f4 f5 f6 f7 f8 f9 f10 f11 f12 f13 f14 f15 f16 f17 : Int} {pp : T23} {n : Nat} {Q : List Int} (hn : n ≤ 100000000000000) (hQ : Q.length = n + 1) (hm : Q.getD n 0 = -44) : F_leftAlone ((f1, f2, f3, f4, f5, f6, f7, f8, f9, f10, f11, f12, f13, f14, f15, f16, f17, ((0, n, n + 1) : Nat × Nat × Nat), ()), pp, ()) ((List.take n Q : List Int), Q, ()) = ⟨true, false, true, ((), (), ()), ()⟩ := by
  have hT : (Q.take n).length = n := by rw [List.length_take]; omega
  rw [F_leftAlone_eq]
  have hk : ∀ a, k_leftAlone a ((List.take n Q : List Int), Q, ()) = (Q.take n).length + 2 := fun _ => rfl
  have w : IntKind.i64.wrap (((n : Nat) : Int) + 1) = ((n + 1 : Nat) : Int) := w64 (by omega) (by omega)
  have e1 : (decide (0 ≤ ((0 : Nat) : Int)) && (decide (((0 : Nat) : Int) ≤ ((n + 1 : Nat) : Int)) && decide (((n + 1 : Nat) : Int) ≤ ((n + 1 : Nat) : Int)))) = true := by simp; omega
  have h4 : ((0 : Nat) : Int).toNat = 0 := rfl
  have ih := L_leftAlone (pp := pp) hn hQ hm n (n + 2) 0 (by omega) (by omega)
  rw [show ((0 : Nat) : Int) = 0 from rfl] at ih
  simp only [hk, hT, w, e1, h4, bne_self_eq_false, cond_false, Int.toNat_natCast, Nat.sub_zero, Nat.zero_add, Nat.add_zero, ih, Bool.and_true]
theorem L_opens {f1 f2 f3 f4 f5 f6 f7 f8 f9 f10 f11 f12 f13 f14 f15 f16 f17 : Int} {id : Int} {t : T25} {s : List Int} {n : Nat} (hn : n ≤ 100000000000000) (hs : s.length = n) : ∀ (m k i : Nat) (Q : List Int), m < k → i + m = n → Q.length = n + 1 → Q.getD n 0 = -44 →
    L_loanOpens_8 k ((id, (), (), (), (), (i : Int), ()), s, (f1, f2, f3, f4, f5, f6, f7, f8, f9, f10, f11, f12, f13, f14, f15, f16, f17, (), ()), t, (f1, f2, f3, f4, f5, f6, f7, f8, f9, f10, f11, f12, f13, f14, f15, f16, f17, ((0, n, n + 1) : Nat × Nat × Nat), ()), (f1, f2, f3, f4, f5, f6, f7, f8, f9, f10, f11, f12, f13, f14, f15, f16, f17, ((0, n, n + 1) : Nat × Nat × Nat), ()), Q, Q, ()) = ⟨true, false, true, ((), ()), ()⟩
  | m, 0, i, Q, hk, _, _, _ => by omega
  | m, k + 1, i, Q, hk, hi, hQ, hm => by
    rw [L_loanOpens_8_eq]
    by_cases c : i < n
    · have d : decide ((i : Int) < ((s.length : Nat) : Int)) = true := by simp; omega
      have w : IntKind.i64.wrap ((i : Int) + 1) = ((i + 1 : Nat) : Int) := w64 (by omega) (by omega)
      obtain ⟨m', rfl⟩ : ∃ m', m = m' + 1 := ⟨m - 1, by omega⟩
      have e1 : (decide ((0 : Int) ≤ (i : Int)) && decide ((i : Int) < ((s.length : Nat) : Int))) = true := by simp; omega
      have e2 : Nat.blt i s.length = true := Nat.ble_eq_true_of_le (by omega)
      have e3 : (decide ((0 : Int) ≤ (i : Int)) && decide ((i : Int) < ((n : Nat) : Int))) = true := by simp; omega
      have e4 : Nat.blt i Q.length = true := Nat.ble_eq_true_of_le (by omega)
      generalize hv : IntKind.i64.wrap ((IntKind.i64.wrap (((((s.getD (i : Int).toNat (0 : Int)) % (((2 ^ 64) : Nat) : Int)).toNat &&& (16777215 % (((2 ^ 64) : Nat) : Int)).toNat) : Nat) : Int)) + 1) = v
      have e5 : (Q.set i v).getD i 0 = v := by rw [List.getD_eq_getElem?_getD, List.getElem?_set_self (by omega)]; rfl
      have e6 : Nat.blt i (Q.set i v).length = true := by rw [List.length_set]; exact e4
      have ih := L_opens (id := id) (t := t) (f1 := f1) (f2 := f2) (f3 := f3) (f4 := f4) (f5 := f5) (f6 := f6) (f7 := f7) (f8 := f8) (f9 := f9) (f10 := f10) (f11 := f11) (f12 := f12) (f13 := f13) (f14 := f14) (f15 := f15) (f16 := f16) (f17 := f17) hn hs m' k (i + 1) (Q.set i v) (by omega) (by omega) (by rw [List.length_set]; exact hQ) (by
        rw [List.getD_eq_getElem?_getD, List.getElem?_set_ne (by omega), ← List.getD_eq_getElem?_getD]; exact hm)
      have d0 : decide ((0 : Int) ≤ (i : Int)) = true := by simp
      have d1 : decide ((i : Int) < ((n : Nat) : Int)) = true := by simp; omega
      simp only [Int.toNat_natCast, Nat.zero_add, e1, e2, e3, e4, e5, e6, d, d0, d1, w, ih, cond_true, Bool.and_true]
    · have d : decide ((i : Int) < ((s.length : Nat) : Int)) = false := by simp; omega
      obtain ⟨r, pl, o1, o2, hl⟩ := opens (f1, f2, f3, f4, f5, f6, f7, f8, f9, f10, f11, f12, f13, f14, f15, f16, f17, (), ()) id t (List.take n Q : List Int)
      have h1 := same r (x := pl) (by omega)
      have h2 := leftAlone (f1 := f1) (f2 := f2) (f3 := f3) (f4 := f4) (f5 := f5) (f6 := f6) (f7 := f7) (f8 := f8) (f9 := f9) (f10 := f10) (f11 := f11) (f12 := f12) (f13 := f13) (f14 := f14) (f15 := f15) (f16 := f16) (f17 := f17) (pp := (f1, f2, f3, f4, f5, f6, f7, f8, f9, f10, f11, f12, f13, f14, f15, f16, f17, (), ())) hn hQ hm
      simp only [d, cond_false, List.drop_zero]
      erw [o1, o2]
      simp only []
      erw [h1, h2]
      simp only [cond_true, Bool.and_true]
end Go.Proofs.YtklpneeakhbahaaGreatDoor.Fs
end
section
set_option linter.unusedVariables false
set_option linter.unusedSimpArgs false
set_option maxRecDepth 20000
namespace Go.Proofs.YtklpneeakhbahaaGreatDoor.Fs
open Go Go.Proofs.YtklpneeakhbahaaGreatDoor.Ls P Go.Proofs.YtklpneeakhbahaaGreatDoor.Cal
theorem loanOpens' {f1 f2 f3 f4 f5 f6 f7 f8 f9 f10 f11 f12 f13 f14 f15 f16 f17 : Int} {id : Int} {t : T25} {s Q : List Int} (hn : s.length ≤ 100000000000000) (hT : List.take s.length Q = s) (hlen : Q.length = s.length + 1) (hm : Q.getD s.length 0 = -44)
    (h0 : F_own ((f1, f2, f3, f4, f5, f6, f7, f8, f9, f10, f11, f12, f13, f14, f15, f16, f17, (), ()), ()) (s, ()) = ⟨true, false, (f1, f2, f3, f4, f5, f6, f7, f8, f9, f10, f11, f12, f13, f14, f15, f16, f17, ((0, s.length, s.length + 1) : Nat × Nat × Nat), ()), ((), Q, ()), ()⟩) : F_loanOpens ((f1, f2, f3, f4, f5, f6, f7, f8, f9, f10, f11, f12, f13, f14, f15, f16, f17, (), ()), id, t, ()) (s, ()) = ⟨true, false, true, ((), ()), ()⟩ := by
  obtain ⟨r, pl, o1, o2, hl⟩ := opens (f1, f2, f3, f4, f5, f6, f7, f8, f9, f10, f11, f12, f13, f14, f15, f16, f17, (), ()) id t s
  have o1' : F_open ((f1, f2, f3, f4, f5, f6, f7, f8, f9, f10, f11, f12, f13, f14, f15, f16, f17, (), ()), id, t, ()) ((List.take s.length Q : List Int), ()) = ⟨true, false, r, ((), pl, [], ()), ()⟩ := by rw [hT]; exact o1
  have h1 := same r (x := pl) (by omega)
  have h2 := leftAlone (f1 := f1) (f2 := f2) (f3 := f3) (f4 := f4) (f5 := f5) (f6 := f6) (f7 := f7) (f8 := f8) (f9 := f9) (f10 := f10) (f11 := f11) (f12 := f12) (f13 := f13) (f14 := f14) (f15 := f15) (f16 := f16) (f17 := f17) (pp := (f1, f2, f3, f4, f5, f6, f7, f8, f9, f10, f11, f12, f13, f14, f15, f16, f17, (), ())) (n := s.length) hn hlen hm
  rw [hT] at h2
  have h3 := L_opens (id := id) (t := t) (f1 := f1) (f2 := f2) (f3 := f3) (f4 := f4) (f5 := f5) (f6 := f6) (f7 := f7) (f8 := f8) (f9 := f9) (f10 := f10) (f11 := f11) (f12 := f12) (f13 := f13) (f14 := f14) (f15 := f15) (f16 := f16) (f17 := f17) (n := s.length) hn rfl s.length (s.length + 2) 0 Q (by omega) (by omega) hlen hm
  rw [show ((0 : Nat) : Int) = 0 from rfl] at h3
  rw [F_loanOpens_eq]
  have hk : ∀ a, k_loanOpens a (s, ()) = s.length + 2 := fun _ => rfl
  rw [hk, h0]
  simp only [List.drop_zero]
  erw [o1', o2]
  simp only []
  erw [h1, h2, h3]
  simp only [cond_true, cond_false, Bool.not_true, Bool.and_true]
theorem loanOpens (p : T23) (id : Int) (t : T25) (s : List Int) (hs : (s.length + 1) * 8 ≤ 140737488355328) : F_loanOpens (p, id, t, ()) (s, ()) = ⟨true, false, true, ((), ()), ()⟩ := by
  obtain ⟨f1, f2, f3, f4, f5, f6, f7, f8, f9, f10, f11, f12, f13, f14, f15, f16, f17, ⟨⟩, ⟨⟩⟩ := p
  have a1 : List.take s.length (s ++ [(-44 : Int)]) = s := by simp
  have a2 : (s ++ [(-44 : Int)]).length = s.length + 1 := by simp
  have a3 : (s ++ [(-44 : Int)]).getD s.length 0 = -44 := by simp [List.getD_eq_getElem?_getD]
  exact loanOpens' (Q := s ++ [(-44 : Int)]) (by omega) a1 a2 a3 (own hs)
end Go.Proofs.YtklpneeakhbahaaGreatDoor.Fs
end
section
set_option linter.unusedVariables false
set_option linter.unusedSimpArgs false
namespace Go.Proofs.YtklpneeakhbahaaGreatDoor.Fs
open Go Go.Proofs.YtklpneeakhbahaaGreatDoor.Ls Go.Joins Go.ChangeShapes Go.WideShapes Go.RowKit Go.Deep
theorem cell_block {W : World} {a : Addr} {v : Value} (h : W.cell? a = some v) : a.spot = none ∧ ∃ c t fr, W.heap[a.block]? = some (.cells c t fr) ∧ c[a.off]? = some v := by
  have hsp := World.cell?_spot h
  refine ⟨hsp, ?_⟩
  unfold World.cell? at h
  split at h <;> simp_all
def RowIn (W : World) (A : Option Addr) (c : Nat) (s : List Int) : Prop :=
  s.length ≤ c ∧ (c ≠ 0 → ∃ (b o : Nat) (cs : Array Value) (t : TypeId) (fr : Nat × Nat), A = some ⟨b, o, none⟩ ∧ W.heap[b]? = some (.cells cs t fr) ∧ o + s.length ≤ cs.size ∧ ∀ (i : Nat) (z : Int), s[i]? = some z → cs[o + i]? = some (.int .i64 z))
section
variable {H : Type} {enc : TypeId × Value → H} {P : Program} {w : World} {base : Nat} {held : Bool}
theorem open_fields {r : Reach} {b0 : Nat} {t : TypeId} {fs : Array Field} {v : Value} {d : DataW H} {p : List MemPlace} (hs : P.underlying t = some (.struct fs)) (hone : oneCellFields P fs = true) (hC : P.cellsOf t = fs.size)
    (hv : Value.okWide P w r b0 t v) (h : DataW.Trod enc P w base (fun _ => true) held t v d p) :
    ∃ (cs : Array Value) (ys : List (DataW H × List MemPlace)) (n : Nat), v = .agg cs ∧ cs.size = fs.size ∧ d = .agg (ys.map (·.1)) ∧ ys.length = fs.size ∧
      ∀ (j : Nat) (f : Field), fs[j]? = some f → ∃ (c : Value) (y : DataW H × List MemPlace), cs[j]? = some c ∧ ys[j]? = some y ∧ DataW.trod enc P w base (fun _ => true) held n f.type [c] = some y := by
  obtain ⟨cs, rfl, hsz⟩ := okWide_struct hs hv
  obtain ⟨fuel, hf⟩ := h
  obtain ⟨ys, n, _, hx, hlen, hyl, hat⟩ := DataW.trod_struct hs hf
  simp only [Prod.mk.injEq] at hx
  refine ⟨cs, ys, n, rfl, hsz.trans hC, hx.1, hyl, fun j f hj => ?_⟩
  obtain ⟨ho, hk⟩ := hone_of hone j f hj
  have hjl : j < fs.size := (Array.getElem?_eq_some_iff.1 hj).1
  have hjc : j < cs.size := by rw [hsz, hC]; exact hjl
  have h1 := hat j f hj
  rw [ho, hk] at h1
  have hys : ys[j]? = some (ys[j]'(by omega)) := List.getElem?_eq_getElem (by omega)
  refine ⟨cs[j], ys[j]'(by omega), by simp [hjc], hys, ?_⟩
  rw [← hys, ← h1]
  congr 1
  have hl : (Value.agg cs).cells.toList = cs.toList := rfl
  rw [hl, List.drop_eq_getElem_cons (by simpa using hjc)]
  simp
end
theorem row_in {H : Type} {enc : TypeId × Value → H} {W : World} {base fuel : Nat} {held : Bool} {c0 : Value} {y : DataW H × List MemPlace} (h : DataW.trod enc Tryz.prog W base (fun _ => true) held fuel 22 [c0] = some y) :
    ∃ (A : Option Addr) (c : Nat) (s : List Int), c0 = .slice A s.length c ∧ RowIn W A c s ∧ (s = [] ∨ ∃ es sp, y.1 = .slice es sp ∧ es.length = s.length) := by
  rcases open_ints Tryz.underlying22 Tryz.underlying3 (by kernel_rfl) h with ⟨hcs, _⟩ | ⟨a, len, cap, zs, hcs, _, hl, _, hz, hx, hcell, _⟩
  · simp only [List.cons.injEq, and_true] at hcs
    subst hcs
    exact ⟨none, 0, [], rfl, ⟨Nat.le_refl _, fun h => absurd rfl h⟩, .inl rfl⟩
  · simp only [List.cons.injEq, and_true] at hcs
    subst hcs
    simp only [if_true] at hz
    have hln : (zs.take len).length = len := by rw [List.length_take]; omega
    refine ⟨some a, cap, zs.take len, by rw [hln], ⟨by omega, fun hc => ?_⟩, .inr ⟨_, _, by rw [hx], by simp [lits]⟩⟩
    obtain ⟨b, off, sp⟩ := a
    have hsp : sp = none := by
      have := (cell_block (hcell 0 (by omega))).1
      cases sp with
      | none => rfl
      | some x => cases this
    subst hsp
    have hc0 := hcell 0 (by omega)
    rw [Addr.add_lit] at hc0
    obtain ⟨_, cs, t, fr, hb, _⟩ := cell_block hc0
    have hb : W.heap[b]? = some (.cells cs t fr) := hb
    have hat : ∀ i, i < zs.length → cs[off + i]? = some (.int .i64 (zs.getD i 0)) := by
      intro i hi
      have hci := hcell i hi
      rw [Addr.add_lit] at hci
      obtain ⟨_, cs', t', fr', hb', hc'⟩ := cell_block hci
      have hb2 : W.heap[b]? = some (.cells cs' t' fr') := hb'
      rw [hb] at hb2
      cases hb2
      exact hc'
    refine ⟨b, off, cs, t, fr, rfl, hb, ?_, fun i z hi => ?_⟩
    · rw [hln]
      have := hat (zs.length - 1) (by omega)
      have := (Array.getElem?_eq_some_iff.1 this).1
      omega
    · have hil : i < len := by have := (List.getElem?_eq_some_iff.1 hi).1; omega
      rw [List.getElem?_take_of_lt hil] at hi
      rw [hat i (by omega), List.getD_eq_getElem?_getD, hi]
      rfl
theorem int_in {H : Type} {enc : TypeId × Value → H} {W : World} {base fuel : Nat} {held : Bool} {t : TypeId} {c0 : Value} {y : DataW H × List MemPlace} (ht : Tryz.prog.underlying t = some (.int .i64)) (h : DataW.trod enc Tryz.prog W base (fun _ => true) held fuel t [c0] = some y) : ∃ z, c0 = .int .i64 z := by
  obtain ⟨z, e, _, _⟩ := DataW.trod_int ht h
  simp only [List.cons.injEq, and_true] at e
  exact ⟨z, e⟩
set_option maxRecDepth 100000 in
theorem open_policy {H : Type} {enc : TypeId × Value → H} {W : World} {base b0 : Nat} {r : Reach} {v : Value} {d : DataW H} {p : List MemPlace}
    (hv : Value.okWide Tryz.prog W r b0 24 v) (h : DataW.Trod enc Tryz.prog W base (fun _ => true) true 24 v d p) (hw : (d.weights Tryz.prog 24).all (· ≤ reachBytes) = true) :
    ∃ (f1 f2 f3 f4 f5 f6 f7 f8 f9 f10 f11 f12 f13 f14 f15 f16 f17 : Int) (A : Option Addr) (c : Nat) (s : List Int), v = .agg #[.int .i64 f1, .int .i64 f2, .int .i64 f3, .int .i64 f4, .int .i64 f5, .int .i64 f6, .int .i64 f7, .int .i64 f8, .int .i64 f9, .int .i64 f10, .int .i64 f11, .int .i64 f12, .int .i64 f13, .int .i64 f14, .int .i64 f15, .int .i64 f16, .int .i64 f17, .slice A s.length c] ∧ RowIn W A c s ∧ (s.length + 1) * 8 ≤ 140737488355328 := by
  obtain ⟨cs, ys, n, rfl, hsz, rfl, hyl, hat⟩ := open_fields Tryz.underlying24 (by kernel_rfl) (by kernel_rfl) hv h
  obtain ⟨c0, _, e0, _, k0⟩ := hat 0 _ rfl
  obtain ⟨z0, rfl⟩ := int_in (by first | exact Tryz.underlying3 | exact Tryz.underlying2) k0
  obtain ⟨c1, _, e1, _, k1⟩ := hat 1 _ rfl
  obtain ⟨z1, rfl⟩ := int_in (by first | exact Tryz.underlying3 | exact Tryz.underlying2) k1
  obtain ⟨c2, _, e2, _, k2⟩ := hat 2 _ rfl
  obtain ⟨z2, rfl⟩ := int_in (by first | exact Tryz.underlying3 | exact Tryz.underlying2) k2
  obtain ⟨c3, _, e3, _, k3⟩ := hat 3 _ rfl
  obtain ⟨z3, rfl⟩ := int_in (by first | exact Tryz.underlying3 | exact Tryz.underlying2) k3
  obtain ⟨c4, _, e4, _, k4⟩ := hat 4 _ rfl
  obtain ⟨z4, rfl⟩ := int_in (by first | exact Tryz.underlying3 | exact Tryz.underlying2) k4
  obtain ⟨c5, _, e5, _, k5⟩ := hat 5 _ rfl
  obtain ⟨z5, rfl⟩ := int_in (by first | exact Tryz.underlying3 | exact Tryz.underlying2) k5
  obtain ⟨c6, _, e6, _, k6⟩ := hat 6 _ rfl
  obtain ⟨z6, rfl⟩ := int_in (by first | exact Tryz.underlying3 | exact Tryz.underlying2) k6
  obtain ⟨c7, _, e7, _, k7⟩ := hat 7 _ rfl
  obtain ⟨z7, rfl⟩ := int_in (by first | exact Tryz.underlying3 | exact Tryz.underlying2) k7
  obtain ⟨c8, _, e8, _, k8⟩ := hat 8 _ rfl
  obtain ⟨z8, rfl⟩ := int_in (by first | exact Tryz.underlying3 | exact Tryz.underlying2) k8
  obtain ⟨c9, _, e9, _, k9⟩ := hat 9 _ rfl
  obtain ⟨z9, rfl⟩ := int_in (by first | exact Tryz.underlying3 | exact Tryz.underlying2) k9
  obtain ⟨c10, _, e10, _, k10⟩ := hat 10 _ rfl
  obtain ⟨z10, rfl⟩ := int_in (by first | exact Tryz.underlying3 | exact Tryz.underlying2) k10
  obtain ⟨c11, _, e11, _, k11⟩ := hat 11 _ rfl
  obtain ⟨z11, rfl⟩ := int_in (by first | exact Tryz.underlying3 | exact Tryz.underlying2) k11
  obtain ⟨c12, _, e12, _, k12⟩ := hat 12 _ rfl
  obtain ⟨z12, rfl⟩ := int_in (by first | exact Tryz.underlying3 | exact Tryz.underlying2) k12
  obtain ⟨c13, _, e13, _, k13⟩ := hat 13 _ rfl
  obtain ⟨z13, rfl⟩ := int_in (by first | exact Tryz.underlying3 | exact Tryz.underlying2) k13
  obtain ⟨c14, _, e14, _, k14⟩ := hat 14 _ rfl
  obtain ⟨z14, rfl⟩ := int_in (by first | exact Tryz.underlying3 | exact Tryz.underlying2) k14
  obtain ⟨c15, _, e15, _, k15⟩ := hat 15 _ rfl
  obtain ⟨z15, rfl⟩ := int_in (by first | exact Tryz.underlying3 | exact Tryz.underlying2) k15
  obtain ⟨c16, _, e16, _, k16⟩ := hat 16 _ rfl
  obtain ⟨z16, rfl⟩ := int_in (by first | exact Tryz.underlying3 | exact Tryz.underlying2) k16
  obtain ⟨c17, y17, e17, g17, k17⟩ := hat 17 _ rfl
  obtain ⟨A, c, s, rfl, hr, hy⟩ := row_in k17
  refine ⟨z0, z1, z2, z3, z4, z5, z6, z7, z8, z9, z10, z11, z12, z13, z14, z15, z16, A, c, s, ?_, hr, ?_⟩
  · congr 1
    refine Array.ext (by rw [hsz]; rfl) (fun i h1 h2 => ?_)
    have h2' : i < 18 := h2
    have key : cs[i]? = (#[.int .i64 z0, .int .i64 z1, .int .i64 z2, .int .i64 z3, .int .i64 z4, .int .i64 z5, .int .i64 z6, .int .i64 z7, .int .i64 z8, .int .i64 z9, .int .i64 z10, .int .i64 z11, .int .i64 z12, .int .i64 z13, .int .i64 z14, .int .i64 z15, .int .i64 z16, .slice A s.length c] : Array Value)[i]? := by
      rcases i with _ | _ | _ | _ | _ | _ | _ | _ | _ | _ | _ | _ | _ | _ | _ | _ | _ | _ | i
      · exact e0
      · exact e1
      · exact e2
      · exact e3
      · exact e4
      · exact e5
      · exact e6
      · exact e7
      · exact e8
      · exact e9
      · exact e10
      · exact e11
      · exact e12
      · exact e13
      · exact e14
      · exact e15
      · exact e16
      · exact e17
      · omega
    rw [Array.getElem?_eq_getElem h1, Array.getElem?_eq_getElem h2] at key
    exact Option.some.inj key
  · rcases hy with rfl | ⟨es, sp, hy, hl⟩
    · decide
    · have hw2 : (DataW.weightsEach Tryz.prog ((#[{ name := "FirstDay", type := 3, offset := 0, embedded := false, tag := "", pkgPath := "", byteOffset := 0 }, { name := "Grace", type := 3, offset := 1, embedded := false, tag := "", pkgPath := "", byteOffset := 8 }, { name := "NonAccrual", type := 3, offset := 2, embedded := false, tag := "", pkgPath := "", byteOffset := 16 }, { name := "ChargeOff", type := 3, offset := 3, embedded := false, tag := "", pkgPath := "", byteOffset := 24 }, { name := "LateRate", type := 2, offset := 4, embedded := false, tag := "", pkgPath := "", byteOffset := 32 }, { name := "LateMin", type := 2, offset := 5, embedded := false, tag := "", pkgPath := "", byteOffset := 40 }, { name := "LateMax", type := 2, offset := 6, embedded := false, tag := "", pkgPath := "", byteOffset := 48 }, { name := "CycleCap", type := 2, offset := 7, embedded := false, tag := "", pkgPath := "", byteOffset := 56 }, { name := "LifeCap", type := 2, offset := 8, embedded := false, tag := "", pkgPath := "", byteOffset := 64 }, { name := "Promises", type := 3, offset := 9, embedded := false, tag := "", pkgPath := "", byteOffset := 72 }, { name := "PromiseDays", type := 3, offset := 10, embedded := false, tag := "", pkgPath := "", byteOffset := 80 }, { name := "Restructures", type := 3, offset := 11, embedded := false, tag := "", pkgPath := "", byteOffset := 88 }, { name := "Order", type := 3, offset := 12, embedded := false, tag := "", pkgPath := "", byteOffset := 96 }, { name := "Rule", type := 3, offset := 13, embedded := false, tag := "", pkgPath := "", byteOffset := 104 }, { name := "RetryBase", type := 3, offset := 14, embedded := false, tag := "", pkgPath := "", byteOffset := 112 }, { name := "RetryCap", type := 3, offset := 15, embedded := false, tag := "", pkgPath := "", byteOffset := 120 }, { name := "SnapEvery", type := 3, offset := 16, embedded := false, tag := "", pkgPath := "", byteOffset := 128 }, { name := "Holidays", type := 22, offset := 17, embedded := false, tag := "", pkgPath := "", byteOffset := 136 }] : Array Field).toList.map (·.type)) (ys.map (·.1))).all (· ≤ reachBytes) = true := by
        have e : (DataW.agg (ys.map (·.1))).weights Tryz.prog 24 = DataW.weightsEach Tryz.prog ((#[{ name := "FirstDay", type := 3, offset := 0, embedded := false, tag := "", pkgPath := "", byteOffset := 0 }, { name := "Grace", type := 3, offset := 1, embedded := false, tag := "", pkgPath := "", byteOffset := 8 }, { name := "NonAccrual", type := 3, offset := 2, embedded := false, tag := "", pkgPath := "", byteOffset := 16 }, { name := "ChargeOff", type := 3, offset := 3, embedded := false, tag := "", pkgPath := "", byteOffset := 24 }, { name := "LateRate", type := 2, offset := 4, embedded := false, tag := "", pkgPath := "", byteOffset := 32 }, { name := "LateMin", type := 2, offset := 5, embedded := false, tag := "", pkgPath := "", byteOffset := 40 }, { name := "LateMax", type := 2, offset := 6, embedded := false, tag := "", pkgPath := "", byteOffset := 48 }, { name := "CycleCap", type := 2, offset := 7, embedded := false, tag := "", pkgPath := "", byteOffset := 56 }, { name := "LifeCap", type := 2, offset := 8, embedded := false, tag := "", pkgPath := "", byteOffset := 64 }, { name := "Promises", type := 3, offset := 9, embedded := false, tag := "", pkgPath := "", byteOffset := 72 }, { name := "PromiseDays", type := 3, offset := 10, embedded := false, tag := "", pkgPath := "", byteOffset := 80 }, { name := "Restructures", type := 3, offset := 11, embedded := false, tag := "", pkgPath := "", byteOffset := 88 }, { name := "Order", type := 3, offset := 12, embedded := false, tag := "", pkgPath := "", byteOffset := 96 }, { name := "Rule", type := 3, offset := 13, embedded := false, tag := "", pkgPath := "", byteOffset := 104 }, { name := "RetryBase", type := 3, offset := 14, embedded := false, tag := "", pkgPath := "", byteOffset := 112 }, { name := "RetryCap", type := 3, offset := 15, embedded := false, tag := "", pkgPath := "", byteOffset := 120 }, { name := "SnapEvery", type := 3, offset := 16, embedded := false, tag := "", pkgPath := "", byteOffset := 128 }, { name := "Holidays", type := 22, offset := 17, embedded := false, tag := "", pkgPath := "", byteOffset := 136 }] : Array Field).toList.map (·.type)) (ys.map (·.1)) := by
          unfold DataW.weights; rw [Tryz.underlying24]
        rw [← e]; exact hw
      have := sized_slice hw2 (j := 17) (t := 22) (e := 3) (elems := es) (spare := sp) rfl (by rw [List.getElem?_map, g17]; simp [hy]) Tryz.underlying22
      rw [show Tryz.prog.bytesOf 3 = 8 by kernel_rfl] at this
      have hrb : reachBytes = 140737488351232 := rfl
      rw [hrb] at this
      omega
set_option maxRecDepth 100000 in
theorem open_terms {H : Type} {enc : TypeId × Value → H} {W : World} {base b0 : Nat} {r : Reach} {v : Value} {d : DataW H} {p : List MemPlace}
    (hv : Value.okWide Tryz.prog W r b0 26 v) (h : DataW.Trod enc Tryz.prog W base (fun _ => true) true 26 v d p) :
    ∃ t1 t2 t3 t4 t5 t6 : Int, v = .agg #[.int .i64 t1, .int .i64 t2, .int .i64 t3, .int .i64 t4, .int .i64 t5, .int .i64 t6] := by
  obtain ⟨cs, ys, n, rfl, hsz, rfl, hyl, hat⟩ := open_fields Tryz.underlying26 (by kernel_rfl) (by kernel_rfl) hv h
  obtain ⟨c0, _, e0, _, k0⟩ := hat 0 _ rfl
  obtain ⟨z0, rfl⟩ := int_in (by first | exact Tryz.underlying3 | exact Tryz.underlying2) k0
  obtain ⟨c1, _, e1, _, k1⟩ := hat 1 _ rfl
  obtain ⟨z1, rfl⟩ := int_in (by first | exact Tryz.underlying3 | exact Tryz.underlying2) k1
  obtain ⟨c2, _, e2, _, k2⟩ := hat 2 _ rfl
  obtain ⟨z2, rfl⟩ := int_in (by first | exact Tryz.underlying3 | exact Tryz.underlying2) k2
  obtain ⟨c3, _, e3, _, k3⟩ := hat 3 _ rfl
  obtain ⟨z3, rfl⟩ := int_in (by first | exact Tryz.underlying3 | exact Tryz.underlying2) k3
  obtain ⟨c4, _, e4, _, k4⟩ := hat 4 _ rfl
  obtain ⟨z4, rfl⟩ := int_in (by first | exact Tryz.underlying3 | exact Tryz.underlying2) k4
  obtain ⟨c5, _, e5, _, k5⟩ := hat 5 _ rfl
  obtain ⟨z5, rfl⟩ := int_in (by first | exact Tryz.underlying3 | exact Tryz.underlying2) k5
  refine ⟨z0, z1, z2, z3, z4, z5, ?_⟩
  congr 1
  refine Array.ext (by rw [hsz]; rfl) (fun i h1 h2 => ?_)
  have h2' : i < 6 := h2
  have key : cs[i]? = (#[.int .i64 z0, .int .i64 z1, .int .i64 z2, .int .i64 z3, .int .i64 z4, .int .i64 z5] : Array Value)[i]? := by
    rcases i with _ | _ | _ | _ | _ | _ | i
    · exact e0
    · exact e1
    · exact e2
    · exact e3
    · exact e4
    · exact e5
    · omega
  rw [Array.getElem?_eq_getElem h1, Array.getElem?_eq_getElem h2] at key
  exact Option.some.inj key
def E0 (A : Option Addr) (c n : Nat) : Emb := fun id =>
  if GB ≤ id then ⟨id - GB, 0, (if id = GB then 12 else 13), 1, (if id = GB then 12 else 13), false⟩
  else match A with
    | some a => ⟨a.block, a.off, c, 1, n, false⟩
    | none => ⟨0, 0, 0, 1, n, false⟩
def sides : List Int := [1, 1, 1, 1, -1, -1, -1, -1, -1, 1, -1, 1]
def ahead : List Int := [0, 31, 59, 90, 120, 151, 181, 212, 243, 273, 304, 334, 365]
theorem globs_in {g : Nat} {o : Ob TT} (h : globs g = some o) : (g = 0 ∧ o = .row false 3 sides) ∨ (g = 1 ∧ o = .row false 3 ahead) := by
  unfold globs at h
  split at h
  · rename_i hg
    cases h
    exact .inr ⟨(Nat.eq_of_beq_eq_true hg), rfl⟩
  · split at h
    · rename_i hg
      cases h
      exact .inl ⟨(Nat.eq_of_beq_eq_true hg), rfl⟩
    · cases h
theorem encAll3 : ∀ (s : List Int), encAll (TT 3) s = s.map (Value.int .i64)
  | [] => rfl
  | x :: r => by
    show Value.int .i64 x :: encAll (TT 3) r = _
    rw [encAll3 r]; rfl
theorem tab_cells {W : World} {name : String} {zs : List Int} {g : Nat} (h : Lib.TabIs Tryz.prog W name .i64 zs) (hg : Tryz.prog.globalNamed name = some g) (hne : zs ≠ []) :
    ∃ c t fr, W.heap[g]? = some (.cells c t fr) ∧ zs.length ≤ c.size ∧ ∀ (i : Nat) (z : Int), zs[i]? = some z → c[i]? = some (.int .i64 z) := by
  have hpos : 0 < zs.length := List.length_pos_iff.2 hne
  obtain ⟨_, c, t, fr, hb, _⟩ := cell_block (h.cell hg 0 hpos)
  have hat : ∀ i, i < zs.length → c[i]? = some (.int .i64 (zs.getD i 0)) := by
    intro i hi
    obtain ⟨_, c', t', fr', hb', hc'⟩ := cell_block (h.cell hg i hi)
    have hb2 : W.heap[g]? = some (.cells c' t' fr') := hb'
    have hb1 : W.heap[g]? = some (.cells c t fr) := hb
    rw [hb1] at hb2
    cases hb2
    exact hc'
  refine ⟨c, t, fr, hb, ?_, fun i z hi => ?_⟩
  · have := (Array.getElem?_eq_some_iff.1 (hat (zs.length - 1) (by omega))).1
    omega
  · rw [hat i (List.getElem?_eq_some_iff.1 hi).1, List.getD_eq_getElem?_getD, hi]
    rfl
theorem sim0 {W : World} {A : Option Addr} {c : Nat} {s : List Int} (hr : RowIn W A c s) (h1 : Lib.TabIs Tryz.prog W "arrears/ledger.sides" .i64 sides) (h2 : Lib.TabIs Tryz.prog W "arrears/calendar.ahead" .i64 ahead) :
    Sim globs (E0 A (if c = 0 then 0 else c) s.length) (encO rid [OS.row false 3] ((s, ()) : tysO TT [OS.row false 3])) W := by
  have rows : ∀ id o, lookO globs (encO rid [OS.row false 3] ((s, ()) : tysO TT [OS.row false 3])) id = some o → (id = 0 ∧ o = .row false 3 s) ∨ (id = GB ∧ o = .row false 3 sides) ∨ (id = GB + 1 ∧ o = .row false 3 ahead) := by
    intro id o h
    by_cases hg : GB ≤ id
    · rw [lookO_ge hg] at h
      rcases globs_in h with ⟨e, rfl⟩ | ⟨e, rfl⟩
      · exact .inr (.inl ⟨by omega, rfl⟩)
      · exact .inr (.inr ⟨by omega, rfl⟩)
    · rw [lookO_lt (by omega)] at h
      cases id with
      | zero => simp [encO, OS.enc] at h; exact .inl ⟨rfl, h.symm⟩
      | succ id => simp [encO] at h
  have tabOb : ∀ (g : Nat) (zs : List Int) (nm : String) (E : Emb), E (GB + g) = ⟨g, 0, zs.length, 1, zs.length, false⟩ → zs ≠ [] → Lib.TabIs Tryz.prog W nm .i64 zs → Tryz.prog.globalNamed nm = some g → ObR (T := TT) E 1 (GB + g) W (.row false 3 zs) := by
    intro g zs nm E hE hne ht hg
    obtain ⟨cs, t, fr, q1, q2, q3⟩ := tab_cells ht hg hne
    refine ⟨rfl, by rw [hE]; rfl, by rw [hE]; rfl, by rw [hE]; exact Nat.le_refl _, .inr ⟨cs, t, fr, by rw [hE]; exact q1, (fun h => by cases h), by rw [hE]; show 0 + zs.length * 1 ≤ cs.size; omega, fun i v hv => ?_⟩⟩
    rw [encAll3, List.getElem?_map] at hv
    cases hz : zs[i]? with
    | none => rw [hz] at hv; cases hv
    | some z => rw [hz] at hv; cases hv; rw [hE]; simpa using q3 i z hz
  refine ⟨(by show 1 ≤ GB; decide), ?_, ?_, ?_, ?_⟩
  · intro id o h
    rcases rows id o h with ⟨rfl, rfl⟩ | ⟨rfl, rfl⟩ | ⟨rfl, rfl⟩
    · have hn : ¬ GB ≤ 0 := by decide
      by_cases hc : c = 0
      · have hs : s = [] := List.eq_nil_of_length_eq_zero (by have := hr.1; omega)
        subst hs
        rw [if_pos hc]
        cases A <;> exact ⟨rfl, rfl, rfl, Nat.le_refl _, .inl rfl⟩
      · obtain ⟨b, off, cs, t, fr, rfl, q1, q2, q3⟩ := hr.2 hc
        rw [if_neg hc]
        refine ⟨rfl, rfl, rfl, hr.1, .inr ⟨cs, t, fr, q1, (fun h => by cases h), by show off + s.length * 1 ≤ cs.size; omega, fun i v hv => ?_⟩⟩
        rw [encAll3, List.getElem?_map] at hv
        cases hz : s[i]? with
        | none => rw [hz] at hv; cases hv
        | some z => rw [hz] at hv; cases hv; exact q3 i z hz
    · exact tabOb 0 sides _ _ rfl (by decide) h1 (by kernel_rfl)
    · exact tabOb 1 ahead _ _ rfl (by decide) h2 (by kernel_rfl)
  · intro i j oi oj hij hi hj hsi hsj
    have hrw : (E0 A (if c = 0 then 0 else c) s.length j).rw = false := by
      unfold E0; split
      · rfl
      · cases A <;> rfl
    rcases rows j oj hj with ⟨_, rfl⟩ | ⟨_, rfl⟩ | ⟨_, rfl⟩ <;> (have := hsj.2; rw [hrw] at this; cases this)
  · intro id hid
    unfold E0; rw [if_pos hid]; exact ⟨rfl, rfl⟩
  · intro g cs h
    rcases globs_in h with ⟨_, h⟩ | ⟨_, h⟩ <;> cases h
theorem loan_walk {W : World} (f1 f2 f3 f4 f5 f6 f7 f8 f9 f10 f11 f12 f13 f14 f15 f16 f17 : Int) (A : Option Addr) (c : Nat) (s : List Int) (hr : RowIn W A c s) (hs : (s.length + 1) * 8 ≤ 140737488355328) (id : Int) (t1 t2 t3 t4 t5 t6 : Int)
    (h1 : Lib.TabIs Tryz.prog W "arrears/ledger.sides" .i64 sides) (h2 : Lib.TabIs Tryz.prog W "arrears/calendar.ahead" .i64 ahead) :
    Calls Tryz.prog 3 #[.agg #[.int .i64 f1, .int .i64 f2, .int .i64 f3, .int .i64 f4, .int .i64 f5, .int .i64 f6, .int .i64 f7, .int .i64 f8, .int .i64 f9, .int .i64 f10, .int .i64 f11, .int .i64 f12, .int .i64 f13, .int .i64 f14, .int .i64 f15, .int .i64 f16, .int .i64 f17, .slice A s.length c], .int .i64 id, .agg #[.int .i64 t1, .int .i64 t2, .int .i64 t3, .int .i64 t4, .int .i64 t5, .int .i64 t6]] W fun e w1 => e = .returned (.bool true) ∧ Below W.heap.size W w1 := by
  have hF := loanOpens (f1, f2, f3, f4, f5, f6, f7, f8, f9, f10, f11, f12, f13, f14, f15, f16, f17, (), ()) id (t1, t2, t3, t4, t5, t6, ()) s hs
  have hsl : VR (E0 A (if c = 0 then 0 else c) s.length) 1 (.slice (some ⟨0, 0, none⟩) 0 0) (.slice A s.length c) := by
    by_cases hc : c = 0
    · have hs0 : s.length = 0 := by have := hr.1; omega
      rw [hs0, hc]
      exact .wsl0 0 A (.inl (by omega)) (by cases A <;> rfl)
    · obtain ⟨b, off, cs, t, fr, rfl, q1, q2, q3⟩ := hr.2 hc
      rw [if_neg hc]
      exact VR.wsl (E := E0 (some ⟨b, off, none⟩) c s.length) 0 c (.inl (by omega)) hr.1 (Nat.le_refl _)
  have hargs : PW (E0 A (if c = 0 then 0 else c) s.length) g_loanOpens.hp.length (g_loanOpens.args.enc rid true (((f1, f2, f3, f4, f5, f6, f7, f8, f9, f10, f11, f12, f13, f14, f15, f16, f17, (), ()), id, (t1, t2, t3, t4, t5, t6, ()), ()) : g_loanOpens.args.ty) []) [.agg #[.int .i64 f1, .int .i64 f2, .int .i64 f3, .int .i64 f4, .int .i64 f5, .int .i64 f6, .int .i64 f7, .int .i64 f8, .int .i64 f9, .int .i64 f10, .int .i64 f11, .int .i64 f12, .int .i64 f13, .int .i64 f14, .int .i64 f15, .int .i64 f16, .int .i64 f17, .slice A s.length c], .int .i64 id, .agg #[.int .i64 t1, .int .i64 t2, .int .i64 t3, .int .i64 t4, .int .i64 t5, .int .i64 t6]] := by
    have one : ∀ z : Int, VR (E0 A (if c = 0 then 0 else c) s.length) 1 (.int .i64 z) (.int .i64 z) := fun z => .scal _ rfl
    refine .cons (VR.agg_mk ?_) (.cons (one id) (.cons (VR.agg_mk ?_) .nil))
    · exact (.cons (one _) (.cons (one _) (.cons (one _) (.cons (one _) (.cons (one _) (.cons (one _) (.cons (one _) (.cons (one _) (.cons (one _) (.cons (one _) (.cons (one _) (.cons (one _) (.cons (one _) (.cons (one _) (.cons (one _) (.cons (one _) (.cons (one _) (.cons hsl .nil))))))))))))))))))
    · exact (.cons (one _) (.cons (one _) (.cons (one _) (.cons (one _) (.cons (one _) (.cons (one _) .nil))))))
  have hok : (F_loanOpens ((f1, f2, f3, f4, f5, f6, f7, f8, f9, f10, f11, f12, f13, f14, f15, f16, f17, (), ()), id, (t1, t2, t3, t4, t5, t6, ()), ()) (s, ())).ok = true := by rw [hF]
  refine (F_loanOpens_ok ((f1, f2, f3, f4, f5, f6, f7, f8, f9, f10, f11, f12, f13, f14, f15, f16, f17, (), ()), id, (t1, t2, t3, t4, t5, t6, ()), ()) (s, ()) hok _ W _ hargs (sim0 hr h1 h2)).mono fun e w1 he => ?_
  rw [hF] at he
  cases e with
  | returned v =>
    obtain ⟨_, E, fr, hp⟩ := he
    refine ⟨?_, ?_⟩
    · obtain ⟨u, r, e1, hv, hn⟩ := hp.inv_cons
      cases e1
      rw [hv.scalar_eq rfl]
    · refine ⟨fr.fp.os, fr.fp.tape, fr.fp.out, fr.fp.size, fun b hb => fr.fp.frame b hb (fun p hp hl => ?_)⟩
      obtain ⟨x, hx, hne⟩ := hp
      cases p with
      | zero => simp at hx; exact absurd hx.symm hne
      | succ p => simp at hx
  | panicked ch => have := he.1; cases this
  | _ => exact he.elim
theorem tabs {W : World} (h : laidMet Tryz.prog Rows.loanOpensRow.laid W) : Lib.TabIs Tryz.prog W "arrears/ledger.sides" .i64 sides ∧ Lib.TabIs Tryz.prog W "arrears/calendar.ahead" .i64 ahead :=
  ⟨Lib.tabIs_of_head (rest := []) (zs := sides) (g := 0) (by kernel_rfl) (by kernel_rfl) Tryz.underlying123 Tryz.underlying3 (by kernel_rfl) (by kernel_rfl) (h.filter fun x => x.1 == "arrears/ledger.sides"),
   Lib.tabIs_of_head (rest := []) (zs := ahead) (g := 1) (by kernel_rfl) (by kernel_rfl) Tryz.underlying138 Tryz.underlying3 (by kernel_rfl) (by kernel_rfl) (h.filter fun x => x.1 == "arrears/calendar.ahead")⟩
theorem loan_walk_at (f1 f2 f3 f4 f5 f6 f7 f8 f9 f10 f11 f12 f13 f14 f15 f16 f17 : Int) (A : Option Addr) (c : Nat) (s : List Int) {W : World} (hr : RowIn W A c s) (hs : (s.length + 1) * 8 ≤ 140737488355328) (id : Int) (t1 t2 t3 t4 t5 t6 : Int) (_w : World)
    (hT : Lib.TabIs Tryz.prog W "arrears/ledger.sides" .i64 sides ∧ Lib.TabIs Tryz.prog W "arrears/calendar.ahead" .i64 ahead) :
    Calls Tryz.prog 3 #[.agg #[.int .i64 f1, .int .i64 f2, .int .i64 f3, .int .i64 f4, .int .i64 f5, .int .i64 f6, .int .i64 f7, .int .i64 f8, .int .i64 f9, .int .i64 f10, .int .i64 f11, .int .i64 f12, .int .i64 f13, .int .i64 f14, .int .i64 f15, .int .i64 f16, .int .i64 f17, .slice A s.length c], .int .i64 id, .agg #[.int .i64 t1, .int .i64 t2, .int .i64 t3, .int .i64 t4, .int .i64 t5, .int .i64 t6]] W fun e w1 => e = .returned (.bool true) ∧ Below W.heap.size W w1 :=
  loan_walk f1 f2 f3 f4 f5 f6 f7 f8 f9 f10 f11 f12 f13 f14 f15 f16 f17 A c s hr hs id t1 t2 t3 t4 t5 t6 hT.1 hT.2
end Go.Proofs.YtklpneeakhbahaaGreatDoor.Fs
end
