/- The law LockboxLuhn over numbers and lists: a number's seven digits are valid, one changed or two unlike neighbours exchanged (but 0 and 9) are not. Conditions: none beyond the given statement's. -/
import Derived.Test.YtkjdmbbaacjpmaaDoorLx3
namespace Go.Proofs.YtkjdmbbaacjpmaaDoor.Luhn
open Go.RowKit Go.Proofs.YtkjdmbbaacjpmaaDoor.L Go.Proofs.YtkjdmbbaacjpmaaDoor.Num Go.Proofs.YtkjdmbbaacjpmaaDoor.Digits Go.Proofs.YtkjdmbbaacjpmaaDoorW.PrintWords

theorem dbl_inj {x y : Int} (hx : 0 ≤ x ∧ x ≤ 9) (hy : 0 ≤ y ∧ y ≤ 9) : (dbl x - dbl y) % 10 = 0 ↔ x = y := by
  unfold dbl; split <;> split <;> omega
theorem dbl_swap {x y : Int} (hx : 0 ≤ x ∧ x ≤ 9) (hy : 0 ≤ y ∧ y ≤ 9) : (dbl x + y - dbl y - x) % 10 = 0 ↔ (x = y ∨ (x = 0 ∧ y = 9) ∨ (x = 9 ∧ y = 0)) := by
  unfold dbl; split <;> split <;> omega

theorem bytesOf_str : ∀ (l : List Int), (∀ x ∈ l, 0 ≤ x ∧ x ≤ 255) → bytesOf (strOfNums l) = l := by
  intro l h
  unfold bytesOf
  rw [strOfNums_data, List.map_map]
  conv => rhs; rw [← List.map_id l]
  refine List.map_congr_left fun x hx => ?_
  have := h x hx
  simp [UInt8.toNat_ofNat']
  omega

/-- a digit -/
def D (x : Int) : Prop := 0 ≤ x ∧ x ≤ 9

theorem valid7 {a0 a1 a2 a3 a4 a5 a6 : Int} (h0 : D a0) (h1 : D a1) (h2 : D a2) (h3 : D a3) (h4 : D a4) (h5 : D a5) (h6 : D a6) :
    validB (strOfNums [48 + a0, 48 + a1, 48 + a2, 48 + a3, 48 + a4, 48 + a5, 48 + a6]) = ((a0 + dbl a1 + a2 + dbl a3 + a4 + dbl a5 + a6) % 10 == 0) := by
  unfold D at *
  have hb : bytesOf (strOfNums [48 + a0, 48 + a1, 48 + a2, 48 + a3, 48 + a4, 48 + a5, 48 + a6]) = [48 + a0, 48 + a1, 48 + a2, 48 + a3, 48 + a4, 48 + a5, 48 + a6] := by
    refine bytesOf_str _ fun x hx => ?_
    simp only [List.mem_cons, List.not_mem_nil, or_false] at hx
    rcases hx with rfl | rfl | rfl | rfl | rfl | rfl | rfl <;> omega
  have hd : digitsB (strOfNums [48 + a0, 48 + a1, 48 + a2, 48 + a3, 48 + a4, 48 + a5, 48 + a6]) = true := by
    unfold digitsB
    rw [hb, List.all_eq_true]
    intro x hx
    simp only [List.mem_cons, List.not_mem_nil, or_false] at hx
    rw [decide_eq_true_eq]
    rcases hx with rfl | rfl | rfl | rfl | rfl | rfl | rfl <;> omega
  have hl : behind [48 + a0, 48 + a1, 48 + a2, 48 + a3, 48 + a4, 48 + a5, 48 + a6] = [a6, a5, a4, a3, a2, a1, a0] := by
    simp only [behind, List.map_cons, List.map_nil, List.reverse_cons, List.reverse_nil, List.nil_append, List.cons_append]
    have e : ∀ x : Int, 48 + x - 48 = x := fun x => by omega
    simp only [e]
  unfold validB
  rw [hd, hb, hl, strOfNums_size]
  simp only [List.length_cons, List.length_nil, Bool.and_true, lsum, Bool.not_false, Bool.not_true, if_true, Bool.false_eq_true, if_false]
  rw [decide_eq_true (by omega), Bool.true_and]
  rw [show a6 + (dbl a5 + (a4 + (dbl a3 + (a2 + (dbl a1 + (a0 + 0)))))) = a0 + dbl a1 + a2 + dbl a3 + a4 + dbl a5 + a6 by omega]

/-- the seven bytes -/
def seven (a0 a1 a2 a3 a4 a5 a6 : Int) : List Int := [48 + a0, 48 + a1, 48 + a2, 48 + a3, 48 + a4, 48 + a5, 48 + a6]

theorem text_ev (l : List Int) : Ev (fun _ => arrearslaw20_text.f l) (strOfNums l) := Ev.congr (fun _ => rfl) (Ev.now _)

/-- one digit changed -/
theorem changed {a0 a1 a2 a3 a4 a5 a6 d : Int} (h0 : D a0) (h1 : D a1) (h2 : D a2) (h3 : D a3) (h4 : D a4) (h5 : D a5) (h6 : D a6) (hd : D d)
    (hs : (a0 + dbl a1 + a2 + dbl a3 + a4 + dbl a5 + a6) % 10 = 0) (p : Nat) (hp : p < 7) :
    validB (strOfNums ((seven a0 a1 a2 a3 a4 a5 a6).set p (48 + d))) = ((seven a0 a1 a2 a3 a4 a5 a6).getD p 0 == 48 + d) := by
  have hp' : p = 0 ∨ p = 1 ∨ p = 2 ∨ p = 3 ∨ p = 4 ∨ p = 5 ∨ p = 6 := by omega
  unfold seven
  rcases hp' with rfl | rfl | rfl | rfl | rfl | rfl | rfl
  · simp only [List.set_cons_zero, List.getD_cons_zero]
    rw [valid7 hd h1 h2 h3 h4 h5 h6, Bool.eq_iff_iff, beq_iff_eq, beq_iff_eq]
    unfold D at *; omega
  · simp only [List.set_cons_zero, List.set_cons_succ, List.getD_cons_succ, List.getD_cons_zero]
    rw [valid7 h0 hd h2 h3 h4 h5 h6, Bool.eq_iff_iff, beq_iff_eq, beq_iff_eq]
    have := dbl_inj h1 hd
    unfold D at *; omega
  · simp only [List.set_cons_zero, List.set_cons_succ, List.getD_cons_succ, List.getD_cons_zero]
    rw [valid7 h0 h1 hd h3 h4 h5 h6, Bool.eq_iff_iff, beq_iff_eq, beq_iff_eq]
    unfold D at *; omega
  · simp only [List.set_cons_zero, List.set_cons_succ, List.getD_cons_succ, List.getD_cons_zero]
    rw [valid7 h0 h1 h2 hd h4 h5 h6, Bool.eq_iff_iff, beq_iff_eq, beq_iff_eq]
    have := dbl_inj h3 hd
    unfold D at *; omega
  · simp only [List.set_cons_zero, List.set_cons_succ, List.getD_cons_succ, List.getD_cons_zero]
    rw [valid7 h0 h1 h2 h3 hd h5 h6, Bool.eq_iff_iff, beq_iff_eq, beq_iff_eq]
    unfold D at *; omega
  · simp only [List.set_cons_zero, List.set_cons_succ, List.getD_cons_succ, List.getD_cons_zero]
    rw [valid7 h0 h1 h2 h3 h4 hd h6, Bool.eq_iff_iff, beq_iff_eq, beq_iff_eq]
    have := dbl_inj h5 hd
    unfold D at *; omega
  · simp only [List.set_cons_zero, List.set_cons_succ, List.getD_cons_succ, List.getD_cons_zero]
    rw [valid7 h0 h1 h2 h3 h4 h5 hd, Bool.eq_iff_iff, beq_iff_eq, beq_iff_eq]
    unfold D at *; omega

/-- are two bytes 0 and 9? -/
def nines (x y : Int) : Bool := decide ((x = 48 ∧ y = 57) ∨ (x = 57 ∧ y = 48))

/-- two unlike neighbours exchanged -/
theorem exchanged {a0 a1 a2 a3 a4 a5 a6 : Int} (h0 : D a0) (h1 : D a1) (h2 : D a2) (h3 : D a3) (h4 : D a4) (h5 : D a5) (h6 : D a6)
    (hs : (a0 + dbl a1 + a2 + dbl a3 + a4 + dbl a5 + a6) % 10 = 0) (p : Nat) (hp : p + 1 < 7)
    (hne : (seven a0 a1 a2 a3 a4 a5 a6).getD p 0 ≠ (seven a0 a1 a2 a3 a4 a5 a6).getD (p + 1) 0) :
    validB (strOfNums (((seven a0 a1 a2 a3 a4 a5 a6).set p ((seven a0 a1 a2 a3 a4 a5 a6).getD (p + 1) 0)).set (p + 1) ((seven a0 a1 a2 a3 a4 a5 a6).getD p 0))) = nines ((seven a0 a1 a2 a3 a4 a5 a6).getD p 0) ((seven a0 a1 a2 a3 a4 a5 a6).getD (p + 1) 0) := by
  have hp' : p = 0 ∨ p = 1 ∨ p = 2 ∨ p = 3 ∨ p = 4 ∨ p = 5 := by omega
  unfold seven at hne ⊢
  unfold nines
  rcases hp' with rfl | rfl | rfl | rfl | rfl | rfl
  · simp only [List.set_cons_zero, List.set_cons_succ, List.getD_cons_succ, List.getD_cons_zero, Nat.zero_add] at hne ⊢
    rw [valid7 h1 h0 h2 h3 h4 h5 h6, Bool.eq_iff_iff, beq_iff_eq, decide_eq_true_eq]
    have := dbl_swap h1 h0
    unfold D at *; omega
  · simp only [List.set_cons_zero, List.set_cons_succ, List.getD_cons_succ, List.getD_cons_zero, Nat.reduceAdd] at hne ⊢
    rw [valid7 h0 h2 h1 h3 h4 h5 h6, Bool.eq_iff_iff, beq_iff_eq, decide_eq_true_eq]
    have := dbl_swap h1 h2
    unfold D at *; omega
  · simp only [List.set_cons_zero, List.set_cons_succ, List.getD_cons_succ, List.getD_cons_zero, Nat.reduceAdd] at hne ⊢
    rw [valid7 h0 h1 h3 h2 h4 h5 h6, Bool.eq_iff_iff, beq_iff_eq, decide_eq_true_eq]
    have := dbl_swap h3 h2
    unfold D at *; omega
  · simp only [List.set_cons_zero, List.set_cons_succ, List.getD_cons_succ, List.getD_cons_zero, Nat.reduceAdd] at hne ⊢
    rw [valid7 h0 h1 h2 h4 h3 h5 h6, Bool.eq_iff_iff, beq_iff_eq, decide_eq_true_eq]
    have := dbl_swap h3 h4
    unfold D at *; omega
  · simp only [List.set_cons_zero, List.set_cons_succ, List.getD_cons_succ, List.getD_cons_zero, Nat.reduceAdd] at hne ⊢
    rw [valid7 h0 h1 h2 h3 h5 h4 h6, Bool.eq_iff_iff, beq_iff_eq, decide_eq_true_eq]
    have := dbl_swap h5 h4
    unfold D at *; omega
  · simp only [List.set_cons_zero, List.set_cons_succ, List.getD_cons_succ, List.getD_cons_zero, Nat.reduceAdd] at hne ⊢
    rw [valid7 h0 h1 h2 h3 h4 h6 h5, Bool.eq_iff_iff, beq_iff_eq, decide_eq_true_eq]
    have := dbl_swap h5 h6
    unfold D at *; omega

theorem copy_ev (l : List Int) (hl : l.length ≤ 1000) : Ev (fun k => arrearslaw19_CopyBytes.f k l) l := by
  have go : ∀ d i : Nat, i + d = l.length → Ev (fun k => arrearslaw19_CopyBytes.l0 k l (l.take i) i) l := by
    intro d
    induction d with
    | zero =>
      intro i h
      rw [List.take_of_length_le (by omega)]
      refine Ev.step (fun k => ?_) (Ev.now l)
      simp only [arrearslaw19_CopyBytes.l0]
      rw [if_neg (by omega)]
    | succ d ih =>
      intro i h
      have hi : i < l.length := by omega
      refine Ev.step (fun k => ?_) (ih (i + 1) (by omega))
      simp only [arrearslaw19_CopyBytes.l0]
      rw [if_pos (by omega), if_pos (by omega), if_pos (by rw [List.length_take]; omega), wrN i (by omega), rd_nat, getD_at _ _ hi, ← List.take_succ_eq_append_getElem hi]
  exact Ev.congr (fun k => rfl) (go l.length 0 (by omega))

theorem validF (l : List Int) (hl : l.length ≤ 1000) : lockbox_Valid.f (strOfNums l) = some (validB (strOfNums l)) := by
  unfold lockbox_Valid.f
  rw [if_pos (by rw [strOfNums_size]; omega)]

section
variable {a0 a1 a2 a3 a4 a5 a6 : Int} (h0 : D a0) (h1 : D a1) (h2 : D a2) (h3 : D a3) (h4 : D a4) (h5 : D a5) (h6 : D a6)
  (hs : (a0 + dbl a1 + a2 + dbl a3 + a4 + dbl a5 + a6) % 10 = 0)
include h0 h1 h2 h3 h4 h5 h6 hs

theorem seven_at (p : Nat) (hp : p < 7) : 48 ≤ (seven a0 a1 a2 a3 a4 a5 a6).getD p 0 ∧ (seven a0 a1 a2 a3 a4 a5 a6).getD p 0 ≤ 57 := by
  have hp' : p = 0 ∨ p = 1 ∨ p = 2 ∨ p = 3 ∨ p = 4 ∨ p = 5 ∨ p = 6 := by omega
  unfold seven
  unfold D at *
  rcases hp' with rfl | rfl | rfl | rfl | rfl | rfl | rfl <;> simp only [List.getD_cons_succ, List.getD_cons_zero] <;> omega

theorem j5_ev (p : Nat) (hp : p < 7) (d : Int) (hd : D d) (x11 : List Int) (hl : x11.length ≤ 1000) (b : Bool) (hb : validB (strOfNums x11) = b) :
    Ev (fun k => arrearslaw20_LockboxLuhn.j5 k p d (seven a0 a1 a2 a3 a4 a5 a6) x11 b) true := by
  have hc := changed h0 h1 h2 h3 h4 h5 h6 hd hs p hp
  have h7 : (seven a0 a1 a2 a3 a4 a5 a6).length = 7 := rfl
  refine Ev.step (fun k => ?_) (Ev.now true)
  simp only [arrearslaw20_LockboxLuhn.j5, arrearslaw20_text.f, Option.bind_some]
  rw [validF x11 hl]
  simp only [Option.bind_some]
  rw [hb, if_neg (by simp), if_pos (by omega), if_pos (by omega), Int.toNat_natCast, rd_nat, wrI (i := 48 + d) (by unfold D at hd; omega) (by unfold D at hd; omega), show (48 + d) % 256 = 48 + d by unfold D at hd; omega]
  rw [validF _ (by rw [List.length_set]; omega)]
  simp only [Option.bind_some]
  rw [hc]; simp

theorem j4_ev (p : Nat) (hp : p < 7) (d : Int) (hd : D d) (b : Bool) (hb : b = true → p + 1 < 7 ∧ (seven a0 a1 a2 a3 a4 a5 a6).getD p 0 ≠ (seven a0 a1 a2 a3 a4 a5 a6).getD (p + 1) 0) :
    Ev (fun k => arrearslaw20_LockboxLuhn.j4 k p d (seven a0 a1 a2 a3 a4 a5 a6) b) true := by
  have hc := changed h0 h1 h2 h3 h4 h5 h6 hd hs p hp
  have h7 : (seven a0 a1 a2 a3 a4 a5 a6).length = 7 := rfl
  cases b with
  | false =>
    refine Ev.step (fun k => ?_) (Ev.now true)
    simp only [arrearslaw20_LockboxLuhn.j4, arrearslaw20_text.f, Option.bind_some]
    rw [if_neg (by simp), if_pos (by omega), if_pos (by omega), Int.toNat_natCast, rd_nat, wrI (i := 48 + d) (by unfold D at hd; omega) (by unfold D at hd; omega), show (48 + d) % 256 = 48 + d by unfold D at hd; omega]
    rw [validF _ (by rw [List.length_set]; omega)]
    simp only [Option.bind_some]
    rw [hc]; simp
  | true =>
    obtain ⟨hp1, hne⟩ := hb rfl
    have hx := exchanged h0 h1 h2 h3 h4 h5 h6 hs p hp1 hne
    have r1 := seven_at h0 h1 h2 h3 h4 h5 h6 hs p hp
    have r2 := seven_at h0 h1 h2 h3 h4 h5 h6 hs (p + 1) hp1
    have hj := j5_ev h0 h1 h2 h3 h4 h5 h6 hs p hp d hd _ (by rw [List.length_set, List.length_set]; omega) _ hx
    have hcp := copy_ev (seven a0 a1 a2 a3 a4 a5 a6) (by omega)
    generalize hL : seven a0 a1 a2 a3 a4 a5 a6 = L at *
    refine Ev.step (f := fun k => (arrearslaw19_CopyBytes.f k L).bind fun t117 => (if 0 ≤ (wrap64 ((p : Int) + 1)) then (if (wrap64 ((p : Int) + 1)) < (L.length : Int) then (if 0 ≤ (p : Int) then (if (p : Int) < (t117.length : Int) then (if (p : Int) < (L.length : Int) then (if (wrap64 ((p : Int) + 1)) < (t117.length : Int) then ((some ((t117.set (p : Int).toNat (rd L (wrap64 ((p : Int) + 1)))).set ((wrap64 ((p : Int) + 1)) : Int).toNat (rd L p) : List Int)).bind fun y123 => (if ((((rd L p) - 48) % 256) + (((rd L (wrap64 ((p : Int) + 1))) - 48) % 256)) = 9 then (if (rd L p) = 48 then (arrearslaw20_LockboxLuhn.j5 k p d L y123 true) else (arrearslaw20_LockboxLuhn.j5 k p d L y123 ((rd L p) == 57))) else (arrearslaw20_LockboxLuhn.j5 k p d L y123 false))) else (none)) else (none)) else (none)) else (none)) else (none)) else (none))) (fun k => ?_) (Ev.bind hcp ?_)
    · simp only [arrearslaw20_LockboxLuhn.j4]
      rw [if_pos trivial]
    · refine Ev.congr (fun k => ?_) hj
      rw [wrN p (by omega), if_pos (by omega), if_pos (by omega), if_pos (by omega), if_pos (by omega), if_pos (by omega), if_pos (by omega), Int.toNat_natCast, Int.toNat_natCast, rd_nat, rd_nat]
      simp only [Option.bind_some]
      generalize L.getD p 0 = x at *
      generalize L.getD (p + 1) 0 = y at *
      unfold nines
      by_cases c1 : ((x - 48) % 256) + ((y - 48) % 256) = 9
      · rw [if_pos c1]
        by_cases c2 : x = 48
        · rw [if_pos c2, decide_eq_true (by omega)]
        · rw [if_neg c2]
          by_cases c3 : x = 57
          · rw [decide_eq_true (by omega), show (x == 57) = true by simpa using c3]
          · rw [decide_eq_false (by omega), show (x == 57) = false by simpa using c3]
      · rw [if_neg c1, decide_eq_false (by omega)]

theorem j3_ev (at_ dig : Int) (b : Bool) (hb : b = decide (at_ < 0 ∨ 7 ≤ at_ ∨ dig < 0 ∨ 9 < dig)) :
    Ev (fun k => arrearslaw20_LockboxLuhn.j3 k at_ dig (seven a0 a1 a2 a3 a4 a5 a6) b) true := by
  have h7 : (seven a0 a1 a2 a3 a4 a5 a6).length = 7 := rfl
  cases b with
  | true =>
    refine Ev.step (fun k => ?_) (Ev.now true)
    simp only [arrearslaw20_LockboxLuhn.j3]
    rw [if_pos trivial]
  | false =>
    have hc := of_decide_eq_false hb.symm
    obtain ⟨p, rfl⟩ : ∃ p : Nat, at_ = p := ⟨at_.toNat, by omega⟩
    have hp : p < 7 := by omega
    have hd : D dig := ⟨by omega, by omega⟩
    by_cases c : p + 1 < 7
    · by_cases e : (seven a0 a1 a2 a3 a4 a5 a6).getD p 0 = (seven a0 a1 a2 a3 a4 a5 a6).getD (p + 1) 0
      · refine Ev.step (fun k => ?_) (j4_ev h0 h1 h2 h3 h4 h5 h6 hs p hp dig hd false (by simp))
        simp only [arrearslaw20_LockboxLuhn.j3]
        rw [if_neg (by simp), wrN p (by omega), if_pos (by omega), if_pos (by omega), if_pos (by omega), if_pos (by omega), rd_nat, rd_nat, e]
        simp
      · refine Ev.step (fun k => ?_) (j4_ev h0 h1 h2 h3 h4 h5 h6 hs p hp dig hd true (fun _ => ⟨c, e⟩))
        simp only [arrearslaw20_LockboxLuhn.j3]
        rw [if_neg (by simp), wrN p (by omega), if_pos (by omega), if_pos (by omega), if_pos (by omega), if_pos (by omega), rd_nat, rd_nat]
        rw [show ((seven a0 a1 a2 a3 a4 a5 a6).getD p 0 != (seven a0 a1 a2 a3 a4 a5 a6).getD (p + 1) 0) = true by simpa using e]
    · refine Ev.step (fun k => ?_) (j4_ev h0 h1 h2 h3 h4 h5 h6 hs p hp dig hd false (by simp))
      simp only [arrearslaw20_LockboxLuhn.j3]
      rw [if_neg (by simp), wrN p (by omega), if_neg (by omega)]
end

theorem l0_step (k : Nat) (n x1 x2 d : Int) (acc : List Int) (i j : Int) (hn : 0 ≤ n) (hn9 : n ≤ 999999) (hi : 0 < i) (hi2 : i ≤ 100000) (hacc : acc.length ≤ 100) (hj : i / 10 = j) :
    arrearslaw20_LockboxLuhn.l0 (k + 1) n x1 x2 d acc i = arrearslaw20_LockboxLuhn.l0 k n x1 x2 d (acc ++ [48 + n / i % 10]) j := by
  have e0 : 0 ≤ n / i := Int.ediv_nonneg hn (by omega)
  have e9 : n / i ≤ n := Int.ediv_le_self _ hn
  have e1 : Int.tdiv n i = n / i := Int.tdiv_eq_ediv_of_nonneg hn
  have e2 : Int.tdiv i 10 = i / 10 := Int.tdiv_eq_ediv_of_nonneg (by omega)
  have e3 : Int.tmod (n / i) 10 = n / i % 10 := Int.tmod_eq_emod_of_nonneg e0
  simp only [arrearslaw20_LockboxLuhn.l0]
  rw [if_pos (by omega), if_neg (by omega), if_pos (by omega), e1, e2, wrI (i := n / i) (by omega) (by omega), e3, wrI (i := i / 10) (by omega) (by omega), wrI (i := 48 + n / i % 10) (by omega) (by omega), show (48 + n / i % 10) % 256 = 48 + n / i % 10 by omega, hj]


theorem luhn_in (n at_ dig : Int) (hn : 0 ≤ n) (hn9 : n ≤ 999999) : Ev (fun k => arrearslaw20_LockboxLuhn.l0 k n at_ dig (chk n) [] 100000) true := by
  have hr := lsum_range (rdig 6 n.toNat) true (rdig_dig 6 n.toNat)
  have hc : chk n = (10 - lsum (rdig 6 n.toNat) true % 10) % 10 := rfl
  have hw : lsum (rdig 6 n.toNat) true = dbl (n / 1 % 10) + n / 10 % 10 + dbl (n / 100 % 10) + n / 1000 % 10 + dbl (n / 10000 % 10) + n / 100000 % 10 := by
    obtain ⟨m, rfl⟩ : ∃ m : Nat, n = m := ⟨n.toNat, by omega⟩
    simp only [rdig, lsum, Int.toNat_natCast, Bool.not_true, Bool.not_false, if_true, Bool.false_eq_true, if_false, Nat.div_div_eq_div_mul, Nat.reduceMul]
    have c1 : ((m : Int) / 1 % 10) = ((m % 10 : Nat) : Int) := by omega
    have c2 : ((m : Int) / 10 % 10) = ((m / 10 % 10 : Nat) : Int) := by omega
    have c3 : ((m : Int) / 100 % 10) = ((m / 100 % 10 : Nat) : Int) := by omega
    have c4 : ((m : Int) / 1000 % 10) = ((m / 1000 % 10 : Nat) : Int) := by omega
    have c5 : ((m : Int) / 10000 % 10) = ((m / 10000 % 10 : Nat) : Int) := by omega
    have c6 : ((m : Int) / 100000 % 10) = ((m / 100000 % 10 : Nat) : Int) := by omega
    rw [c1, c2, c3, c4, c5, c6]; omega
  rw [hw] at hc
  have d0 : D (n / 100000 % 10) := ⟨by omega, by omega⟩
  have d1 : D (n / 10000 % 10) := ⟨by omega, by omega⟩
  have d2 : D (n / 1000 % 10) := ⟨by omega, by omega⟩
  have d3 : D (n / 100 % 10) := ⟨by omega, by omega⟩
  have d4 : D (n / 10 % 10) := ⟨by omega, by omega⟩
  have d5 : D (n / 1 % 10) := ⟨by omega, by omega⟩
  have d6 : D (chk n) := ⟨by rw [hc]; omega, by rw [hc]; omega⟩
  have hs : (n / 100000 % 10 + dbl (n / 10000 % 10) + n / 1000 % 10 + dbl (n / 100 % 10) + n / 10 % 10 + dbl (n / 1 % 10) + chk n) % 10 = 0 := by
    generalize chk n = c at hc
    generalize dbl (n / 1 % 10) = z1 at *
    generalize dbl (n / 100 % 10) = z2 at *
    generalize dbl (n / 10000 % 10) = z3 at *
    omega
  have hj := j3_ev d0 d1 d2 d3 d4 d5 d6 hs at_ dig _ rfl
  have hv : validB (strOfNums (seven (n / 100000 % 10) (n / 10000 % 10) (n / 1000 % 10) (n / 100 % 10) (n / 10 % 10) (n / 1 % 10) (chk n))) = true := by
    unfold seven
    rw [valid7 d0 d1 d2 d3 d4 d5 d6, hs]; rfl
  have h7 : (seven (n / 100000 % 10) (n / 10000 % 10) (n / 1000 % 10) (n / 100 % 10) (n / 10 % 10) (n / 1 % 10) (chk n)).length = 7 := rfl
  refine Ev.step (fun k => l0_step k n at_ dig (chk n) [] 100000 10000 hn hn9 (by omega) (by omega) (by simp) (by omega)) ?_
  refine Ev.step (fun k => l0_step k n at_ dig (chk n) _ 10000 1000 hn hn9 (by omega) (by omega) (by simp) (by omega)) ?_
  refine Ev.step (fun k => l0_step k n at_ dig (chk n) _ 1000 100 hn hn9 (by omega) (by omega) (by simp) (by omega)) ?_
  refine Ev.step (fun k => l0_step k n at_ dig (chk n) _ 100 10 hn hn9 (by omega) (by omega) (by simp) (by omega)) ?_
  refine Ev.step (fun k => l0_step k n at_ dig (chk n) _ 10 1 hn hn9 (by omega) (by omega) (by simp) (by omega)) ?_
  refine Ev.step (fun k => l0_step k n at_ dig (chk n) _ 1 0 hn hn9 (by omega) (by omega) (by simp) (by omega)) ?_
  refine Ev.step (fun k => ?_) hj
  have e48 : (wrap64 (48 + chk n)) % 256 = 48 + chk n := by
    have := d6.1; have := d6.2
    rw [wrI (by omega) (by omega)]; omega
  simp only [arrearslaw20_LockboxLuhn.l0]
  rw [if_neg (by omega), if_pos (by simp), e48]
  rw [show ((([] ++ [48 + n / 100000 % 10]) ++ [48 + n / 10000 % 10] ++ [48 + n / 1000 % 10] ++ [48 + n / 100 % 10] ++ [48 + n / 10 % 10] ++ [48 + n / 1 % 10]) ++ [48 + chk n] : List Int) = seven (n / 100000 % 10) (n / 10000 % 10) (n / 1000 % 10) (n / 100 % 10) (n / 10 % 10) (n / 1 % 10) (chk n) from rfl]
  simp only [Option.bind_some, arrearslaw20_text.f]
  rw [validF _ (by omega), hv]
  simp only [Option.bind_some, if_true]
  by_cases c1 : at_ < 0
  · rw [if_pos c1, decide_eq_true (Or.inl c1)]
  · rw [if_neg c1]
    by_cases c2 : at_ ≥ 7
    · rw [if_pos (by omega), decide_eq_true (Or.inr (Or.inl c2))]
    · rw [if_neg (by omega)]
      by_cases c3 : dig < 0
      · rw [if_pos c3, decide_eq_true (Or.inr (Or.inr (Or.inl c3)))]
      · rw [if_neg c3]
        congr 1
        by_cases c4 : dig > 9
        · rw [decide_eq_true c4, decide_eq_true (by omega)]
        · rw [decide_eq_false c4, decide_eq_false (by omega)]

theorem luhn_ev_all (n at_ dig : Int) : Ev (fun k => arrearslaw20_LockboxLuhn.f k n at_ dig) true := by
  by_cases h0 : n < 0
  · have e : okN n = false := by unfold okN; simp; omega
    refine Ev.congr (f := fun k => arrearslaw20_LockboxLuhn.j0 k n at_ dig 0 false true) (fun k => ?_) (Ev.step (fun k => ?_) (Ev.now true))
    · unfold arrearslaw20_LockboxLuhn.f lockbox_CheckDigit.f digitOf
      simp only [Option.bind_some, e, if_pos h0]; rfl
    · simp [arrearslaw20_LockboxLuhn.j0]
  · by_cases h1 : n > 999999
    · have e : okN n = false := by unfold okN; simp; omega
      refine Ev.congr (f := fun k => arrearslaw20_LockboxLuhn.j0 k n at_ dig 0 false true) (fun k => ?_) (Ev.step (fun k => ?_) (Ev.now true))
      · unfold arrearslaw20_LockboxLuhn.f lockbox_CheckDigit.f digitOf
        simp only [Option.bind_some, e, if_neg h0, decide_eq_true h1]; rfl
      · simp [arrearslaw20_LockboxLuhn.j0]
    · have e : okN n = true := by unfold okN; simp; omega
      have d6 : 0 ≤ chk n ∧ chk n ≤ 9 := by unfold chk; omega
      refine Ev.congr (f := fun k => arrearslaw20_LockboxLuhn.j0 k n at_ dig (chk n) true false) (fun k => ?_) (Ev.step (f := fun k => arrearslaw20_LockboxLuhn.j1 k n at_ dig (chk n) false) (fun k => ?_) (Ev.step (fun k => ?_) (luhn_in n at_ dig (by omega) (by omega))))
      · unfold arrearslaw20_LockboxLuhn.f lockbox_CheckDigit.f digitOf
        simp only [Option.bind_some, e, if_neg h0, decide_eq_false h1]; rfl
      · simp only [arrearslaw20_LockboxLuhn.j0]
        rw [if_neg (by simp), if_pos trivial, if_neg (by omega), decide_eq_false (by omega)]
      · simp only [arrearslaw20_LockboxLuhn.j1]
        rw [if_neg (by simp)]

theorem luhn_walk (n at_ dig : Int) (w : World) (htab : Tab w) :
    Calls Tryd.prog 4 #[.int .i64 n, .int .i64 at_, .int .i64 dig] w fun e w' => e = .returned (.bool true) ∧ Below w.heap.size w w' := by
  obtain ⟨k, hk⟩ := (luhn_ev_all n at_ dig).rounds
  exact arrearslaw20_LockboxLuhn.calls k n at_ dig true w hk ⟨htab⟩

end Go.Proofs.YtkjdmbbaacjpmaaDoor.Luhn
