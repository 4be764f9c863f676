/- What the printed functions of the check digit tell, as sums of digits: plain laws over the printed Lean functions. Conditions: lengths within the reach, digits where digits are asked. -/
import Derived.Test.YtkjdmbbaacjpmaaDoorNum
import Derived.Test.YtkjdmbbaacjpmaaDoorPLockboxDigitsx1
import Derived.Test.YtkjdmbbaacjpmaaDoorPLockboxDigitsx17
import Derived.Test.YtkjdmbbaacjpmaaDoorPLockboxDigitsx18
import Derived.Test.YtkjdmbbaacjpmaaDoorPLockboxDigitsx19
import Derived.Test.YtkjdmbbaacjpmaaDoorPLockboxDigitsx20
import Derived.Test.YtkjdmbbaacjpmaaDoorPLockboxDigitsx21
import Derived.Test.YtkjdmbbaacjpmaaDoorPLockboxDigitsx22
namespace Go.Proofs.YtkjdmbbaacjpmaaDoor.Digits
open Go.RowKit Go.Proofs.YtkjdmbbaacjpmaaDoor.PLockboxDigits Go.Proofs.YtkjdmbbaacjpmaaDoor.Num Go.Proofs.YtkjdmbbaacjpmaaDoorW.PrintWords

theorem wrN (j : Nat) (h : j ≤ 1000000000000000) : wrap64 ((j : Int) + 1) = ((j + 1 : Nat) : Int) := by unfold wrap64; omega
theorem wrI {i : Int} (h0 : -1000000000000000000 ≤ i) (h : i ≤ 1000000000000000000) : wrap64 i = i := by unfold wrap64; omega
theorem rd_nat (l : List Int) (j : Nat) : rd l (j : Int) = l.getD j 0 := by unfold rd; simp
theorem getD_at (l : List Int) (j : Nat) (h : j < l.length) : l.getD j 0 = l[j] := by
  rw [List.getD_eq_getElem?_getD, List.getElem?_eq_getElem h]; rfl
theorem bytes_length (s : ByteArray) : (bytesOf s).length = s.size := by simp [bytesOf]
theorem bt_bytes (s : ByteArray) (j : Nat) (h : j < (bytesOf s).length) : bt s (j : Int) = (bytesOf s)[j] := by
  rw [← rd_bytesOf, rd_nat, getD_at _ _ h]
theorem behind_at (l : List Int) (i : Nat) (h : i < (behind l).length) : (behind l)[i] = l[l.length - 1 - i]'(by rw [behind_length] at h; omega) - 48 := by
  simp [behind]

theorem luhn_loop (s : ByteArray) (hs : s.size ≤ 140737488351232) (hd : Dig (behind (bytesOf s))) (d : Nat) :
    ∀ (i : Nat) (b : Bool) (acc : Int), i + d = s.size → 0 ≤ acc → acc ≤ 9 * i →
      Ev (fun k => lockbox_luhn.l0 k s b acc s.size i) (acc + lsum ((behind (bytesOf s)).drop i) b) := by
  have hn := bytes_length s
  have hb := behind_length (bytesOf s)
  induction d with
  | zero =>
    intro i b acc h h0 h1
    rw [List.drop_of_length_le (by omega)]
    simp only [lsum, Int.add_zero]
    refine Ev.step (fun k => ?_) (Ev.now acc)
    simp only [lockbox_luhn.l0]
    rw [if_neg (by omega)]
  | succ d ih =>
    intro i b acc h h0 h1
    have hi : i < (behind (bytesOf s)).length := by omega
    have hdg := hd _ (List.getElem_mem hi)
    have hx := behind_at (bytesOf s) i hi
    have hx2 := bt_bytes s ((bytesOf s).length - 1 - i) (by omega)
    rw [hx, ← hx2] at hdg
    have e1 : wrap64 (wrap64 ((s.size : Int) - 1) - (i : Int)) = (((bytesOf s).length - 1 - i : Nat) : Int) := by
      rw [wrI (i := (s.size : Int) - 1) (by omega) (by omega), wrI (by omega) (by omega)]; omega
    rw [List.drop_eq_getElem_cons hi, hx, ← hx2]
    simp only [lsum]
    rw [← Int.add_assoc]
    generalize hv : bt s (((bytesOf s).length - 1 - i : Nat) : Int) = v at hdg
    have e2 : (v - 48) % 256 = v - 48 := by omega
    have hr := dbl_range hdg.1 hdg.2
    refine Ev.step (fun k => ?_) (ih (i + 1) (!b) (acc + if b = true then dbl (v - 48) else v - 48) (by omega) (by split <;> omega) (by split <;> omega))
    have g1 : (i : Int) < (s.size : Int) := by omega
    have g2 : 0 ≤ (((bytesOf s).length - 1 - i : Nat) : Int) := by omega
    have g3 : (((bytesOf s).length - 1 - i : Nat) : Int) < (s.size : Int) := by omega
    simp only [lockbox_luhn.l0]
    rw [if_pos g1, e1, if_pos g2, if_pos g3, hv, e2, wrN i (by omega)]
    cases b with
    | true =>
      rw [if_pos rfl, if_pos rfl, dbl_eq hdg.1 hdg.2, wrI (by omega) (by omega)]
    | false =>
      rw [if_neg (by simp), if_neg (by simp), wrI (by omega) (by omega)]

theorem luhn_ev (s : ByteArray) (hs : s.size ≤ 140737488351232) (hd : Dig (behind (bytesOf s))) (b : Bool) :
    Ev (fun k => lockbox_luhn.f k s b) (lsum (behind (bytesOf s)) b) := by
  have := luhn_loop s hs hd s.size 0 b 0 (by omega) (by omega) (by omega)
  rw [List.drop_zero, Int.zero_add] at this
  exact Ev.congr (fun k => rfl) this

theorem weighed_loop (l : List Int) (hl : l.length ≤ 140737488351232) (hd : Dig (behind l)) (b : Bool) (d : Nat) :
    ∀ (i : Nat) (acc : Int), i + d = l.length → 0 ≤ acc → acc ≤ 9 * i →
      Ev (fun k => arrearsref20_weighed.l0 k l b acc i) (acc + lsum (behind (l.drop i)) b) := by
  induction d with
  | zero =>
    intro i acc h h0 h1
    rw [List.drop_of_length_le (by omega)]
    simp only [behind, List.map_nil, List.reverse_nil, lsum, Int.add_zero]
    refine Ev.step (fun k => ?_) (Ev.now acc)
    simp only [arrearsref20_weighed.l0]
    rw [if_neg (by omega)]
  | succ d ih =>
    intro i acc h h0 h1
    have hi : i < l.length := by omega
    have hdg : 0 ≤ l[i] - 48 ∧ l[i] - 48 ≤ 9 := hd _ (by simp only [behind, List.mem_reverse, List.mem_map]; exact ⟨l[i], List.getElem_mem hi, rfl⟩)
    have e0 : rd l (i : Int) = l[i] := by rw [rd_nat, getD_at _ _ hi]
    have e3 : (behind (l.drop i)) = behind (l.drop (i + 1)) ++ [l[i] - 48] := by
      rw [List.drop_eq_getElem_cons hi]; simp only [behind, List.map_cons, List.reverse_cons]
    have el : (behind (l.drop (i + 1))).length = l.length - 1 - i := by rw [behind_length, List.length_drop]; omega
    rw [e3, lsum_append, el]
    generalize hv : l[i] = v at hdg e0
    have e2 : (v - 48) % 256 = v - 48 := by omega
    have hr := dbl_range hdg.1 hdg.2
    have ep : (Int.tmod (wrap64 (wrap64 ((l.length : Int) - 1) - (i : Int))) 2 == 0) = ((l.length - 1 - i) % 2 == 0) := by
      rw [wrI (i := (l.length : Int) - 1) (by omega) (by omega), wrI (by omega) (by omega), show ((l.length : Int) - 1 - (i : Int)) = ((l.length - 1 - i : Nat) : Int) by omega]
      rw [Int.tmod_eq_emod_of_nonneg (by omega), Bool.eq_iff_iff]
      simp only [beq_iff_eq]
      omega
    refine Ev.congr (f := fun k => arrearsref20_weighed.l0 k l b acc i) (fun k => rfl) ?_
    have hc : (((l.length - 1 - i) % 2 == 0) == b) = (b == ((l.length - 1 - i) % 2 == 0)) := by
      cases b <;> cases ((l.length - 1 - i) % 2 == 0) <;> rfl
    have ih' := ih (i + 1) (acc + (if (b == ((l.length - 1 - i) % 2 == 0)) = true then dbl (v - 48) else v - 48)) (by omega) (by split <;> omega) (by split <;> omega)
    rw [show acc + (lsum (behind (l.drop (i + 1))) b + (if (b == ((l.length - 1 - i) % 2 == 0)) = true then dbl (v - 48) else v - 48)) = acc + (if (b == ((l.length - 1 - i) % 2 == 0)) = true then dbl (v - 48) else v - 48) + lsum (behind (l.drop (i + 1))) b by omega]
    refine Ev.step (fun k => ?_) ih'
    have g1 : (i : Int) < (l.length : Int) := by omega
    simp only [arrearsref20_weighed.l0]
    rw [if_pos g1, if_pos (by omega), ep, e0, e2, wrN i (by omega), hc]
    by_cases c : (b == ((l.length - 1 - i) % 2 == 0)) = true
    · rw [if_pos c, if_pos c]
      by_cases c2 : 2 * (v - 48) > 9
      · rw [if_pos c2, wrI (by omega) (by omega), show dbl (v - 48) = 2 * (v - 48) - 9 by unfold dbl; rw [if_pos c2]]
      · rw [if_neg c2, wrI (by omega) (by omega), show dbl (v - 48) = 2 * (v - 48) by unfold dbl; rw [if_neg c2]]
    · rw [if_neg c, if_neg c, wrI (by omega) (by omega)]

theorem weighed_ev (l : List Int) (hl : l.length ≤ 140737488351232) (hd : Dig (behind l)) (b : Bool) :
    Ev (fun k => arrearsref20_weighed.f k l b) (lsum (behind l) b) := by
  have := weighed_loop l hl hd b l.length 0 0 (by omega) (by omega) (by omega)
  rw [List.drop_zero, Int.zero_add] at this
  exact Ev.congr (fun k => rfl) this

theorem decimal_set (m : Nat) : ∀ (x : Int) (l : List Int), 0 ≤ x → x ≤ 1000000000000000000 → m ≤ l.length → l.length ≤ 1000000 →
    Ev (fun k => arrearsref20_decimal.l1 k x l ((m : Int) - 1)) (dec m x ++ l.drop m) := by
  induction m with
  | zero =>
    intro x l h0 h1 hm hl
    refine Ev.step (fun k => ?_) (Ev.now l)
    simp only [arrearsref20_decimal.l1]
    rw [if_neg (by omega)]
  | succ m ih =>
    intro x l h0 h1 hm hl
    have h := ih (x / 10) (l.set m (48 + x % 10)) (by omega) (by omega) (by simp; omega) (by simpa using hl)
    have e3 : dec (m + 1) x ++ l.drop (m + 1) = dec m (x / 10) ++ (l.set m (48 + x % 10)).drop m := by
      rw [dec, List.append_assoc, List.drop_eq_getElem_cons (i := m) (l := l.set m (48 + x % 10)) (by simp; omega), List.getElem_set_self, List.drop_set_of_lt (by omega)]
      rfl
    rw [e3]
    refine Ev.step (fun k => ?_) h
    have e1 : Int.tmod x 10 = x % 10 := Int.tmod_eq_emod_of_nonneg h0
    have e2 : Int.tdiv x 10 = x / 10 := Int.tdiv_eq_ediv_of_nonneg h0
    simp only [arrearsref20_decimal.l1]
    rw [if_pos (by omega), if_pos (by omega), if_pos (by omega), e1, e2, show (((m + 1 : Nat) : Int) - 1).toNat = m by omega, wrI (i := x / 10) (by omega) (by omega), wrI (i := 48 + x % 10) (by omega) (by omega), wrI (i := ((m + 1 : Nat) : Int) - 1 - 1) (by omega) (by omega), show (48 + x % 10) % 256 = 48 + x % 10 by omega, show ((m + 1 : Nat) : Int) - 1 - 1 = (m : Int) - 1 by omega]

theorem decimal_ev (x : Int) (n : Nat) (h0 : 0 ≤ x) (h1 : x ≤ 1000000000000000000) (hn : n ≤ 1000) :
    Ev (fun k => arrearsref20_decimal.f k x n) (dec n x) := by
  have go : ∀ d i : Nat, i + d = n → Ev (fun k => arrearsref20_decimal.l0 k x n (List.replicate i 48) i) (dec n x) := by
    intro d
    induction d with
    | zero =>
      intro i h
      obtain rfl : i = n := by omega
      have := decimal_set i x (List.replicate i 48) h0 h1 (by simp) (by simp; omega)
      rw [List.drop_of_length_le (by simp), List.append_nil] at this
      refine Ev.step (fun k => ?_) this
      simp only [arrearsref20_decimal.l0]
      rw [if_neg (by omega), wrI (by omega) (by omega)]
    | succ d ih =>
      intro i h
      refine Ev.step (fun k => ?_) (ih (i + 1) (by omega))
      simp only [arrearsref20_decimal.l0]
      rw [if_pos (by omega), if_pos (by rw [List.length_replicate]; omega), wrN i (by omega), ← List.replicate_succ']
  exact Ev.congr (fun k => rfl) (go n 0 (by omega))

/-- the check digit -/
def chk (n : Int) : Int := (10 - lsum (rdig 6 n.toNat) true % 10) % 10
def okN (n : Int) : Bool := decide (0 ≤ n ∧ n ≤ 999999)

theorem ref_loop (n : Nat) (hn : n ≤ 999999) (d : Nat) : ∀ j : Nat, (j : Int) + d = chk n → Ev (fun k => arrearsref20_CheckDigit.l0 k n j) (chk n, true) := by
  have hb := dec_behind 6 n
  have hdg : Dig (behind (dec 6 (n : Int))) := by rw [hb]; exact rdig_dig 6 n
  have hr := lsum_range (rdig 6 n) true (rdig_dig 6 n)
  rw [rdig_length] at hr
  have hdec := decimal_ev (n : Int) 6 (by omega) (by omega) (by omega)
  have hw := weighed_ev (dec 6 (n : Int)) (by rw [dec_length]; omega) hdg true
  rw [hb] at hw
  have hc : chk (n : Int) = (10 - lsum (rdig 6 n) true % 10) % 10 := rfl
  generalize lsum (rdig 6 n) true = W at hr hw hc
  have hch : 0 ≤ chk (n : Int) ∧ chk (n : Int) ≤ 9 := by rw [hc]; omega
  induction d with
  | zero =>
    intro j hj
    refine Ev.step (fun k => ?_) (Ev.bind hdec (f := fun k t125 => ((arrearsref20_weighed.f k t125 true).bind fun t128 => (if (Int.tmod (wrap64 (t128 + (j : Int))) 10) = 0 then (some ((j : Int), true)) else (arrearsref20_CheckDigit.l0 k n (wrap64 ((j : Int) + 1)))))) ?_)
    · simp only [arrearsref20_CheckDigit.l0]
      rw [if_pos (by omega)]; rfl
    · refine Ev.bind hw (f := fun k t128 => (if (Int.tmod (wrap64 (t128 + (j : Int))) 10) = 0 then (some ((j : Int), true)) else (arrearsref20_CheckDigit.l0 k n (wrap64 ((j : Int) + 1))))) ?_
      refine Ev.congr (fun k => ?_) (Ev.now _)
      rw [wrI (by omega) (by omega), Int.tmod_eq_emod_of_nonneg (by omega), if_pos (by omega), show (j : Int) = chk n by omega]
  | succ d ih =>
    intro j hj
    have h := ih (j + 1) (by omega)
    refine Ev.step (fun k => ?_) (Ev.bind hdec (f := fun k t125 => ((arrearsref20_weighed.f k t125 true).bind fun t128 => (if (Int.tmod (wrap64 (t128 + (j : Int))) 10) = 0 then (some ((j : Int), true)) else (arrearsref20_CheckDigit.l0 k n (wrap64 ((j : Int) + 1)))))) ?_)
    · simp only [arrearsref20_CheckDigit.l0]
      rw [if_pos (by omega)]; rfl
    · refine Ev.bind hw (f := fun k t128 => (if (Int.tmod (wrap64 (t128 + (j : Int))) 10) = 0 then (some ((j : Int), true)) else (arrearsref20_CheckDigit.l0 k n (wrap64 ((j : Int) + 1))))) ?_
      refine Ev.congr (fun k => ?_) h
      rw [wrI (by omega) (by omega), Int.tmod_eq_emod_of_nonneg (by omega), if_neg (by omega), wrN j (by omega)]

/-- the document's CheckDigit -/
theorem ref_ev (n : Int) : Ev (fun k => arrearsref20_CheckDigit.f k n) (if okN n then (chk n, true) else (0, false)) := by
  by_cases h0 : n < 0
  · have e : okN n = false := by unfold okN; simp; omega
    rw [e]
    refine Ev.congr (f := fun k => arrearsref20_CheckDigit.j0 k n true) (fun k => ?_) (Ev.step (fun k => ?_) (Ev.now _))
    · unfold arrearsref20_CheckDigit.f; rw [if_pos h0]
    · simp only [arrearsref20_CheckDigit.j0]; rfl
  · by_cases h1 : n > 999999
    · have e : okN n = false := by unfold okN; simp; omega
      rw [e]
      refine Ev.congr (f := fun k => arrearsref20_CheckDigit.j0 k n true) (fun k => ?_) (Ev.step (fun k => ?_) (Ev.now _))
      · unfold arrearsref20_CheckDigit.f; rw [if_neg h0, decide_eq_true h1]
      · simp only [arrearsref20_CheckDigit.j0]; rfl
    · have e : okN n = true := by unfold okN; simp; omega
      rw [e, if_pos rfl]
      obtain ⟨m, rfl⟩ : ∃ m : Nat, n = m := ⟨n.toNat, by omega⟩
      have hch : 0 ≤ chk (m : Int) ∧ chk (m : Int) ≤ 9 := by unfold chk; omega
      have h := ref_loop m (by omega) (chk (m : Int)).toNat 0 (by omega)
      refine Ev.congr (f := fun k => arrearsref20_CheckDigit.j0 k m false) (fun k => ?_) (Ev.step (fun k => ?_) h)
      · unfold arrearsref20_CheckDigit.f; rw [if_neg h0, decide_eq_false h1]
      · simp only [arrearsref20_CheckDigit.j0]; rfl

/-- what the program's luhn makes of a number's own digits -/
theorem luhn_number (n : Nat) (hn : n ≤ 999999) : Ev (fun k => lockbox_luhn.f k ⟨(Lib.decDigits n).toArray⟩ true) (lsum (rdig 6 n) true) := by
  have e : bytesOf ⟨(Lib.decDigits n).toArray⟩ = short n := by simp [bytesOf, short]
  have h1 := short_length n 5 (by omega)
  have hl : (⟨(Lib.decDigits n).toArray⟩ : ByteArray).size ≤ 140737488351232 := by rw [← bytes_length, e]; omega
  have h := luhn_ev ⟨(Lib.decDigits n).toArray⟩ hl (by rw [e]; exact short_dig n) true
  rw [e, short_lsum 5 n true (by omega)] at h
  exact h

/-- are all bytes digits? -/
def digitsB (s : ByteArray) : Bool := (bytesOf s).all fun c => decide (48 ≤ c ∧ c ≤ 57)
/-- Valid, as a sum -/
def validB (s : ByteArray) : Bool := decide (1 < s.size) && digitsB s && (lsum (behind (bytesOf s)) false % 10 == 0)

theorem digitsB_dig {s : ByteArray} (h : digitsB s = true) : Dig (behind (bytesOf s)) := by
  intro d hd
  simp only [behind, List.mem_reverse, List.mem_map] at hd
  obtain ⟨c, hc, rfl⟩ := hd
  have := List.all_eq_true.1 h c hc
  simp only [decide_eq_true_eq] at this
  omega

theorem all_loop (s : ByteArray) (hs : s.size ≤ 140737488351232) (d : Nat) : ∀ i : Nat, i + d = s.size →
    Ev (fun k => lockbox_allDigits.l0 k s s.size i) (((bytesOf s).drop i).all fun c => decide (48 ≤ c ∧ c ≤ 57)) := by
  have hn := bytes_length s
  induction d with
  | zero =>
    intro i h
    rw [List.drop_of_length_le (by omega), List.all_nil]
    refine Ev.step (fun k => ?_) (Ev.now true)
    simp only [lockbox_allDigits.l0]
    rw [if_neg (by omega)]
  | succ d ih =>
    intro i h
    have hi : i < (bytesOf s).length := by omega
    have e := bt_bytes s i hi
    rw [List.drop_eq_getElem_cons hi, List.all_cons, ← e]
    generalize hv : bt s (i : Int) = v
    by_cases c1 : v < 48
    · rw [show decide (48 ≤ v ∧ v ≤ 57) = false by simp; omega, Bool.false_and]
      refine Ev.step (fun k => ?_) (Ev.now false)
      simp only [lockbox_allDigits.l0]
      rw [if_pos (by omega), if_pos (by omega), if_pos (by omega), hv, if_pos c1]
    · by_cases c2 : v > 57
      · rw [show decide (48 ≤ v ∧ v ≤ 57) = false by simp; omega, Bool.false_and]
        refine Ev.step (fun k => ?_) (Ev.now false)
        simp only [lockbox_allDigits.l0]
        rw [if_pos (by omega), if_pos (by omega), if_pos (by omega), hv, if_neg c1, if_pos c2]
      · rw [show decide (48 ≤ v ∧ v ≤ 57) = true by simp; omega, Bool.true_and]
        refine Ev.step (fun k => ?_) (ih (i + 1) (by omega))
        simp only [lockbox_allDigits.l0]
        rw [if_pos (by omega), if_pos (by omega), if_pos (by omega), hv, if_neg c1, if_neg c2, wrN i (by omega)]

/-- the program's Valid -/
theorem valid_ev (s : ByteArray) (hs : s.size ≤ 140737488351232) : Ev (fun k => lockbox_Valid.f k s) (validB s) := by
  unfold validB
  by_cases h1 : 1 < s.size
  · rw [decide_eq_true h1, Bool.true_and]
    have ha : Ev (fun k => lockbox_allDigits.f k s) (digitsB s) := Ev.congr (fun k => rfl) (all_loop s hs s.size 0 (by omega))
    refine Ev.congr (f := fun k => (lockbox_allDigits.f k s).bind fun t129 => (if t129 = true then ((lockbox_luhn.f k s false).bind fun t130 => (some ((Int.tmod t130 10) == 0))) else (some false))) (fun k => ?_) (Ev.bind ha (f := fun k t129 => (if t129 = true then ((lockbox_luhn.f k s false).bind fun t130 => (some ((Int.tmod t130 10) == 0))) else (some false))) ?_)
    · show lockbox_Valid.f k s = _
      unfold lockbox_Valid.f
      rw [if_pos (by omega)]
    · cases hb : digitsB s with
      | false => simpa using Ev.now false
      | true =>
        have hd := digitsB_dig hb
        have hr := lsum_range _ false hd
        simp only [if_true, Bool.true_and]
        refine Ev.bind (luhn_ev s hs hd false) (f := fun k t130 => (some ((Int.tmod t130 10) == 0))) ?_
        rw [Int.tmod_eq_emod_of_nonneg hr.1]
        exact Ev.now _
  · rw [decide_eq_false h1, Bool.false_and]
    refine Ev.congr (fun k => ?_) (Ev.now false)
    show lockbox_Valid.f k s = _
    unfold lockbox_Valid.f
    rw [if_neg (by omega)]

theorem refValid_loop (s : ByteArray) (hs : s.size ≤ 140737488351232) (d : Nat) : ∀ i : Nat, i + d = s.size → ((bytesOf s).take i).all (fun c => decide (48 ≤ c ∧ c ≤ 57)) = true →
    Ev (fun k => arrearsref20_Valid.l0 k s ((bytesOf s).take i) i) (validB s) := by
  have hn := bytes_length s
  induction d with
  | zero =>
    intro i h ha
    rw [List.take_of_length_le (by omega)] at ha ⊢
    have hb : digitsB s = true := ha
    have hd := digitsB_dig hb
    have hr := lsum_range _ false hd
    unfold validB
    rw [hb, Bool.and_true]
    by_cases h1 : 1 < s.size
    · rw [decide_eq_true h1, Bool.true_and]
      refine Ev.step (fun k => ?_) (Ev.bind (weighed_ev (bytesOf s) (by omega) hd false) (f := fun k t134 => (some ((Int.tmod t134 10) == 0))) ?_)
      · simp only [arrearsref20_Valid.l0]
        rw [if_neg (by omega), if_pos (by omega)]
      · rw [Int.tmod_eq_emod_of_nonneg hr.1]
        exact Ev.now _
    · rw [decide_eq_false h1, Bool.false_and]
      refine Ev.step (fun k => ?_) (Ev.now false)
      simp only [arrearsref20_Valid.l0]
      rw [if_neg (by omega), if_neg (by omega)]
  | succ d ih =>
    intro i h ha
    have hi : i < (bytesOf s).length := by omega
    have e := bt_bytes s i hi
    have hf : ¬ (48 ≤ (bytesOf s)[i] ∧ (bytesOf s)[i] ≤ 57) → validB s = false := by
      intro hc
      have : digitsB s = false := by
        rw [← Bool.not_eq_true]
        intro hb
        have := List.all_eq_true.1 hb _ (List.getElem_mem hi)
        simp only [decide_eq_true_eq] at this
        exact hc this
      unfold validB
      rw [this]; simp
    have htk := List.take_succ_eq_append_getElem hi
    rw [← e] at hf htk
    generalize hv : bt s (i : Int) = v at hf htk
    have hlt : ((bytesOf s).take i).length = i := by rw [List.length_take]; omega
    by_cases c1 : v < 48
    · rw [hf (by omega)]
      refine Ev.step (fun k => ?_) (Ev.now false)
      simp only [arrearsref20_Valid.l0]
      rw [if_pos (by omega), if_pos (by omega), hv, if_pos c1]
    · by_cases c2 : v > 57
      · rw [hf (by omega)]
        refine Ev.step (fun k => ?_) (Ev.now false)
        simp only [arrearsref20_Valid.l0]
        rw [if_pos (by omega), if_pos (by omega), hv, if_neg c1, if_pos c2]
      · refine Ev.step (fun k => ?_) (ih (i + 1) (by omega) ?_)
        · simp only [arrearsref20_Valid.l0]
          rw [if_pos (by omega), if_pos (by omega), hv, if_neg c1, if_neg c2, if_pos (by omega), wrN i (by omega), htk]
        · rw [htk, List.all_append, ha, Bool.true_and, List.all_cons, List.all_nil, Bool.and_true]
          simp; omega

/-- the document's Valid -/
theorem refValid_ev (s : ByteArray) (hs : s.size ≤ 140737488351232) : Ev (fun k => arrearsref20_Valid.f k s) (validB s) :=
  Ev.congr (fun k => rfl) (refValid_loop s hs s.size 0 (by omega) (by simp))

/-- "75" -/
theorem seventyFive : validB ⟨#[55, 53]⟩ = true := by decide +kernel

end Go.Proofs.YtkjdmbbaacjpmaaDoor.Digits
