-- Texts of this claim, joined and cut down to what it uses (a program of this session).
import Derived.Test.YtkjdmbbaacjpmaaDoorV9
import Derived.Test.YtkjdmbbaacjpmaaDoorRows
import Derived.LaidSub
import Derived.LaidLaws
import Derived.Lib.LaidTab
import Derived.Lib.SmallJoins
import Derived.Deep.Slices
import Derived.Deep.Fields
import Derived.ChangeSame
import Derived.OpenShut
section
namespace Go.Proofs.YtkjdmbbaacjpmaaDoor.Tells
open Go.RowKit Go.Proofs.YtkjdmbbaacjpmaaDoor.T Go.Proofs.YtkjdmbbaacjpmaaDoor.Num Go.Proofs.YtkjdmbbaacjpmaaDoorW.PrintWords
open Go.Proofs.YtkjdmbbaacjpmaaDoor.DDigits (wrN wrI)
def goodB (x : S50) : Bool := decide (1 ≤ x.f0 ∧ x.f0 ≤ 999999 ∧ 1 ≤ x.f1 ∧ x.f1 ≤ 999999999999)
def hasB (d n : Int) (l : List S50) : Bool := decide (1 ≤ d ∧ d ≤ 3652059 ∧ 1 ≤ n ∧ n ≤ 999999 ∧ 1 ≤ l.length ∧ l.length ≤ 9999) && l.all goodB
theorem rd_nat (l : List S50) (j : Nat) (h : j < l.length) : rd_T50 l (j : Int) = l[j] := by
  unfold rd_T50
  rw [Int.toNat_natCast, List.getD_eq_getElem?_getD, List.getElem?_eq_getElem h]; rfl
theorem has_loop (l : List S50) (hl : l.length ≤ 100000) (d : Nat) : ∀ i : Nat, i + d = l.length →
    Ev (fun k => lockbox_has.l0 k l l.length i) ((l.drop i).all goodB) := by
  induction d with
  | zero =>
    intro i h
    rw [List.drop_of_length_le (by omega), List.all_nil]
    refine Ev.step (fun k => ?_) (Ev.now true)
    simp only [lockbox_has.l0]
    rw [if_neg (by omega)]
  | succ d ih =>
    intro i h
    have hi : i < l.length := by omega
    rw [List.drop_eq_getElem_cons hi, List.all_cons]
    have e := rd_nat l i hi
    generalize l[i] = x at e ⊢
    have hn : ∀ b : Bool, goodB x = b → (∀ k, lockbox_has.l0 (k + 1) l l.length i = if b = true then lockbox_has.l0 k l l.length ((i + 1 : Nat) : Int) else some false) := by
      intro b hb k
      simp only [lockbox_has.l0]
      rw [if_pos (by omega), if_pos (by omega), if_pos (by omega), e, wrN i (by omega)]
      unfold goodB at hb
      by_cases c1 : x.f0 < 1
      · rw [if_pos c1, ← hb, decide_eq_false (by omega)]; rfl
      · rw [if_neg c1]
        by_cases c2 : x.f0 > 999999
        · rw [if_pos c2, ← hb, decide_eq_false (by omega)]; rfl
        · rw [if_neg c2]
          by_cases c3 : x.f1 < 1
          · rw [if_pos c3, ← hb, decide_eq_false (by omega)]; rfl
          · rw [if_neg c3]
            by_cases c4 : x.f1 > 999999999999
            · rw [if_pos c4, ← hb, decide_eq_false (by omega)]; rfl
            · rw [if_neg c4, ← hb, decide_eq_true (by omega), if_pos rfl]
    cases hb : goodB x with
    | true =>
      rw [Bool.true_and]
      refine Ev.step (fun k => ?_) (ih (i + 1) (by omega))
      rw [hn true hb, if_pos rfl]
    | false =>
      rw [Bool.false_and]
      refine Ev.step (fun k => ?_) (Ev.now false)
      rw [hn false hb]; rfl
theorem hasRef_loop (dd nn : Int) (l : List S50) (hl : l.length ≤ 100000) (d : Nat) : ∀ i : Nat, i + d = l.length →
    Ev (fun k => arrearsref20_Has.l0 k i dd nn l) ((l.drop i).all goodB) := by
  induction d with
  | zero =>
    intro i h
    rw [List.drop_of_length_le (by omega), List.all_nil]
    refine Ev.step (fun k => ?_) (Ev.now true)
    simp only [arrearsref20_Has.l0]
    rw [if_neg (by omega)]
  | succ d ih =>
    intro i h
    have hi : i < l.length := by omega
    rw [List.drop_eq_getElem_cons hi, List.all_cons]
    have e := rd_nat l i hi
    generalize l[i] = x at e ⊢
    have hn : ∀ b : Bool, goodB x = b → (∀ k, arrearsref20_Has.l0 (k + 1) i dd nn l = if b = true then arrearsref20_Has.l0 k ((i + 1 : Nat) : Int) dd nn l else some false) := by
      intro b hb k
      simp only [arrearsref20_Has.l0]
      rw [if_pos (by omega), if_pos (by omega), e, wrN i (by omega)]
      unfold goodB at hb
      by_cases c1 : x.f0 < 1
      · rw [if_pos c1, ← hb, decide_eq_false (by omega)]; rfl
      · rw [if_neg c1]
        by_cases c2 : x.f0 > 999999
        · rw [if_pos c2, ← hb, decide_eq_false (by omega)]; rfl
        · rw [if_neg c2]
          by_cases c3 : x.f1 < 1
          · rw [if_pos c3, ← hb, decide_eq_false (by omega)]; rfl
          · rw [if_neg c3]
            by_cases c4 : x.f1 > 999999999999
            · rw [if_pos c4, ← hb, decide_eq_false (by omega)]; rfl
            · rw [if_neg c4, ← hb, decide_eq_true (by omega), if_pos rfl]
    cases hb : goodB x with
    | true =>
      rw [Bool.true_and]
      refine Ev.step (fun k => ?_) (ih (i + 1) (by omega))
      rw [hn true hb, if_pos rfl]
    | false =>
      rw [Bool.false_and]
      refine Ev.step (fun k => ?_) (Ev.now false)
      rw [hn false hb]; rfl
theorem has_cases {α : Type} (d n : Int) (l : List S50) (t f : α) (o : Bool → α) (ht : ∀ b, o b = if b = true then f else t) :
    (if d < 1 then o true else (if d > 3652059 then o true else (if n < 1 then o true else (if n > 999999 then o true else (if (l.length : Int) < 1 then o true else o (decide ((l.length : Int) > 9999))))))) =
      if decide (1 ≤ d ∧ d ≤ 3652059 ∧ 1 ≤ n ∧ n ≤ 999999 ∧ 1 ≤ l.length ∧ l.length ≤ 9999) = true then t else f := by
  rw [ht true, ht, if_pos rfl]
  by_cases c1 : d < 1
  · rw [if_pos c1, decide_eq_false (by omega)]; rfl
  · rw [if_neg c1]
    by_cases c2 : d > 3652059
    · rw [if_pos c2, decide_eq_false (by omega)]; rfl
    · rw [if_neg c2]
      by_cases c3 : n < 1
      · rw [if_pos c3, decide_eq_false (by omega)]; rfl
      · rw [if_neg c3]
        by_cases c4 : n > 999999
        · rw [if_pos c4, decide_eq_false (by omega)]; rfl
        · rw [if_neg c4]
          by_cases c5 : (l.length : Int) < 1
          · rw [if_pos c5, decide_eq_false (by omega)]; rfl
          · rw [if_neg c5]
            by_cases c6 : (l.length : Int) > 9999
            · rw [decide_eq_true c6, if_pos rfl, decide_eq_false (by omega)]; rfl
            · rw [decide_eq_false c6, decide_eq_true (by omega)]; rfl
theorem has_ev (d n : Int) (l : List S50) (hl : l.length ≤ 100000) : Ev (fun k => lockbox_has.f k d n l) (hasB d n l) := by
  have h := has_loop l hl l.length 0 (by omega)
  rw [List.drop_zero] at h
  have h2 : Ev (fun k => lockbox_has.f (k + 1) d n l) (hasB d n l) := by
    unfold hasB
    by_cases c : decide (1 ≤ d ∧ d ≤ 3652059 ∧ 1 ≤ n ∧ n ≤ 999999 ∧ 1 ≤ l.length ∧ l.length ≤ 9999) = true
    · rw [c, Bool.true_and]
      refine Ev.congr (fun k => ?_) h
      show lockbox_has.f (k + 1) d n l = _
      unfold lockbox_has.f
      rw [has_cases d n l (lockbox_has.l0 k l l.length 0) (some false) (fun b => lockbox_has.j0 (k + 1) b d n l) (fun b => by simp only [lockbox_has.j0]), if_pos c]; rfl
    · rw [Bool.not_eq_true] at c
      rw [c, Bool.false_and]
      refine Ev.congr (fun k => ?_) (Ev.now false)
      show lockbox_has.f (k + 1) d n l = _
      unfold lockbox_has.f
      rw [has_cases d n l (lockbox_has.l0 k l l.length 0) (some false) (fun b => lockbox_has.j0 (k + 1) b d n l) (fun b => by simp only [lockbox_has.j0]), c]; rfl
  exact Ev.step (fun k => rfl) h2
theorem hasRef_ev (d n : Int) (l : List S50) (hl : l.length ≤ 100000) : Ev (fun k => arrearsref20_Has.f k d n l) (hasB d n l) := by
  have h := hasRef_loop d n l hl l.length 0 (by omega)
  rw [List.drop_zero] at h
  have h2 : Ev (fun k => arrearsref20_Has.f (k + 1) d n l) (hasB d n l) := by
    unfold hasB
    by_cases c : decide (1 ≤ d ∧ d ≤ 3652059 ∧ 1 ≤ n ∧ n ≤ 999999 ∧ 1 ≤ l.length ∧ l.length ≤ 9999) = true
    · rw [c, Bool.true_and]
      refine Ev.congr (fun k => ?_) h
      show arrearsref20_Has.f (k + 1) d n l = _
      unfold arrearsref20_Has.f
      rw [has_cases d n l (arrearsref20_Has.l0 k 0 d n l) (some false) (fun b => arrearsref20_Has.j0 (k + 1) b d n l) (fun b => by simp only [arrearsref20_Has.j0]), if_pos c]; rfl
    · rw [Bool.not_eq_true] at c
      rw [c, Bool.false_and]
      refine Ev.congr (fun k => ?_) (Ev.now false)
      show arrearsref20_Has.f (k + 1) d n l = _
      unfold arrearsref20_Has.f
      rw [has_cases d n l (arrearsref20_Has.l0 k 0 d n l) (some false) (fun b => arrearsref20_Has.j0 (k + 1) b d n l) (fun b => by simp only [arrearsref20_Has.j0]), c]; rfl
  exact Ev.step (fun k => rfl) h2
theorem dec_zero : ∀ n : Nat, dec n 0 = List.replicate n 48
  | 0 => rfl
  | n + 1 => by
    rw [dec, show (0 : Int) / 10 = 0 by omega, dec_zero n, List.replicate_succ']
    rfl
theorem dec_short : ∀ (n x : Nat), x < 10 ^ (n + 1) → dec (n + 1) (x : Int) = List.replicate (n + 1 - (short x).length) 48 ++ short x
  | n, x, h => by
    by_cases hx : x < 10
    · rw [short_small hx, dec, show (x : Int) / 10 = 0 by omega, dec_zero, show (x : Int) % 10 = x by omega]
      simp
    · match n with
      | 0 => omega
      | n + 1 =>
        have h' : x / 10 < 10 ^ (n + 1) := by rw [Nat.pow_succ] at h; omega
        have ih := dec_short n (x / 10) h'
        have hl := short_length (x / 10) n h'
        rw [short_big hx, dec, show (x : Int) / 10 = ((x / 10 : Nat) : Int) by omega, ih, show (x : Int) % 10 = ((x % 10 : Nat) : Int) by omega, List.length_append, List.length_singleton]
        rw [show n + 1 + 1 - ((short (x / 10)).length + 1) = n + 1 - (short (x / 10)).length by omega, List.append_assoc]
theorem digits_ev (b : List Int) (x : Int) (n : Nat) (h0 : 0 ≤ x) (hx : x < 10 ^ (n + 1)) (hn : n ≤ 16) (hb : b.length ≤ 1000000000) :
    Ev (fun k => lockbox_digits.f k b x ((n + 1 : Nat) : Int)) (b ++ dec (n + 1) x) := by
  obtain ⟨m, rfl⟩ : ∃ m : Nat, x = m := ⟨x.toNat, by omega⟩
  have hm : m < 10 ^ (n + 1) := by
    have : ((10 ^ (n + 1) : Nat) : Int) = (10 : Int) ^ (n + 1) := by simp
    omega
  have hbig : 10 ^ (n + 1) ≤ 10 ^ 17 := Nat.pow_le_pow_right (by omega) (by omega)
  have hm17 : m ≤ 1000000000000000000 := Nat.le_trans (Nat.le_of_lt hm) (Nat.le_trans hbig (by decide))
  have hl := short_length m n hm
  have e : bytesOf ⟨(Lib.decDigits m).toArray⟩ = short m := by simp [bytesOf, short]
  have es : (⟨(Lib.decDigits m).toArray⟩ : ByteArray).size = (short m).length := by rw [← e, bytesOf_length]
  have go : ∀ d i : Nat, i + d = n + 1 - (short m).length → ∀ acc : List Int, acc.length ≤ 1000000000 + i →
      Ev (fun k => lockbox_digits.l0 k acc ⟨(Lib.decDigits m).toArray⟩ ((n + 1 - (short m).length : Nat) : Int) i) (acc ++ List.replicate d 48 ++ short m) := by
    intro d
    induction d with
    | zero =>
      intro i hi acc ha
      refine Ev.step (fun k => ?_) (Ev.now _)
      simp only [lockbox_digits.l0]
      rw [if_neg (by omega), if_pos (by omega), e, List.replicate_zero, List.append_nil]
    | succ d ih =>
      intro i hi acc ha
      have := ih (i + 1) (by omega) (acc ++ [48]) (by rw [List.length_append, List.length_singleton]; omega)
      rw [show acc ++ [48] ++ List.replicate d 48 ++ short m = acc ++ List.replicate (d + 1) 48 ++ short m by rw [List.replicate_succ]; simp] at this
      refine Ev.step (fun k => ?_) this
      simp only [lockbox_digits.l0]
      rw [if_pos (by omega), if_pos (by omega), wrN i (by omega)]
  have h := go (n + 1 - (short m).length) 0 (by omega) b (by omega)
  rw [List.append_assoc, ← dec_short n m hm] at h
  refine Ev.congr (fun k => ?_) h
  show lockbox_digits.f k b m ((n + 1 : Nat) : Int) = _
  unfold lockbox_digits.f strconv_FormatInt.f
  rw [if_pos ⟨rfl, by omega, by omega⟩, Int.toNat_natCast]
  simp only [Option.bind_some]
  rw [es, wrI (by omega) (by omega), show ((n + 1 : Nat) : Int) - ((short m).length : Int) = ((n + 1 - (short m).length : Nat) : Int) by omega]
  rfl
def tot : List S50 → Int → Int → Int × Int
  | [], s, h => (s, h)
  | x :: t, s, h => tot t (s + x.f1) ((h + x.f0) % 10000000000)
theorem tot_range : ∀ (l : List S50) (s h : Int), l.all goodB = true → 0 ≤ s → 0 ≤ h → h < 10000000000 →
    0 ≤ (tot l s h).1 ∧ (tot l s h).1 ≤ s + 999999999999 * l.length ∧ 0 ≤ (tot l s h).2 ∧ (tot l s h).2 < 10000000000
  | [], s, h, _, h0, h1, h2 => by simp [tot]; omega
  | x :: t, s, h, hg, h0, h1, h2 => by
    rw [List.all_cons, Bool.and_eq_true] at hg
    have hx := of_decide_eq_true hg.1
    have := tot_range t (s + x.f1) ((h + x.f0) % 10000000000) hg.2 (by omega) (by omega) (by omega)
    simp only [tot, List.length_cons]
    omega
theorem totals_ev (l : List S50) (hl : l.length ≤ 9999) (hg : l.all goodB = true) (d : Nat) : ∀ (i : Nat) (s h : Int), i + d = l.length → 0 ≤ s → s ≤ 999999999999 * i → 0 ≤ h → h < 10000000000 →
    Ev (fun k => lockbox_totals.l0 k s h l l.length i) (tot (l.drop i) s h) ∧ Ev (fun k => arrearsref20_totals.l0 k l s h i) (tot (l.drop i) s h) := by
  induction d with
  | zero =>
    intro i s h hi h0 h1 h2 h3
    rw [List.drop_of_length_le (by omega)]
    refine ⟨Ev.step (fun k => ?_) (Ev.now _), Ev.step (fun k => ?_) (Ev.now _)⟩
    · simp only [lockbox_totals.l0]
      rw [if_neg (by omega)]; rfl
    · simp only [arrearsref20_totals.l0]
      rw [if_neg (by omega)]; rfl
  | succ d ih =>
    intro i s h hi h0 h1 h2 h3
    have hil : i < l.length := by omega
    have hx := of_decide_eq_true (List.all_eq_true.1 hg _ (List.getElem_mem hil))
    have e := rd_nat l i hil
    rw [List.drop_eq_getElem_cons hil]
    generalize l[i] = x at e hx ⊢
    have := ih (i + 1) (s + x.f1) ((h + x.f0) % 10000000000) (by omega) (by omega) (by omega) (by omega) (by omega)
    refine ⟨Ev.step (fun k => ?_) this.1, Ev.step (fun k => ?_) this.2⟩
    · simp only [lockbox_totals.l0]
      rw [if_pos (by omega), if_pos (by omega), if_pos (by omega), e, wrI (i := s + x.f1) (by omega) (by omega), wrI (i := h + x.f0) (by omega) (by omega), Int.tmod_eq_emod_of_nonneg (by omega), wrN i (by omega)]
    · simp only [arrearsref20_totals.l0]
      rw [if_pos (by omega), if_pos (by omega), e, wrI (i := s + x.f1) (by omega) (by omega), wrI (i := h + x.f0) (by omega) (by omega), Int.tmod_eq_emod_of_nonneg (by omega), wrN i (by omega)]
theorem line_ev (a0 : Int) (fs : List S66) (hl : fs.length ≤ 8) (hf : ∀ f ∈ fs, 0 ≤ f.f0 ∧ f.f0 ≤ 1000000000000000000 ∧ 0 ≤ f.f1 ∧ f.f1 ≤ 100) :
    Ev (fun k => arrearsref20_line.f k a0 fs) ([a0] ++ fs.flatMap (fun f => dec f.f1.toNat f.f0) ++ [10]) := by
  have go : ∀ d i : Nat, i + d = fs.length → ∀ acc : List Int, acc.length ≤ 1 + 100 * i → Ev (fun k => arrearsref20_line.l0 k fs acc i) (acc ++ (fs.drop i).flatMap (fun f => dec f.f1.toNat f.f0) ++ [10]) := by
    intro d
    induction d with
    | zero =>
      intro i hi acc ha
      rw [List.drop_of_length_le (by omega), List.flatMap_nil, List.append_nil]
      refine Ev.step (fun k => ?_) (Ev.now _)
      simp only [arrearsref20_line.l0]
      rw [if_neg (by omega), if_pos (by omega)]
    | succ d ih =>
      intro i hi acc ha
      have hil : i < fs.length := by omega
      have hx := hf _ (List.getElem_mem hil)
      have e : rd_T66 fs (i : Int) = fs[i] := by
        unfold rd_T66
        rw [Int.toNat_natCast, List.getD_eq_getElem?_getD, List.getElem?_eq_getElem hil]; rfl
      rw [List.drop_eq_getElem_cons hil, List.flatMap_cons, ← List.append_assoc]
      generalize fs[i] = x at e hx ⊢
      have hdl := dec_length x.f1.toNat x.f0
      refine Ev.step (fun k => ?_) (ih (i + 1) (by omega) (acc ++ dec x.f1.toNat x.f0) (by rw [List.length_append]; omega))
      simp only [arrearsref20_line.l0]
      rw [if_pos (by omega), if_pos (by omega), e]
      unfold arrearsref20_decimal.f
      rw [if_pos ⟨hx.1, hx.2.1, hx.2.2.1, by omega⟩]
      simp only [Option.bind_some]
      rw [if_pos (by omega), wrN i (by omega)]
  have := go fs.length 0 (by omega) [a0] (by simp)
  rw [List.drop_zero] at this
  exact Ev.congr (fun k => rfl) this
def itl (i : Nat) (x : S50) : List Int := [68] ++ dec 4 ((i + 1 : Nat) : Int) ++ dec 6 x.f0 ++ dec 1 (DDigits.digitOf x.f0) ++ dec 12 x.f1 ++ [10]
def itls : Nat → List S50 → List Int
  | _, [] => []
  | i, x :: t => itl i x ++ itls (i + 1) t
def trl (l : List S50) : List Int := [84] ++ dec 4 (l.length : Int) ++ dec 16 (tot l 0 0).1 ++ dec 10 (tot l 0 0).2 ++ [10]
def hdl (d n : Int) : List Int := [72] ++ dec 4 (CivilPure.civ d).1 ++ dec 2 (CivilPure.civ d).2.1 ++ dec 2 (CivilPure.civ d).2.2 ++ dec 6 n ++ [10]
def fmt (d n : Int) (l : List S50) : List Int := if hasB d n l then hdl d n ++ itls 0 l ++ trl l else []
theorem digit_range (x : Int) : 0 ≤ DDigits.digitOf x ∧ DDigits.digitOf x ≤ 9 := by
  unfold DDigits.digitOf DDigits.chk
  split <;> omega
theorem itl_length (i : Nat) (x : S50) : (itl i x).length = 25 := by simp [itl, dec_length]
theorem prog_items (dd nn : Int) (l : List S50) (hl : l.length ≤ 9999) (hg : l.all goodB = true) (d : Nat) : ∀ (i : Nat) (acc : List Int), i + d = l.length → acc.length ≤ 100 + 25 * i →
    Ev (fun k => lockbox_Format.l0 k acc l l.length i dd nn l) (acc ++ itls i (l.drop i) ++ trl l, true) := by
  have ht := tot_range l 0 0 hg (by omega) (by omega) (by omega)
  induction d with
  | zero =>
    intro i acc hi ha
    rw [List.drop_of_length_le (by omega), itls, List.append_nil]
    have h1 := (totals_ev l hl hg l.length 0 0 0 (by omega) (by omega) (by omega) (by omega) (by omega)).1
    rw [List.drop_zero] at h1
    have h1' : Ev (fun k => lockbox_totals.f k l) (tot l 0 0) := Ev.congr (fun k => rfl) h1
    have h2 := digits_ev (acc ++ [84]) (l.length : Int) 3 (by omega) (by simp; omega) (by omega) (by simp; omega)
    have h3 := digits_ev (acc ++ [84] ++ dec 4 (l.length : Int)) (tot l 0 0).1 15 (by omega) (by simp; omega) (by omega) (by simp [dec_length]; omega)
    have h4 := digits_ev (acc ++ [84] ++ dec 4 (l.length : Int) ++ dec 16 (tot l 0 0).1) (tot l 0 0).2 9 (by omega) (by simp; omega) (by omega) (by simp [dec_length]; omega)
    refine Ev.step (f := fun k => (lockbox_totals.f k l).bind fun bt165 => (if acc.length < 140737488355328 then ((lockbox_digits.f k (acc ++ [84]) (l.length : Int) 4).bind fun t170 => ((lockbox_digits.f k t170 bt165.1 16).bind fun t173 => ((lockbox_digits.f k t173 bt165.2 10).bind fun t176 => (if t176.length < 140737488355328 then (some ((t176 ++ [10]), true)) else (none))))) else (none))) (fun k => ?_) (Ev.bind h1' ?_)
    · simp only [lockbox_Format.l0]
      rw [if_neg (by omega)]
    · refine Ev.congr (fun k => by rw [if_pos (by omega)]; rfl) (Ev.bind h2 (f := fun k t170 => ((lockbox_digits.f k t170 (tot l 0 0).1 16).bind fun t173 => ((lockbox_digits.f k t173 (tot l 0 0).2 10).bind fun t176 => (if t176.length < 140737488355328 then (some ((t176 ++ [10]), true)) else (none))))) ?_)
      refine Ev.bind h3 (f := fun k t173 => ((lockbox_digits.f k t173 (tot l 0 0).2 10).bind fun t176 => (if t176.length < 140737488355328 then (some ((t176 ++ [10]), true)) else (none)))) ?_
      refine Ev.bind h4 (f := fun _ t176 => (if t176.length < 140737488355328 then (some ((t176 ++ [10]), true)) else (none))) ?_
      refine Ev.congr (fun k => ?_) (Ev.now _)
      rw [if_pos (by simp [dec_length]; omega)]
      simp [trl]
  | succ d ih =>
    intro i acc hi ha
    have hil : i < l.length := by omega
    have hx := of_decide_eq_true (List.all_eq_true.1 hg _ (List.getElem_mem hil))
    have e := rd_nat l i hil
    rw [List.drop_eq_getElem_cons hil, itls]
    generalize l[i] = x at e hx ⊢
    have hdr := digit_range x.f0
    have h1 := digits_ev (acc ++ [68]) ((i + 1 : Nat) : Int) 3 (by omega) (by simp; omega) (by omega) (by simp; omega)
    have h2 := digits_ev (acc ++ [68] ++ dec 4 ((i + 1 : Nat) : Int)) x.f0 5 (by omega) (by simp; omega) (by omega) (by simp [dec_length]; omega)
    have h3 := digits_ev (acc ++ [68] ++ dec 4 ((i + 1 : Nat) : Int) ++ dec 6 x.f0) (DDigits.digitOf x.f0) 0 (by omega) (by simp; omega) (by omega) (by simp [dec_length]; omega)
    have h4 := digits_ev (acc ++ [68] ++ dec 4 ((i + 1 : Nat) : Int) ++ dec 6 x.f0 ++ dec 1 (DDigits.digitOf x.f0)) x.f1 11 (by omega) (by simp; omega) (by omega) (by simp [dec_length]; omega)
    have h := ih (i + 1) (acc ++ itl i x) (by omega) (by rw [List.length_append, itl_length]; omega)
    rw [← List.append_assoc]
    refine Ev.step (f := fun k => ((lockbox_digits.f k (acc ++ [68]) ((i + 1 : Nat) : Int) 4).bind fun t150 => ((lockbox_digits.f k t150 x.f0 6).bind fun t153 => ((lockbox_digits.f k t153 (DDigits.digitOf x.f0) 1).bind fun t156 => ((lockbox_digits.f k t156 x.f1 12).bind fun t159 => (if t159.length < 140737488355328 then (lockbox_Format.l0 k (t159 ++ [10]) l l.length ((i + 1 : Nat) : Int) dd nn l) else (none))))))) (fun k => ?_) (Ev.bind h1 ?_)
    · simp only [lockbox_Format.l0]
      rw [if_pos (by omega), if_pos (by omega), if_pos (by omega), e, wrN i (by omega)]
      unfold lockbox_CheckDigit.f
      simp only [Option.bind_some]
      rw [if_pos (by omega)]
    · refine Ev.bind h2 (f := fun k t153 => ((lockbox_digits.f k t153 (DDigits.digitOf x.f0) 1).bind fun t156 => ((lockbox_digits.f k t156 x.f1 12).bind fun t159 => (if t159.length < 140737488355328 then (lockbox_Format.l0 k (t159 ++ [10]) l l.length ((i + 1 : Nat) : Int) dd nn l) else (none))))) ?_
      refine Ev.bind h3 (f := fun k t156 => ((lockbox_digits.f k t156 x.f1 12).bind fun t159 => (if t159.length < 140737488355328 then (lockbox_Format.l0 k (t159 ++ [10]) l l.length ((i + 1 : Nat) : Int) dd nn l) else (none)))) ?_
      refine Ev.bind h4 (f := fun k t159 => (if t159.length < 140737488355328 then (lockbox_Format.l0 k (t159 ++ [10]) l l.length ((i + 1 : Nat) : Int) dd nn l) else (none))) ?_
      refine Ev.congr (fun k => ?_) h
      rw [if_pos (by simp [dec_length]; omega)]
      simp [itl]
theorem ref_items (dd nn : Int) (l : List S50) (hl : l.length ≤ 9999) (hg : l.all goodB = true) (d : Nat) : ∀ (i : Nat) (acc : List Int), i + d = l.length → acc.length ≤ 100 + 25 * i →
    Ev (fun k => arrearsref20_Format.l0 k acc i dd nn l) (acc ++ itls i (l.drop i) ++ trl l, true) := by
  have ht := tot_range l 0 0 hg (by omega) (by omega) (by omega)
  induction d with
  | zero =>
    intro i acc hi ha
    rw [List.drop_of_length_le (by omega), itls, List.append_nil]
    have h1 := (totals_ev l hl hg l.length 0 0 0 (by omega) (by omega) (by omega) (by omega) (by omega)).2
    rw [List.drop_zero] at h1
    have h1' : Ev (fun k => arrearsref20_totals.f k l) (tot l 0 0) := Ev.congr (fun k => rfl) h1
    have h2 := line_ev 84 [(⟨(l.length : Int), 4⟩ : S66), (⟨(tot l 0 0).1, 16⟩ : S66), (⟨(tot l 0 0).2, 10⟩ : S66)] (by simp) (by
      intro f hf
      simp only [List.mem_cons, List.not_mem_nil, or_false] at hf
      rcases hf with rfl | rfl | rfl <;> simp only <;> omega)
    refine Ev.step (f := fun k => (arrearsref20_totals.f k l).bind fun bt230 => ((arrearsref20_line.f k 84 (([(⟨(l.length : Int), 4⟩ : S66), (⟨bt230.1, 16⟩ : S66), (⟨bt230.2, 10⟩ : S66)] : List (S66)))).bind fun t235 => (if acc.length + t235.length < 140737488355328 then (some ((acc ++ t235), true)) else (none)))) (fun k => ?_) (Ev.bind h1' ?_)
    · simp only [arrearsref20_Format.l0]
      rw [if_neg (by omega)]
    · refine Ev.bind h2 (f := fun _ t235 => (if acc.length + t235.length < 140737488355328 then (some ((acc ++ t235), true)) else (none))) ?_
      refine Ev.congr (fun k => ?_) (Ev.now _)
      rw [if_pos (by simp [dec_length]; omega)]
      simp [trl]
  | succ d ih =>
    intro i acc hi ha
    have hil : i < l.length := by omega
    have hx := of_decide_eq_true (List.all_eq_true.1 hg _ (List.getElem_mem hil))
    have e := rd_nat l i hil
    rw [List.drop_eq_getElem_cons hil, itls]
    generalize l[i] = x at e hx ⊢
    have hdr := digit_range x.f0
    have h2 := line_ev 68 [(⟨((i + 1 : Nat) : Int), 4⟩ : S66), (⟨x.f0, 6⟩ : S66), (⟨DDigits.digitOf x.f0, 1⟩ : S66), (⟨x.f1, 12⟩ : S66)] (by simp) (by
      intro f hf
      simp only [List.mem_cons, List.not_mem_nil, or_false] at hf
      rcases hf with rfl | rfl | rfl | rfl <;> simp only <;> omega)
    have h := ih (i + 1) (acc ++ itl i x) (by omega) (by rw [List.length_append, itl_length]; omega)
    rw [← List.append_assoc]
    refine Ev.step (f := fun k => ((arrearsref20_line.f k 68 (([(⟨((i + 1 : Nat) : Int), 4⟩ : S66), (⟨x.f0, 6⟩ : S66), (⟨DDigits.digitOf x.f0, 1⟩ : S66), (⟨x.f1, 12⟩ : S66)] : List (S66)))).bind fun t224 => (if acc.length + t224.length < 140737488355328 then (arrearsref20_Format.l0 k (acc ++ t224) ((i + 1 : Nat) : Int) dd nn l) else (none)))) (fun k => ?_) (Ev.bind h2 ?_)
    · simp only [arrearsref20_Format.l0]
      rw [if_pos (by omega), if_pos (by omega), e, wrN i (by omega)]
      unfold arrearsref20_CheckDigit.f
      simp only [Option.bind_some]
    · refine Ev.congr (fun k => ?_) h
      rw [if_pos (by simp [dec_length]; omega)]
      simp [itl]
theorem civ_range {d : Int} (h : 1 ≤ d ∧ d ≤ 3652059) : 1 ≤ (CivilPure.civ d).1 ∧ (CivilPure.civ d).1 ≤ 9999 ∧ 1 ≤ (CivilPure.civ d).2.1 ∧ (CivilPure.civ d).2.1 ≤ 12 ∧ 1 ≤ (CivilPure.civ d).2.2 ∧ (CivilPure.civ d).2.2 ≤ 31 := by
  have hd := CivilPure.civ_date h
  have hm := Cal.mlen_range (CivilPure.civ d).1 (CivilPure.civ d).2.1
  have := hd.d2
  exact ⟨hd.y1, hd.y2, hd.m1, hd.m2, hd.d1, by omega⟩
theorem format_ev (d n : Int) (l : List S50) (hl : l.length ≤ 100000) : Ev (fun k => lockbox_Format.f k d n l) (fmt d n l, hasB d n l) := by
  have h0 := has_ev d n l hl
  refine Ev.congr (fun k => rfl) (Ev.bind h0 (f := fun k t119 => (if t119 = true then ((calendar_Civil.f d).bind fun bt120 => ((lockbox_digits.f k (([72] : List Int)) bt120.1 4).bind fun t128 => ((lockbox_digits.f k t128 bt120.2.1 2).bind fun t131 => ((lockbox_digits.f k t131 bt120.2.2.1 2).bind fun t134 => ((lockbox_digits.f k t134 n 6).bind fun t137 => (if t137.length < 140737488355328 then (lockbox_Format.l0 k (t137 ++ [10]) l (l.length : Int) 0 d n l) else (none))))))) else (some (([] : List Int), false)))) ?_)
  unfold fmt
  cases hb : hasB d n l with
  | false => exact Ev.congr (fun k => by rw [if_neg (by simp)]; rfl) (Ev.now _)
  | true =>
    unfold hasB at hb
    rw [Bool.and_eq_true] at hb
    have hc := of_decide_eq_true hb.1
    have hcv := civ_range (d := d) ⟨by omega, by omega⟩
    generalize hC : CivilPure.civ d = cv at hcv
    have h1 := digits_ev [72] cv.1 3 (by omega) (by simp; omega) (by omega) (by simp)
    have h2 := digits_ev ([72] ++ dec 4 cv.1) cv.2.1 1 (by omega) (by simp; omega) (by omega) (by simp [dec_length])
    have h3 := digits_ev ([72] ++ dec 4 cv.1 ++ dec 2 cv.2.1) cv.2.2 1 (by omega) (by simp; omega) (by omega) (by simp [dec_length])
    have h4 := digits_ev ([72] ++ dec 4 cv.1 ++ dec 2 cv.2.1 ++ dec 2 cv.2.2) n 5 (by omega) (by simp; omega) (by omega) (by simp [dec_length])
    have h5 := prog_items d n l (by omega) hb.2 l.length 0 (hdl d n) (by omega) (by simp [hdl, dec_length])
    rw [List.drop_zero] at h5
    refine Ev.congr (f := fun k => ((lockbox_digits.f k (([72] : List Int)) cv.1 4).bind fun t128 => ((lockbox_digits.f k t128 cv.2.1 2).bind fun t131 => ((lockbox_digits.f k t131 cv.2.2 2).bind fun t134 => ((lockbox_digits.f k t134 n 6).bind fun t137 => (if t137.length < 140737488355328 then (lockbox_Format.l0 k (t137 ++ [10]) l (l.length : Int) 0 d n l) else (none))))))) (fun k => ?_) (Ev.bind h1 ?_)
    · rw [if_pos rfl]
      unfold calendar_Civil.f
      rw [hC]
      simp only [Option.bind_some]
    · refine Ev.bind h2 (f := fun k t131 => ((lockbox_digits.f k t131 cv.2.2 2).bind fun t134 => ((lockbox_digits.f k t134 n 6).bind fun t137 => (if t137.length < 140737488355328 then (lockbox_Format.l0 k (t137 ++ [10]) l (l.length : Int) 0 d n l) else (none))))) ?_
      refine Ev.bind h3 (f := fun k t134 => ((lockbox_digits.f k t134 n 6).bind fun t137 => (if t137.length < 140737488355328 then (lockbox_Format.l0 k (t137 ++ [10]) l (l.length : Int) 0 d n l) else (none)))) ?_
      refine Ev.bind h4 (f := fun k t137 => (if t137.length < 140737488355328 then (lockbox_Format.l0 k (t137 ++ [10]) l (l.length : Int) 0 d n l) else (none))) ?_
      rw [if_pos rfl]
      refine Ev.congr (fun k => ?_) h5
      rw [if_pos (by simp [dec_length])]
      unfold hdl
      rw [hC]; rfl
theorem formatRef_ev (d n : Int) (l : List S50) (hl : l.length ≤ 100000) : Ev (fun k => arrearsref20_Format.f k d n l) (fmt d n l, hasB d n l) := by
  have h0 := hasRef_ev d n l hl
  refine Ev.congr (fun k => rfl) (Ev.bind h0 (f := fun k t202 => (if t202 = true then ((arrearsref2_Civil.f d).bind fun bt203 => ((arrearsref20_line.f k 72 (([(⟨bt203.1, 4⟩ : S66), (⟨bt203.2.1, 2⟩ : S66), (⟨bt203.2.2.1, 2⟩ : S66), (⟨n, 6⟩ : S66)] : List (S66)))).bind fun t211 => (if ([] : List Int).length + t211.length < 140737488355328 then (arrearsref20_Format.l0 k (([] : List Int) ++ t211) 0 d n l) else (none)))) else (some (([] : List Int), false)))) ?_)
  unfold fmt
  cases hb : hasB d n l with
  | false => exact Ev.congr (fun k => by rw [if_neg (by simp)]; rfl) (Ev.now _)
  | true =>
    unfold hasB at hb
    rw [Bool.and_eq_true] at hb
    have hc := of_decide_eq_true hb.1
    have hcv := civ_range (d := d) ⟨by omega, by omega⟩
    generalize hC : CivilPure.civ d = cv at hcv
    have h2 := line_ev 72 [(⟨cv.1, 4⟩ : S66), (⟨cv.2.1, 2⟩ : S66), (⟨cv.2.2, 2⟩ : S66), (⟨n, 6⟩ : S66)] (by simp) (by
      intro f hf
      simp only [List.mem_cons, List.not_mem_nil, or_false] at hf
      rcases hf with rfl | rfl | rfl | rfl <;> simp only <;> omega)
    have h5 := ref_items d n l (by omega) hb.2 l.length 0 (hdl d n) (by omega) (by simp [hdl, dec_length])
    rw [List.drop_zero] at h5
    refine Ev.congr (f := fun k => ((arrearsref20_line.f k 72 (([(⟨cv.1, 4⟩ : S66), (⟨cv.2.1, 2⟩ : S66), (⟨cv.2.2, 2⟩ : S66), (⟨n, 6⟩ : S66)] : List (S66)))).bind fun t211 => (if ([] : List Int).length + t211.length < 140737488355328 then (arrearsref20_Format.l0 k (([] : List Int) ++ t211) 0 d n l) else (none)))) (fun k => ?_) (Ev.bind h2 ?_)
    · rw [if_pos rfl]
      unfold arrearsref2_Civil.f
      rw [hC]
      simp only [Option.bind_some]
    · rw [if_pos rfl]
      refine Ev.congr (fun k => ?_) h5
      rw [if_pos (by simp [dec_length])]
      unfold hdl
      rw [hC]
      simp
def opOf (n : Int) (i : Nat) (x : S50) : S42 := ⟨2, x.f0, x.f1, 0, wrap64 ((wrap64 ((wrap64 (n * 10000)) + i)) + 1), 0, (⟨#[]⟩ : ByteArray)⟩
def opsL (n : Int) : Nat → List S50 → List S42
  | _, [] => []
  | i, x :: t => opOf n i x :: opsL n (i + 1) t
theorem opsL_length (n : Int) : ∀ (i : Nat) (l : List S50), (opsL n i l).length = l.length
  | _, [] => rfl
  | i, x :: t => by simp [opsL, opsL_length n (i + 1) t]
def ops (d n : Int) (l : List S50) : List S42 := if hasB d n l then opsL n 0 l else []
theorem ops_loop (dd n : Int) (l : List S50) (hl : l.length ≤ 100000) (d : Nat) : ∀ (i : Nat) (acc : List S42), i + d = l.length → acc.length = i →
    Ev (fun k => lockbox_Ops.l0 k acc l l.length i dd n l) (acc ++ opsL n i (l.drop i)) ∧ Ev (fun k => arrearsref20_Ops.l0 k acc i dd n l) (acc ++ opsL n i (l.drop i)) := by
  induction d with
  | zero =>
    intro i acc hi ha
    rw [List.drop_of_length_le (by omega), opsL, List.append_nil]
    refine ⟨Ev.step (fun k => ?_) (Ev.now _), Ev.step (fun k => ?_) (Ev.now _)⟩
    · simp only [lockbox_Ops.l0]
      rw [if_neg (by omega)]
    · simp only [arrearsref20_Ops.l0]
      rw [if_neg (by omega)]
  | succ d ih =>
    intro i acc hi ha
    have hil : i < l.length := by omega
    have e := rd_nat l i hil
    rw [List.drop_eq_getElem_cons hil, opsL]
    have h := ih (i + 1) (acc ++ [opOf n i l[i]]) (by omega) (by simp; omega)
    rw [List.append_assoc] at h
    refine ⟨Ev.step (fun k => ?_) h.1, Ev.step (fun k => ?_) h.2⟩
    · simp only [lockbox_Ops.l0]
      rw [if_pos (by omega), if_pos (by omega), if_pos (by omega), if_pos (by omega), e, wrN i (by omega)]
      rfl
    · simp only [arrearsref20_Ops.l0]
      rw [if_pos (by omega), if_pos (by omega), if_pos (by omega), e, wrN i (by omega)]
      rfl
theorem ops_ev (d n : Int) (l : List S50) (hl : l.length ≤ 100000) : Ev (fun k => lockbox_Ops.f k d n l) (ops d n l) := by
  refine Ev.congr (fun k => rfl) (Ev.bind (has_ev d n l hl) (f := fun k t246 => (if t246 = true then (if 0 ≤ (l.length : Int) then (if ((l.length : Int) : Int).toNat ≤ 4398046511104 then (lockbox_Ops.l0 k (([] : List (S42))) l (l.length : Int) 0 d n l) else (none)) else (none)) else (some ([] : List (S42))))) ?_)
  unfold ops
  cases hasB d n l with
  | false => exact Ev.congr (fun k => by rw [if_neg (by simp)]; rfl) (Ev.now _)
  | true =>
    have h := (ops_loop d n l hl l.length 0 [] (by omega) rfl).1
    rw [List.drop_zero] at h
    refine Ev.congr (fun k => ?_) h
    rw [if_pos rfl, if_pos (by omega), if_pos (by omega)]; rfl
theorem opsRef_ev (d n : Int) (l : List S50) (hl : l.length ≤ 100000) : Ev (fun k => arrearsref20_Ops.f k d n l) (ops d n l) := by
  refine Ev.congr (fun k => rfl) (Ev.bind (hasRef_ev d n l hl) (f := fun k t258 => (if t258 = true then (arrearsref20_Ops.l0 k ([] : List (S42)) 0 d n l) else (some ([] : List (S42))))) ?_)
  unfold ops
  cases hasB d n l with
  | false => exact Ev.congr (fun k => by rw [if_neg (by simp)]; rfl) (Ev.now _)
  | true =>
    have h := (ops_loop d n l hl l.length 0 [] (by omega) rfl).2
    rw [List.drop_zero] at h
    refine Ev.congr (fun k => ?_) h
    rw [if_pos rfl]; rfl
theorem ops_length (d n : Int) (l : List S50) : (ops d n l).length ≤ l.length := by
  unfold ops; split
  · rw [opsL_length]; omega
  · simp
theorem sameOps_self (l : List S42) (hl : l.length ≤ 100000) : Ev (fun k => arrearslaw20_sameOps.f k l l) true := by
  have go : ∀ d i : Nat, i + d = l.length → Ev (fun k => arrearslaw20_sameOps.l0 k l l i) true := by
    intro d
    induction d with
    | zero =>
      intro i h
      refine Ev.step (fun k => ?_) (Ev.now true)
      simp only [arrearslaw20_sameOps.l0]
      rw [if_neg (by omega)]
    | succ d ih =>
      intro i h
      refine Ev.step (fun k => ?_) (ih (i + 1) (by omega))
      simp only [arrearslaw20_sameOps.l0, beq_self_eq_true, Bool.not_true, Bool.or_false, Bool.false_eq_true, if_false]
      rw [if_pos (by omega), if_pos (by omega), if_pos (by omega), wrN i (by omega)]
  refine Ev.congr (fun k => ?_) (go l.length 0 (by omega))
  show arrearslaw20_sameOps.f k l l = _
  unfold arrearslaw20_sameOps.f
  rw [if_pos rfl]; rfl
theorem sameBatch_self (dd n : Int) (l : List S50) (hl : l.length ≤ 100000) : Ev (fun k => arrearslaw20_sameBatch.f k dd n l dd n l) true := by
  have go : ∀ d i : Nat, i + d = l.length → Ev (fun k => arrearslaw20_sameBatch.l0 k i dd n l dd n l) true := by
    intro d
    induction d with
    | zero =>
      intro i h
      refine Ev.step (fun k => ?_) (Ev.now true)
      simp only [arrearslaw20_sameBatch.l0]
      rw [if_neg (by omega)]
    | succ d ih =>
      intro i h
      refine Ev.step (fun k => ?_) (ih (i + 1) (by omega))
      simp only [arrearslaw20_sameBatch.l0, beq_self_eq_true, Bool.not_true, Bool.or_false, Bool.false_eq_true, if_false]
      rw [if_pos (by omega), if_pos (by omega), if_pos (by omega), wrN i (by omega)]
  have h := go l.length 0 (by omega)
  have h2 : Ev (fun k => arrearslaw20_sameBatch.j0 k false dd n l dd n l) true := by
    refine Ev.step (fun k => ?_) h
    simp only [arrearslaw20_sameBatch.j0]
    rw [if_neg (by simp)]; rfl
  refine Ev.congr (fun k => ?_) h2
  show arrearslaw20_sameBatch.f k dd n l dd n l = _
  unfold arrearslaw20_sameBatch.f
  rw [if_pos rfl, if_pos rfl]
  simp
theorem own_f (d n : Int) (l : List S50) (hl : l.length ≤ 100000) : arrearslaw20_own.f d n l = some (d, n, l) := by
  unfold arrearslaw20_own.f
  rw [if_pos (by simp; omega)]; rfl
theorem itls_length : ∀ (i : Nat) (l : List S50), (itls i l).length = 25 * l.length
  | _, [] => rfl
  | i, x :: t => by rw [itls, List.length_append, itl_length, itls_length (i + 1) t, List.length_cons]; omega
theorem fmt_length (d n : Int) (l : List S50) : (fmt d n l).length ≤ 100 + 25 * l.length := by
  unfold fmt; split
  · simp [hdl, trl, dec_length, itls_length]; omega
  · simp
theorem same_f (l : List Int) (hl : l.length ≤ 10000000) : arrearslaw19_SameBytes.f l l = some true := by
  unfold arrearslaw19_SameBytes.f
  rw [if_pos (by omega)]; simp
theorem anew_end (d n : Int) (l : List S50) (hl : l.length ≤ 20000) : ∃ l' : List S50, l'.length = l.length ∧ Ev (fun k => arrearslaw20_anew.l0 k (l.length : Int) d n l) (true, l) := by
  refine ⟨l, rfl, ?_⟩
  have hfl := fmt_length d n l
  have hol := ops_length d n l
  refine Ev.step (f := fun k => ((lockbox_Format.f k d n l).bind fun bt266 => ((arrearslaw20_own.f d n l).bind fun bt270 => ((arrearsref20_Format.f k bt270.1 bt270.2.1 bt270.2.2).bind fun bt275 => (if (bt266.2 == bt275.2) = true then ((arrearslaw19_SameBytes.f bt266.1 bt275.1).bind fun t279 => (if t279 = true then ((lockbox_Ops.f k d n l).bind fun t280 => ((arrearslaw20_own.f d n l).bind fun bt283 => ((arrearsref20_Ops.f k bt283.1 bt283.2.1 bt283.2.2).bind fun t288 => ((arrearslaw20_sameOps.f k t280 t288).bind fun t291 => (some (t291, l)))))) else (some (false, l)))) else (some (false, l))))))) (fun k => ?_) (Ev.bind (format_ev d n l (by omega)) ?_)
  · simp only [arrearslaw20_anew.l0]
    rw [if_neg (by omega)]
  · simp only [own_f d n l (by omega), Option.bind_some]
    refine Ev.bind (formatRef_ev d n l (by omega)) (f := fun k bt275 => (if (hasB d n l == bt275.2) = true then ((arrearslaw19_SameBytes.f (fmt d n l) bt275.1).bind fun t279 => (if t279 = true then ((lockbox_Ops.f k d n l).bind fun t280 => ((arrearsref20_Ops.f k d n l).bind fun t288 => ((arrearslaw20_sameOps.f k t280 t288).bind fun t291 => (some (t291, l))))) else (some (false, l)))) else (some (false, l)))) ?_
    simp only [beq_self_eq_true, if_true, same_f _ (by omega : (fmt d n l).length ≤ 10000000), Option.bind_some]
    refine Ev.bind (ops_ev d n l (by omega)) (f := fun k t280 => ((arrearsref20_Ops.f k d n l).bind fun t288 => ((arrearslaw20_sameOps.f k t280 t288).bind fun t291 => (some (t291, l))))) ?_
    refine Ev.bind (opsRef_ev d n l (by omega)) (f := fun k t288 => ((arrearslaw20_sameOps.f k (ops d n l) t288).bind fun t291 => (some (t291, l)))) ?_
    exact Ev.bind (sameOps_self _ (by omega)) (f := fun _ t291 => (some (t291, l))) (Ev.now _)
theorem anew_ev (d n : Int) (m : Nat) : ∀ (i : Nat) (l : List S50), i + m = l.length → l.length ≤ 20000 → ∃ l' : List S50, Ev (fun k => arrearslaw20_anew.l0 k i d n l) (true, l') := by
  induction m with
  | zero =>
    intro i l hi hl
    obtain rfl : i = l.length := by omega
    exact ⟨l, (anew_end d n l hl).choose_spec.2⟩
  | succ m ih =>
    intro i l hi hl
    obtain ⟨l', h⟩ := ih (i + 1) (l.set i (⟨wrap64 ((Int.tmod (i : Int) 9) + 1), ((i + 1 : Nat) : Int)⟩ : S50)) (by rw [List.length_set]; omega) (by rw [List.length_set]; omega)
    refine ⟨l', Ev.step (fun k => ?_) h⟩
    simp only [arrearslaw20_anew.l0]
    rw [if_pos (by omega), if_pos (by omega), wrN i (by omega), Int.toNat_natCast]
section
variable (d n : Int) (l : List S50) (hl : l.length ≤ 10010)
include hl
theorem law_j4 : Ev (fun k => arrearslaw20_LockboxTells.j4 k (fmt d n l) (fmt d n l) (ops d n l) false d n l d n l) true := by
  have hfl := fmt_length d n l
  have hol := ops_length d n l
  obtain ⟨l', ha⟩ := anew_ev d n l.length 0 l (by omega) (by omega)
  refine Ev.step (f := fun k => ((arrearsref20_Ops.f k d n l).bind fun t333 => ((arrearslaw20_sameOps.f k (ops d n l) t333).bind fun t336 => (if t336 = true then ((arrearslaw20_anew.f k d n l).bind fun bt337 => (some bt337.1)) else (some false))))) (fun k => ?_) (Ev.bind (opsRef_ev d n l (by omega)) ?_)
  · simp only [arrearslaw20_LockboxTells.j4]
    rw [if_neg (by simp), same_f _ (by omega)]
    simp only [Option.bind_some, if_true]
  · refine Ev.bind (sameOps_self _ (by omega)) (f := fun k t336 => (if t336 = true then ((arrearslaw20_anew.f k d n l).bind fun bt337 => (some bt337.1)) else (some false))) ?_
    simp only [if_true]
    exact Ev.bind (g := fun k => arrearslaw20_anew.f k d n l) (Ev.congr (fun k => rfl) ha) (f := fun _ bt337 => some bt337.1) (Ev.now _)
theorem law_l1 (x11 : List Int) (h11 : x11.length = (fmt d n l).length + 64) (m : Nat) : ∀ (i : Nat) (x12 : List S42), i + m = (ops d n l).length → x12.length = (ops d n l).length →
    Ev (fun k => arrearslaw20_LockboxTells.l1 k (fmt d n l) (fmt d n l) x11 x12 (ops d n l) i d n l d n l) true := by
  have hfl := fmt_length d n l
  have hol := ops_length d n l
  induction m with
  | zero =>
    intro i x12 hi h12
    refine Ev.step (fun k => ?_) (law_j4 d n l hl)
    simp only [arrearslaw20_LockboxTells.l1]
    rw [if_neg (by omega), if_pos (by omega), wrI (i := ((fmt d n l).length : Int) + 64) (by omega) (by omega), if_pos (by omega), wrI (i := ((ops d n l).length : Int) + 64) (by omega) (by omega)]
    congr 1
    rw [bne_eq_false_iff_eq, List.length_append, List.length_replicate]; omega
  | succ m ih =>
    intro i x12 hi h12
    refine Ev.step (fun k => ?_) (ih (i + 1) (x12.set i (⟨(-7), 0, 0, 0, 0, 0, (⟨#[]⟩ : ByteArray)⟩ : S42)) (by omega) (by rw [List.length_set]; omega))
    simp only [arrearslaw20_LockboxTells.l1]
    rw [if_pos (by omega), if_pos (by omega), wrN i (by omega), Int.toNat_natCast]
theorem law_l0 (m : Nat) : ∀ (i : Nat) (x4 : List Int), i + m = (fmt d n l).length → x4.length = (fmt d n l).length →
    Ev (fun k => arrearslaw20_LockboxTells.l0 k x4 (fmt d n l) (fmt d n l) i d n l d n l) true := by
  have hfl := fmt_length d n l
  have hol := ops_length d n l
  induction m with
  | zero =>
    intro i x4 hi h4
    have h1 := law_l1 d n l hl (x4 ++ List.replicate 64 0) (by rw [List.length_append, List.length_replicate]; omega) (ops d n l).length 0 (ops d n l) (by omega) rfl
    have h2 : Ev (fun k => arrearslaw20_LockboxTells.j2 k (fmt d n l) (fmt d n l) (x4 ++ List.replicate 64 0) (ops d n l) (ops d n l) false d n l d n l) true := by
      refine Ev.step (fun k => ?_) h1
      simp only [arrearslaw20_LockboxTells.j2]
      rw [if_neg (by simp)]; rfl
    refine Ev.step (f := fun k => ((lockbox_Ops.f k d n l).bind fun t317 => ((lockbox_Ops.f k d n l).bind fun t320 => ((arrearsref20_Ops.f k d n l).bind fun t323 => ((arrearslaw20_sameOps.f k t317 t323).bind fun t326 => (if t326 = true then ((arrearslaw20_sameBatch.f k d n l d n l).bind fun t327 => (arrearslaw20_LockboxTells.j2 k (fmt d n l) (fmt d n l) (x4 ++ List.replicate 64 0) t317 t320 (!t327) d n l d n l)) else (arrearslaw20_LockboxTells.j2 k (fmt d n l) (fmt d n l) (x4 ++ List.replicate 64 0) t317 t320 true d n l d n l))))))) (fun k => ?_) (Ev.bind (ops_ev d n l (by omega)) ?_)
    · simp only [arrearslaw20_LockboxTells.l0]
      rw [if_neg (by omega), if_pos (by omega)]
      simp only [Option.bind_some]
    · refine Ev.bind (ops_ev d n l (by omega)) (f := fun k t320 => ((arrearsref20_Ops.f k d n l).bind fun t323 => ((arrearslaw20_sameOps.f k (ops d n l) t323).bind fun t326 => (if t326 = true then ((arrearslaw20_sameBatch.f k d n l d n l).bind fun t327 => (arrearslaw20_LockboxTells.j2 k (fmt d n l) (fmt d n l) (x4 ++ List.replicate 64 0) (ops d n l) t320 (!t327) d n l d n l)) else (arrearslaw20_LockboxTells.j2 k (fmt d n l) (fmt d n l) (x4 ++ List.replicate 64 0) (ops d n l) t320 true d n l d n l))))) ?_
      refine Ev.bind (opsRef_ev d n l (by omega)) (f := fun k t323 => ((arrearslaw20_sameOps.f k (ops d n l) t323).bind fun t326 => (if t326 = true then ((arrearslaw20_sameBatch.f k d n l d n l).bind fun t327 => (arrearslaw20_LockboxTells.j2 k (fmt d n l) (fmt d n l) (x4 ++ List.replicate 64 0) (ops d n l) (ops d n l) (!t327) d n l d n l)) else (arrearslaw20_LockboxTells.j2 k (fmt d n l) (fmt d n l) (x4 ++ List.replicate 64 0) (ops d n l) (ops d n l) true d n l d n l)))) ?_
      refine Ev.bind (sameOps_self _ (by omega)) (f := fun k t326 => (if t326 = true then ((arrearslaw20_sameBatch.f k d n l d n l).bind fun t327 => (arrearslaw20_LockboxTells.j2 k (fmt d n l) (fmt d n l) (x4 ++ List.replicate 64 0) (ops d n l) (ops d n l) (!t327) d n l d n l)) else (arrearslaw20_LockboxTells.j2 k (fmt d n l) (fmt d n l) (x4 ++ List.replicate 64 0) (ops d n l) (ops d n l) true d n l d n l))) ?_
      simp only [if_true]
      exact Ev.bind (sameBatch_self d n l (by omega)) (f := fun k t327 => (arrearslaw20_LockboxTells.j2 k (fmt d n l) (fmt d n l) (x4 ++ List.replicate 64 0) (ops d n l) (ops d n l) (!t327) d n l d n l)) h2
  | succ m ih =>
    intro i x4 hi h4
    refine Ev.step (fun k => ?_) (ih (i + 1) (x4.set i 211) (by omega) (by rw [List.length_set]; omega))
    simp only [arrearslaw20_LockboxTells.l0]
    rw [if_pos (by omega), if_pos (by omega), wrN i (by omega), Int.toNat_natCast]
theorem law_j0 : Ev (fun k => arrearslaw20_LockboxTells.j0 k (fmt d n l) (fmt d n l) false d n l d n l) true := by
  have h := law_l0 d n l hl (fmt d n l).length 0 (fmt d n l) (by omega) rfl
  refine Ev.step (f := fun k => ((lockbox_Format.f k d n l).bind fun bt309 => (arrearslaw20_LockboxTells.l0 k (fmt d n l) (fmt d n l) bt309.1 0 d n l d n l))) (fun k => ?_) (Ev.bind (format_ev d n l (by omega)) h)
  simp only [arrearslaw20_LockboxTells.j0]
  rw [if_neg (by simp)]
end
theorem tells_ev (d n : Int) (l : List S50) : Ev (fun k => arrearslaw20_LockboxTells.f k d n l) true := by
  by_cases hl : (l.length : Int) > 10010
  · refine Ev.congr (fun k => ?_) (Ev.now true)
    show arrearslaw20_LockboxTells.f k d n l = _
    unfold arrearslaw20_LockboxTells.f
    rw [if_pos hl]
  · have hl' : l.length ≤ 10010 := by omega
    have hfl := fmt_length d n l
    refine Ev.congr (f := fun k => ((lockbox_Format.f k d n l).bind fun bt299 => ((arrearsref20_Format.f k d n l).bind fun bt303 => (if (bt299.2 != bt303.2) = true then (arrearslaw20_LockboxTells.j0 k bt299.1 bt303.1 true d n l d n l) else ((arrearslaw19_SameBytes.f bt299.1 bt303.1).bind fun t307 => (if t307 = true then ((arrearslaw20_sameBatch.f k d n l d n l).bind fun t308 => (arrearslaw20_LockboxTells.j0 k bt299.1 bt303.1 (!t308) d n l d n l)) else (arrearslaw20_LockboxTells.j0 k bt299.1 bt303.1 true d n l d n l))))))) (fun k => ?_) (Ev.bind (format_ev d n l (by omega)) ?_)
    · show arrearslaw20_LockboxTells.f k d n l = _
      unfold arrearslaw20_LockboxTells.f
      rw [if_neg hl, own_f d n l (by omega)]
      simp only [Option.bind_some]
    · refine Ev.bind (formatRef_ev d n l (by omega)) (f := fun k bt303 => (if (hasB d n l != bt303.2) = true then (arrearslaw20_LockboxTells.j0 k (fmt d n l) bt303.1 true d n l d n l) else ((arrearslaw19_SameBytes.f (fmt d n l) bt303.1).bind fun t307 => (if t307 = true then ((arrearslaw20_sameBatch.f k d n l d n l).bind fun t308 => (arrearslaw20_LockboxTells.j0 k (fmt d n l) bt303.1 (!t308) d n l d n l)) else (arrearslaw20_LockboxTells.j0 k (fmt d n l) bt303.1 true d n l d n l))))) ?_
      simp only [bne_self_eq_false, Bool.false_eq_true, if_false, same_f _ (by omega : (fmt d n l).length ≤ 10000000), Option.bind_some, if_true]
      exact Ev.bind (sameBatch_self d n l (by omega)) (f := fun k t308 => (arrearslaw20_LockboxTells.j0 k (fmt d n l) (fmt d n l) (!t308) d n l d n l)) (law_j0 d n l hl')
end Go.Proofs.YtkjdmbbaacjpmaaDoor.Tells
end
section
namespace Go.Proofs.YtkjdmbbaacjpmaaDoor.Tells
open Go.Joins Go.ChangeShapes Go.WideShapes Go.RowKit Go.Deep
open Go.Proofs.YtkjdmbbaacjpmaaDoor.T Go.Proofs.YtkjdmbbaacjpmaaDoorW.PrintWords
theorem tab_of_row {W : World} (h : laidMet Tryd.prog Rows.lockboxTellsRow.laid W) : C.Tab W :=
  ⟨Lib.tabIs_of_head (rest := []) (zs := Lib.pow10Tab) (g := 2) (by kernel_rfl) (by kernel_rfl) Tryd.underlying142 Tryd.underlying133 (by kernel_rfl) (by kernel_rfl) (h.filter fun x => x.1 == "internal/strconv.uint64pow10"),
   Lib.tabIs_of_head (rest := []) (zs := C.aheadTab) (g := 1) (by kernel_rfl) (by kernel_rfl) Tryd.underlying114 Tryd.underlying3 (by kernel_rfl) (by kernel_rfl) (h.filter fun x => x.1 == "arrears/calendar.ahead")⟩
theorem tells_walk {w' : World} (d n : Int) (A : Option Addr) (c : Nat) (l : List S50) (hr : Kd.C k50 w' A l.length l) (hc : l.length ≤ c) (_w : World) (htab : C.Tab w') :
    Calls Tryd.prog 5 #[.agg #[.int .i64 d, .int .i64 n, .slice A l.length c]] w' fun e w1 => e = .returned (.bool true) ∧ Below w'.heap.size w' w1 := by
  obtain ⟨k, hk⟩ := (tells_ev d n l).rounds
  exact arrearslaw20_LockboxTells.calls k d n A c l true w' hr hc hk ⟨htab⟩
theorem list_of {α : Type} (P : Nat → α → Prop) (n : Nat) (h : ∀ i, i < n → ∃ x, P i x) : ∃ l : List α, l.length = n ∧ ∀ j p, l[j]? = some p → P j p := by
  induction n with
  | zero => exact ⟨[], rfl, fun j p hp => by simp at hp⟩
  | succ n ih =>
    obtain ⟨l, hl, hp⟩ := ih (fun i hi => h i (by omega))
    obtain ⟨x, hx⟩ := h n (by omega)
    refine ⟨l ++ [x], by simp [hl], fun j p hj => ?_⟩
    by_cases hjn : j < n
    · rw [List.getElem?_append_left (by omega)] at hj; exact hp j p hj
    · have hj' := hj
      have : j < (l ++ [x]).length := (List.getElem?_eq_some_iff.1 hj').1
      have hjn' : j = n := by simp [hl] at this; omega
      subst hjn'
      rw [List.getElem?_append_right (by omega), hl] at hj
      simp at hj
      exact hj ▸ hx
section
variable {H : Type} {enc : TypeId × Value → H} {P : Program} {w : World} {base : Nat} {spare : Nat → Bool} {held : Bool}
theorem open_slice_fields {t e : TypeId} {fs : Array Field} {fuel : Nat} {cs : List Value} {x : DataW H × List MemPlace} (ht : P.underlying t = some (.slice e)) (he : P.underlying e = some (.struct fs))
    (hone : oneCellFields P fs = true) (hC : P.cellsOf e = fs.size) (h : DataW.trod enc P w base spare held fuel t cs = some x) :
    (cs = [.slice none 0 0] ∧ x = (.nil, [])) ∨
    ∃ (a : Addr) (len cap m : Nat) (D : Nat → DataW H) (Pl : Nat → List MemPlace), cs = [.slice (some a) len cap] ∧ base ≤ a.block ∧ len ≤ cap ∧ cap ≤ maxLen ∧ m = (if spare a.block then cap else len) ∧
      x = (.slice ((List.range len).map D) ((List.range (m - len)).map fun j => D (len + j)), MemPlace.row a (m * fs.size) ++ (List.range m).flatMap Pl) ∧
      ∀ i, i < m → ∃ (ys : List (DataW H × List MemPlace)) (n : Nat), D i = .agg (ys.map (·.1)) ∧ Pl i = ys.flatMap (·.2) ∧ ys.length = fs.size ∧
        ∀ (j : Nat) (f : Field), fs[j]? = some f → ∃ (v : Value) (y : DataW H × List MemPlace), w.cell? (a.add (i * fs.size + j)) = some v ∧ ys[j]? = some y ∧ DataW.trod enc P w base spare held n f.type [v] = some y := by
  rcases open_slice ht h with h0 | ⟨a, len, cap, m, n, D, Pl, hcs, hb, hl, hm, hmm, hx, hi⟩
  · exact .inl h0
  · refine .inr ⟨a, len, cap, m, D, Pl, hcs, hb, hl, hm, hmm, by rw [hC] at hx; exact hx, fun i him => ?_⟩
    obtain ⟨cs', hc, ht'⟩ := hi i him
    rw [hC] at hc
    obtain ⟨ys, n', hn', hy, hlen, hyl, hf⟩ := DataW.trod_struct he ht'
    obtain ⟨_, hcl, hat⟩ := World.cells?_some hc
    simp only [Prod.mk.injEq] at hy
    refine ⟨ys, n', hy.1, hy.2, hyl, fun j f hj => ?_⟩
    obtain ⟨ho, hk⟩ := hone_of hone j f hj
    have hjl : j < fs.size := (Array.getElem?_eq_some_iff.1 hj).1
    have hcell := hat j hjl
    have hv : cs'[j]? = some (cs'[j]'(by omega)) := List.getElem?_eq_getElem (by omega)
    have h1 := hf j f hj
    rw [ho, hk] at h1
    have hone' : (cs'.drop j).take 1 = [cs'[j]'(by omega)] := by
      rw [List.drop_eq_getElem_cons (by omega)]
      rfl
    rw [hone'] at h1
    have hys : ys[j]? = some (ys[j]'(by omega)) := List.getElem?_eq_getElem (by omega)
    refine ⟨_, _, ?_, hys, h1.trans hys⟩
    rw [← Go.Deep.add_add, hcell, hv]
end
set_option maxRecDepth 100000 in
theorem open_batch {H : Type} {enc : TypeId × Value → H} {W : World} {base b0 : Nat} {r : Reach} {v : Value} {d : DataW H} {p : List MemPlace}
    (hv : Value.okWide Tryd.prog W r b0 32 v) (h : DataW.Trod enc Tryd.prog W base (fun _ => true) true 32 v d p) :
    ∃ (a0 n0 : Int) (A : Option Addr) (c : Nat) (l : List S50), v = .agg #[.int .i64 a0, .int .i64 n0, .slice A l.length c] ∧ Kd.C k50 W A l.length l ∧ l.length ≤ c := by
  obtain ⟨v0, v1, v2, y0, y1, y2, n, rfl, rfl, rfl, h0, h1, h2⟩ := open_agg3 Tryd.underlying32 (by kernel_rfl) (by kernel_rfl) hv h
  obtain ⟨z0, e0, _, _⟩ := DataW.trod_int Tryd.underlying3 h0
  obtain ⟨z1, e1, _, _⟩ := DataW.trod_int Tryd.underlying3 h1
  simp only [List.cons.injEq, and_true] at e0 e1
  subst e0; subst e1
  rcases open_slice_fields Tryd.underlying30 Tryd.underlying50 (by kernel_rfl) (by kernel_rfl) h2 with ⟨hcs, _⟩ | ⟨a, len, cap, m, D, Pl, hcs, _, hl, hm, hmm, _, hi⟩
  · simp only [List.cons.injEq, and_true] at hcs
    subst hcs
    exact ⟨z0, z1, none, 0, [], rfl, ⟨rfl, by simp, fun h => by simp at h⟩, by simp⟩
  · simp only [List.cons.injEq, and_true] at hcs
    subst hcs
    have hx : ∀ i, i < len → ∃ x : S50, W.cell? (a.add (i * 2 + 0)) = some (.int .i64 x.f0) ∧ W.cell? (a.add (i * 2 + 1)) = some (.int .i64 x.f1) := by
      intro i hil
      obtain ⟨ys, n', _, _, _, hf⟩ := hi i (by rw [hmm, if_pos rfl]; omega)
      obtain ⟨u0, t0, c0, _, k0⟩ := hf 0 _ rfl
      obtain ⟨u1, t1, c1, _, k1⟩ := hf 1 _ rfl
      obtain ⟨x0, g0, _, _⟩ := DataW.trod_int Tryd.underlying3 k0
      obtain ⟨x1, g1, _, _⟩ := DataW.trod_int Tryd.underlying2 k1
      simp only [List.cons.injEq, and_true] at g0 g1
      subst g0; subst g1
      exact ⟨⟨x0, x1⟩, c0, c1⟩
    obtain ⟨l, hll, hp⟩ := list_of (fun i (x : S50) => W.cell? (a.add (i * 2 + 0)) = some (.int .i64 x.f0) ∧ W.cell? (a.add (i * 2 + 1)) = some (.int .i64 x.f1)) len hx
    subst hll
    refine ⟨z0, z1, some a, cap, l, rfl, ⟨rfl, ?_, fun _ => ⟨a, rfl, fun j q hj => ?_⟩⟩, hl⟩
    · simp only [maxLen] at hm; omega
    · obtain ⟨c0, c1⟩ := hp j q hj
      refine ⟨_, rfl, k50_mk W q, fun i u hu => ?_⟩
      match i, hu with
      | 0, hu => simp at hu; subst hu; exact c0
      | 1, hu => simp at hu; subst hu; exact c1
end Go.Proofs.YtkjdmbbaacjpmaaDoor.Tells
end
