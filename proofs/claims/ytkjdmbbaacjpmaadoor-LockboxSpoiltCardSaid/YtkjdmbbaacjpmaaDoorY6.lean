-- Texts of this claim, joined and cut down to what it uses (a program of this session).
import Derived.Test.YtkjdmbbaacjpmaaDoorY5
section
namespace Go.Proofs.YtkjdmbbaacjpmaaDoor.FmtR
open Go.RowKit Go.Proofs.YtkjdmbbaacjpmaaDoor.R Go.Proofs.YtkjdmbbaacjpmaaDoor.Scan Go.Proofs.YtkjdmbbaacjpmaaDoor.Reader Go.Proofs.YtkjdmbbaacjpmaaDoor.Reads Go.Proofs.YtkjdmbbaacjpmaaDoor.Num Go.Proofs.YtkjdmbbaacjpmaaDoor.Cal Go.Proofs.YtkjdmbbaacjpmaaDoorW.PrintWords
set_option linter.unusedVariables false
set_option linter.unusedSimpArgs false
theorem dec_dig : ∀ (k : Nat) (x : Int), (dec k x).all isDig = true
  | 0, _ => rfl
  | k + 1, x => by
    rw [dec, List.all_append, dec_dig k]
    simp [isDig]; omega
theorem val_dec : ∀ (k : Nat) (x : Int), 0 ≤ x → x < 10 ^ k → valFrom 0 (dec k x) = x
  | 0, x, h0, h => by simp at h; simp [dec, valFrom]; omega
  | k + 1, x, h0, h => by
    rw [Int.pow_succ] at h
    rw [dec, valFrom_append, val_dec k (x / 10) (by omega) (by omega)]
    omega
theorem dec_val : ∀ (k : Nat) (ds : List Int), ds.length = k → ds.all isDig = true → dec k (valFrom 0 ds) = ds
  | 0, ds, h, _ => by rw [List.eq_nil_of_length_eq_zero h]; rfl
  | k + 1, ds, h, hd => by
    have hne : ds ≠ [] := by intro h2; rw [h2] at h; simp at h
    obtain ⟨l, c, rfl⟩ : ∃ l c, ds = l ++ [c] := ⟨ds.dropLast, ds.getLast hne, (List.dropLast_concat_getLast hne).symm⟩
    rw [List.all_append, Bool.and_eq_true] at hd
    have hc : 48 ≤ c ∧ c ≤ 57 := by have := hd.2; simpa [isDig] using this
    have hl : l.length = k := by simpa using h
    have hv := valFrom_range l 0 (by omega) hd.1
    have e := dec_val k l hl hd.1
    rw [valFrom_append, dec, show (10 * valFrom 0 l + (c - 48)) / 10 = valFrom 0 l by omega, e, show 48 + (10 * valFrom 0 l + (c - 48)) % 10 = c by omega]
theorem dig_ne {l : List Int} (h : l.all isDig = true) : ∀ c ∈ l, c ≠ 10 := by
  intro c hc
  rw [List.all_eq_true] at h
  have := h c hc
  simp [isDig] at this; omega
theorem eol_app : ∀ (t r : List Int), (∀ c ∈ t, c ≠ 10) → eol (t ++ 10 :: r) = t.length
  | [], r, _ => by simp [eol]
  | x :: t, r, h => by
    have hx : x ≠ 10 := h x (by simp)
    rw [List.cons_append, eol, if_neg hx, eol_app t r (fun c hc => h c (by simp [hc])), List.length_cons]
theorem eol_split : ∀ (xs : List Int), eol xs < xs.length → xs = xs.take (eol xs) ++ 10 :: xs.drop (eol xs + 1)
  | [], h => by simp at h
  | x :: t, h => by
    by_cases hx : x = 10
    · have e : eol (x :: t) = 0 := by simp [eol, hx]
      rw [e]; simp [hx]
    · have e : eol (x :: t) = eol t + 1 := by simp [eol, hx]
      rw [e] at h ⊢
      have := eol_split t (by simpa using h)
      rw [List.take_succ_cons, List.cons_append, List.drop_succ_cons]
      rw [← this]
theorem nextP_app {t r : List Int} {letter : Int} {n : Nat} (hl : lineOk t letter n = true) (h : ∀ c ∈ t, c ≠ 10) : nextP (t ++ 10 :: r) letter n = some (t, r) := by
  have he := eol_app t r h
  unfold nextP
  have ht : (t ++ 10 :: r).take t.length = t := List.take_left
  have hd : (t ++ 10 :: r).drop (t.length + 1) = r := by
    rw [← List.drop_drop, List.drop_left]; rfl
  rw [he, ht, hd, if_pos ⟨by simp, hl⟩]
theorem cut3 (t p q r : List Int) (a n : Nat) (ht : t = p ++ q ++ r) (h1 : p.length = a) (h2 : q.length = n) : (t.drop a).take n = q := by
  subst h1 h2 ht
  rw [List.append_assoc, List.drop_left, List.take_left]
theorem take_more (t : List Int) (a n : Nat) : t.drop a = (t.drop a).take n ++ t.drop (a + n) := by
  rw [← List.drop_drop, List.take_append_drop]
def itm (i : Nat) (x : S50) : List Int := [68] ++ dec 4 ((i + 1 : Nat) : Int) ++ dec 6 x.f0 ++ dec 1 (DDigits.digitOf x.f0) ++ dec 12 x.f1
def trm (l : List S50) : List Int := [84] ++ dec 4 (l.length : Int) ++ dec 16 (tot l 0 0).1 ++ dec 10 (tot l 0 0).2
def hdm (d n : Int) : List Int := [72] ++ dec 4 (CivilPure.civ d).1 ++ dec 2 (CivilPure.civ d).2.1 ++ dec 2 (CivilPure.civ d).2.2 ++ dec 6 n
theorem line_ok (letter : Int) (s : List Int) (n : Nat) (hn : s.length = n) (hd : s.all isDig = true) : lineOk (letter :: s) letter n = true := by
  simp [lineOk, hn]
  simpa [List.all_eq_true] using hd
theorem line_ne (letter : Int) (hl : letter ≠ 10) (s : List Int) (hd : s.all isDig = true) : ∀ c ∈ letter :: s, c ≠ 10 := by
  intro c hc
  rcases List.mem_cons.1 hc with rfl | hc
  · exact hl
  · exact dig_ne hd c hc
theorem tot_totF : ∀ (l : List S50) (s h : Int), l.all goodB = true → 0 ≤ s → s + 999999999999 * l.length ≤ 9999999999990000 → 0 ≤ h → h < 10000000000 → totF (s, h) l = tot l s h
  | [], s, h, _, _, _, _, _ => rfl
  | x :: t, s, h, hg, h0, h1, h2, h3 => by
    rw [List.all_cons, Bool.and_eq_true] at hg
    have hx : 1 ≤ x.f0 ∧ x.f0 ≤ 999999 ∧ 1 ≤ x.f1 ∧ x.f1 ≤ 999999999999 := of_decide_eq_true hg.1
    simp only [List.length_cons] at h1
    have e1 : wrap64 (s + x.f1) = s + x.f1 := Reads.wrI (by omega) (by omega)
    have e2 : wrap64 (h + x.f0) = h + x.f0 := Reads.wrI (by omega) (by omega)
    have e3 : Int.tmod (h + x.f0) 10000000000 = (h + x.f0) % 10000000000 := Int.tmod_eq_emod_of_nonneg (by omega)
    have ih := tot_totF t (s + x.f1) ((h + x.f0) % 10000000000) hg.2 (by omega) (by omega) (by omega) (by omega)
    simp only [totF, tot]
    rw [e1, e2, e3, ih]
theorem totP_tot (l : List S50) (hg : l.all goodB = true) (hl : l.length ≤ 9999) : totP l = tot l 0 0 := tot_totF l 0 0 hg (by omega) (by omega) (by omega) (by omega)
theorem trl_read (l : List S50) (hg : l.all goodB = true) (hl : l.length ≤ 9999) : trlP (trl l) l = .ok [] := by
  have hr := tot_range l 0 0 hg (by omega) (by omega) (by omega)
  have hs : trl l = trm l ++ 10 :: [] := rfl
  have ed : (dec 4 (l.length : Int) ++ dec 16 (tot l 0 0).1 ++ dec 10 (tot l 0 0).2).all isDig = true := by simp only [List.all_append, dec_dig, Bool.and_self]
  have en : (dec 4 (l.length : Int) ++ dec 16 (tot l 0 0).1 ++ dec 10 (tot l 0 0).2).length = 30 := by simp [dec_length]
  have ec : trm l = 84 :: (dec 4 (l.length : Int) ++ dec 16 (tot l 0 0).1 ++ dec 10 (tot l 0 0).2) := rfl
  have hk : lineOk (trm l) 84 30 = true := by rw [ec]; exact line_ok 84 _ 30 en ed
  have hn : ∀ c ∈ trm l, c ≠ 10 := by rw [ec]; exact line_ne 84 (by decide) _ ed
  unfold trlP
  rw [hs, nextP_app hk hn]
  have f1 : fieldP (trm l) 1 4 = l.length := by
    unfold fieldP
    rw [cut3 (trm l) [84] (dec 4 (l.length : Int)) (dec 16 (tot l 0 0).1 ++ dec 10 (tot l 0 0).2) 1 4 (by simp [trm]) rfl (dec_length _ _)]
    exact val_dec 4 _ (by omega) (by have : (10 : Int) ^ 4 = 10000 := by decide
                                     omega)
  have f2 : fieldP (trm l) 5 16 = (tot l 0 0).1 := by
    unfold fieldP
    rw [cut3 (trm l) ([84] ++ dec 4 (l.length : Int)) (dec 16 (tot l 0 0).1) (dec 10 (tot l 0 0).2) 5 16 (by simp [trm]) (by simp [dec_length]) (dec_length _ _)]
    exact val_dec 16 _ (by omega) (by have : (10 : Int) ^ 16 = 10000000000000000 := by decide
                                      omega)
  have f3 : fieldP (trm l) 21 10 = (tot l 0 0).2 := by
    unfold fieldP
    rw [cut3 (trm l) ([84] ++ dec 4 (l.length : Int) ++ dec 16 (tot l 0 0).1) (dec 10 (tot l 0 0).2) [] 21 10 (by simp [trm]) (by simp [dec_length]) (dec_length _ _)]
    exact val_dec 10 _ (by omega) (by have : (10 : Int) ^ 10 = 10000000000 := by decide
                                      omega)
  simp only
  rw [totP_tot l hg hl, if_pos ⟨f1, f2.symm, f3.symm⟩]
theorem itl_read (i : Nat) (x : S50) (r : List Int) (hx : goodB x = true) (hi : i < 9999) : detP (itl i x ++ r) ((i + 1 : Nat) : Int) = .ok (x, r) := by
  have hg : 1 ≤ x.f0 ∧ x.f0 ≤ 999999 ∧ 1 ≤ x.f1 ∧ x.f1 ≤ 999999999999 := of_decide_eq_true hx
  have hc := digit_range x.f0
  have hs : itl i x ++ r = itm i x ++ 10 :: r := by unfold itl itm; simp
  have ed : (dec 4 ((i + 1 : Nat) : Int) ++ dec 6 x.f0 ++ dec 1 (DDigits.digitOf x.f0) ++ dec 12 x.f1).all isDig = true := by simp only [List.all_append, dec_dig, Bool.and_self]
  have en : (dec 4 ((i + 1 : Nat) : Int) ++ dec 6 x.f0 ++ dec 1 (DDigits.digitOf x.f0) ++ dec 12 x.f1).length = 23 := by simp [dec_length]
  have ec : itm i x = 68 :: (dec 4 ((i + 1 : Nat) : Int) ++ dec 6 x.f0 ++ dec 1 (DDigits.digitOf x.f0) ++ dec 12 x.f1) := rfl
  have hk : lineOk (itm i x) 68 23 = true := by rw [ec]; exact line_ok 68 _ 23 en ed
  have hn : ∀ c ∈ itm i x, c ≠ 10 := by rw [ec]; exact line_ne 68 (by decide) _ ed
  have f1 : fieldP (itm i x) 1 4 = ((i + 1 : Nat) : Int) := by
    unfold fieldP
    rw [cut3 (itm i x) [68] (dec 4 ((i + 1 : Nat) : Int)) (dec 6 x.f0 ++ dec 1 (DDigits.digitOf x.f0) ++ dec 12 x.f1) 1 4 (by simp [itm]) rfl (dec_length _ _)]
    exact val_dec 4 _ (by omega) (by have : (10 : Int) ^ 4 = 10000 := by decide
                                     omega)
  have f2 : fieldP (itm i x) 5 6 = x.f0 := by
    unfold fieldP
    rw [cut3 (itm i x) ([68] ++ dec 4 ((i + 1 : Nat) : Int)) (dec 6 x.f0) (dec 1 (DDigits.digitOf x.f0) ++ dec 12 x.f1) 5 6 (by simp [itm]) (by simp [dec_length]) (dec_length _ _)]
    exact val_dec 6 _ (by omega) (by have : (10 : Int) ^ 6 = 1000000 := by decide
                                     omega)
  have f3 : fieldP (itm i x) 11 1 = DDigits.digitOf x.f0 := by
    unfold fieldP
    rw [cut3 (itm i x) ([68] ++ dec 4 ((i + 1 : Nat) : Int) ++ dec 6 x.f0) (dec 1 (DDigits.digitOf x.f0)) (dec 12 x.f1) 11 1 (by simp [itm]) (by simp [dec_length]) (dec_length _ _)]
    exact val_dec 1 _ (by omega) (by have : (10 : Int) ^ 1 = 10 := by decide
                                     omega)
  have f4 : fieldP (itm i x) 12 12 = x.f1 := by
    unfold fieldP
    rw [cut3 (itm i x) ([68] ++ dec 4 ((i + 1 : Nat) : Int) ++ dec 6 x.f0 ++ dec 1 (DDigits.digitOf x.f0)) (dec 12 x.f1) [] 12 12 (by simp [itm]) (by simp [dec_length]) (dec_length _ _)]
    exact val_dec 12 _ (by omega) (by have : (10 : Int) ^ 12 = 1000000000000 := by decide
                                      omega)
  have htl : (itm i x).length = 24 := by simp [itm, dec_length]
  have hv := valid_check (t := itm i x) (by omega) ((lineOk_dig hk).2 5 7 (by omega))
  rw [f2, f3, beq_self_eq_true] at hv
  unfold detP
  rw [hs, nextP_app hk hn]
  simp only
  rw [f1, f2, f4, hv, if_neg (by omega), if_neg (by simp), if_neg (fun h => h rfl)]
theorem items_read (L : List S50) (hL : L.length ≤ 9999) (hL1 : 1 ≤ L.length) (hg : L.all goodB = true) : ∀ (l : List S50) (f : Nat) (acc : List S50), acc ++ l = L → l.length < f →
    loopP f (itls acc.length l ++ trl L) ((acc.length + 1 : Nat) : Int) acc = .ok L := by
  intro l
  induction l with
  | nil =>
    intro f acc hacc hf
    obtain ⟨f, rfl⟩ : ∃ m, f = m + 1 := ⟨f - 1, by omega⟩
    have e : acc = L := by simpa using hacc
    subst e
    have hb : brk (itls acc.length [] ++ trl acc) ((acc.length + 1 : Nat) : Int) = true := by
      have h1 : decide (1 < ((acc.length + 1 : Nat) : Int)) = true := decide_eq_true (by omega)
      unfold brk
      rw [h1]
      simp [itls, trl]
    rw [loopP, if_pos hb]
    unfold endP
    have : itls acc.length [] ++ trl acc = trl acc := rfl
    rw [this, trl_read acc hg hL]
    simp
  | cons x t ih =>
    intro f acc hacc hf
    obtain ⟨f, rfl⟩ : ∃ m, f = m + 1 := ⟨f - 1, by simp at hf; omega⟩
    have hlen : acc.length + (t.length + 1) = L.length := by rw [← hacc]; simp
    have hgx : goodB x = true := by
      rw [← hacc] at hg
      simp only [List.all_append, List.all_cons, Bool.and_eq_true] at hg
      exact hg.2.1
    have hb : brk (itls acc.length (x :: t) ++ trl L) ((acc.length + 1 : Nat) : Int) = false := by
      have h9 : decide (9999 < ((acc.length + 1 : Nat) : Int)) = false := decide_eq_false (by omega)
      unfold brk
      rw [h9]
      simp [itls, itl]
    have hsp : itls acc.length (x :: t) ++ trl L = itl acc.length x ++ (itls (acc.length + 1) t ++ trl L) := by rw [itls, List.append_assoc]
    rw [loopP, hb, if_neg (by simp), hsp, itl_read acc.length x _ hgx (by omega)]
    simp only
    have e := ih f (acc ++ [x]) (by rw [List.append_assoc]; exact hacc) (by simp at hf; omega)
    rw [List.length_append, List.length_singleton] at e
    have ek : (((acc.length + 1 : Nat) : Int) + 1) = ((acc.length + 1 + 1 : Nat) : Int) := by omega
    rw [ek]
    exact e
theorem head_read (d n : Int) (r : List Int) (hd : 1 ≤ d ∧ d ≤ 3652059) (hn : 1 ≤ n ∧ n ≤ 999999) : headP (hdl d n ++ r) = some ((d, n), r) := by
  have hI := CivilPure.civ_date hd
  have hy1 := hI.y1
  have hy2 := hI.y2
  have hm1 := hI.m1
  have hm2 := hI.m2
  have hd1 := hI.d1
  have hd2 := hI.d2
  have hnum := hI.num
  have hml := mlen_range (CivilPure.civ d).1 (CivilPure.civ d).2.1
  have hs : hdl d n ++ r = hdm d n ++ 10 :: r := by unfold hdl hdm; simp
  have ed : (dec 4 (CivilPure.civ d).1 ++ dec 2 (CivilPure.civ d).2.1 ++ dec 2 (CivilPure.civ d).2.2 ++ dec 6 n).all isDig = true := by simp only [List.all_append, dec_dig, Bool.and_self]
  have en : (dec 4 (CivilPure.civ d).1 ++ dec 2 (CivilPure.civ d).2.1 ++ dec 2 (CivilPure.civ d).2.2 ++ dec 6 n).length = 14 := by simp [dec_length]
  have ec : hdm d n = 72 :: (dec 4 (CivilPure.civ d).1 ++ dec 2 (CivilPure.civ d).2.1 ++ dec 2 (CivilPure.civ d).2.2 ++ dec 6 n) := rfl
  have hk : lineOk (hdm d n) 72 14 = true := by rw [ec]; exact line_ok 72 _ 14 en ed
  have hne : ∀ c ∈ hdm d n, c ≠ 10 := by rw [ec]; exact line_ne 72 (by decide) _ ed
  have p4 : (10 : Int) ^ 4 = 10000 := by decide
  have p2 : (10 : Int) ^ 2 = 100 := by decide
  have p6 : (10 : Int) ^ 6 = 1000000 := by decide
  have f1 : fieldP (hdm d n) 1 4 = (CivilPure.civ d).1 := by
    unfold fieldP
    rw [cut3 (hdm d n) [72] (dec 4 (CivilPure.civ d).1) (dec 2 (CivilPure.civ d).2.1 ++ dec 2 (CivilPure.civ d).2.2 ++ dec 6 n) 1 4 (by simp [hdm]) rfl (dec_length _ _)]
    exact val_dec 4 _ (by omega) (by omega)
  have f2 : fieldP (hdm d n) 5 2 = (CivilPure.civ d).2.1 := by
    unfold fieldP
    rw [cut3 (hdm d n) ([72] ++ dec 4 (CivilPure.civ d).1) (dec 2 (CivilPure.civ d).2.1) (dec 2 (CivilPure.civ d).2.2 ++ dec 6 n) 5 2 (by simp [hdm]) (by simp [dec_length]) (dec_length _ _)]
    exact val_dec 2 _ (by omega) (by omega)
  have f3 : fieldP (hdm d n) 7 2 = (CivilPure.civ d).2.2 := by
    unfold fieldP
    rw [cut3 (hdm d n) ([72] ++ dec 4 (CivilPure.civ d).1 ++ dec 2 (CivilPure.civ d).2.1) (dec 2 (CivilPure.civ d).2.2) (dec 6 n) 7 2 (by simp [hdm]) (by simp [dec_length]) (dec_length _ _)]
    exact val_dec 2 _ (by omega) (by omega)
  have f4 : fieldP (hdm d n) 9 6 = n := by
    unfold fieldP
    rw [cut3 (hdm d n) ([72] ++ dec 4 (CivilPure.civ d).1 ++ dec 2 (CivilPure.civ d).2.1 ++ dec 2 (CivilPure.civ d).2.2) (dec 6 n) [] 9 6 (by simp [hdm]) (by simp [dec_length]) (dec_length _ _)]
    exact val_dec 6 _ (by omega) (by omega)
  have hh : headD (hdm d n) = (d, true) := by
    unfold headD
    rw [f1, f2, f3]
    unfold numberR
    rw [monthLen_in hy1 hy2 hm1 hm2, if_pos ⟨hd1, hd2⟩, numberOf_eq hy1 hy2 hm1 hm2, hnum]
  unfold headP
  rw [hs, nextP_app hk hne]
  simp only [Option.bind_some]
  rw [hh, f4, if_pos ⟨rfl, by omega⟩]
theorem parse_fmt (d n : Int) (l : List S50) (h : hasB d n l = true) : parseP (fmt d n l) = (d, n, l, 0, 0) := by
  have hh := h
  unfold hasB at h
  rw [Bool.and_eq_true, decide_eq_true_eq] at h
  obtain ⟨⟨d1, d2, n1, n2, l1, l2⟩, hg⟩ := h
  have hi := items_read l l2 l1 hg l 10001 [] rfl (by omega)
  unfold parseP readP fmt
  rw [hh, if_pos rfl, List.append_assoc, head_read d n _ ⟨d1, d2⟩ ⟨n1, n2⟩]
  simp only
  have e : loopP 10001 (itls 0 l ++ trl l) 1 [] = .ok l := hi
  rw [e]
  rfl
end Go.Proofs.YtkjdmbbaacjpmaaDoor.FmtR
end
section
namespace Go.Proofs.YtkjdmbbaacjpmaaDoor.FmtR
open Go.RowKit Go.Proofs.YtkjdmbbaacjpmaaDoor.R Go.Proofs.YtkjdmbbaacjpmaaDoor.Scan Go.Proofs.YtkjdmbbaacjpmaaDoor.Reader Go.Proofs.YtkjdmbbaacjpmaaDoor.Reads Go.Proofs.YtkjdmbbaacjpmaaDoor.Num Go.Proofs.YtkjdmbbaacjpmaaDoor.Cal Go.Proofs.YtkjdmbbaacjpmaaDoorW.PrintWords
set_option linter.unusedVariables false
set_option linter.unusedSimpArgs false
theorem nextP_split {xs t r : List Int} {letter : Int} {n : Nat} (h : nextP xs letter n = some (t, r)) : xs = t ++ 10 :: r ∧ lineOk t letter n = true ∧ ∃ s, t = letter :: s := by
  unfold nextP at h
  split at h
  case isFalse => cases h
  case isTrue hc =>
    simp only [Option.some.injEq, Prod.mk.injEq] at h
    obtain ⟨rfl, rfl⟩ := h
    refine ⟨eol_split xs hc.1, hc.2, ?_⟩
    have h2 := hc.2
    simp only [lineOk, Bool.and_eq_true, decide_eq_true_eq, beq_iff_eq] at h2
    cases hx : xs.take (eol xs) with
    | nil => rw [hx] at h2; simp at h2
    | cons a s => rw [hx] at h2; simp at h2; exact ⟨s, by rw [h2.1.2]⟩
theorem field_dec {t : List Int} {letter : Int} {n : Nat} (h : lineOk t letter n = true) (a k : Nat) (ha : 1 ≤ a) (hk : a + k ≤ n + 1) : (t.drop a).take k = dec k (fieldP t a k) := by
  obtain ⟨hl, hd⟩ := lineOk_dig h
  exact (dec_val k _ (by rw [List.length_take, List.length_drop]; omega) (hd a k ha)).symm
theorem trl_back {xs : List Int} {l : List S50} (h : trlP xs l = .ok []) (hg : l.all goodB = true) (hl : l.length ≤ 9999) : xs = trl l := by
  unfold trlP at h
  cases hn : nextP xs 84 30 with
  | none => rw [hn] at h; cases h
  | some tr =>
    obtain ⟨t, r⟩ := tr
    rw [hn] at h
    simp only at h
    split at h
    · next hc =>
      simp only [Except.ok.injEq] at h
      subst h
      obtain ⟨hx, hk, s, hs⟩ := nextP_split hn
      rw [totP_tot l hg hl] at hc
      have e1 := field_dec hk 1 4 (by omega) (by omega)
      have e2 := field_dec hk 5 16 (by omega) (by omega)
      have e3 := field_dec hk 21 10 (by omega) (by omega)
      rw [hc.1] at e1
      rw [← hc.2.1] at e2
      rw [← hc.2.2] at e3
      have hlen := (lineOk_dig hk).1
      have h0 : t = [84] ++ t.drop 1 := by rw [hs]; rfl
      have h31 : t.drop 31 = [] := List.drop_eq_nil_of_le (by omega)
      have ht : t = trm l := by
        rw [h0, take_more t 1 4, take_more t (1 + 4) 16, take_more t (1 + 4 + 16) 10]
        show [84] ++ ((t.drop 1).take 4 ++ ((t.drop 5).take 16 ++ ((t.drop 21).take 10 ++ t.drop 31))) = _
        rw [e1, e2, e3, h31]
        simp [trm]
      rw [hx, ht]
      rfl
    · cases h
theorem itl_back {xs r : List Int} {i : Nat} {x : S50} (h : detP xs ((i + 1 : Nat) : Int) = .ok (x, r)) : xs = itl i x ++ r ∧ goodB x = true := by
  unfold detP at h
  cases hn : nextP xs 68 23 with
  | none => rw [hn] at h; cases h
  | some tr =>
    obtain ⟨t, r'⟩ := tr
    rw [hn] at h
    simp only at h
    split at h
    · cases h
    · next hz =>
      split at h
      · cases h
      · next hv =>
        split at h
        · cases h
        · next hp =>
          simp only [Except.ok.injEq, Prod.mk.injEq] at h
          obtain ⟨rfl, rfl⟩ := h
          obtain ⟨hx, hk, s, hs⟩ := nextP_split hn
          obtain ⟨hlen, hd⟩ := lineOk_dig hk
          have e1 := field_dec hk 1 4 (by omega) (by omega)
          have e2 := field_dec hk 5 6 (by omega) (by omega)
          have e3 := field_dec hk 11 1 (by omega) (by omega)
          have e4 := field_dec hk 12 12 (by omega) (by omega)
          have hv2 := valid_check (t := t) (by omega) (hd 5 7 (by omega))
          have hv3 : fieldP t 11 1 = DDigits.digitOf (fieldP t 5 6) := by
            rw [hv2] at hv
            simpa using hv
          rw [Classical.not_not.1 hp] at e1
          rw [hv3] at e3
          simp only [not_or] at hz
          have r2 := field_range (hd 5 6 (by omega))
          have r4 := field_range (hd 12 12 (by omega))
          have p6 : (10 : Int) ^ 6 = 1000000 := by decide
          have p12 : (10 : Int) ^ 12 = 1000000000000 := by decide
          rw [p6] at r2
          rw [p12] at r4
          refine ⟨?_, decide_eq_true (show 1 ≤ fieldP t 5 6 ∧ fieldP t 5 6 ≤ 999999 ∧ 1 ≤ fieldP t 12 12 ∧ fieldP t 12 12 ≤ 999999999999 from ⟨by omega, by omega, by omega, by omega⟩)⟩
          have h0 : t = [68] ++ t.drop 1 := by rw [hs]; rfl
          have h24 : t.drop 24 = [] := List.drop_eq_nil_of_le (by omega)
          have ht : t = itm i ⟨fieldP t 5 6, fieldP t 12 12⟩ := by
            have hsplit : t = [68] ++ ((t.drop 1).take 4 ++ ((t.drop 5).take 6 ++ ((t.drop 11).take 1 ++ ((t.drop 12).take 12 ++ t.drop 24)))) := by
              conv => lhs; rw [h0, take_more t 1 4, take_more t (1 + 4) 6, take_more t (1 + 4 + 6) 1, take_more t (1 + 4 + 6 + 1) 12]
            rw [e1, e2, e3, e4, h24] at hsplit
            exact hsplit.trans (by simp [itm])
          rw [hx]
          have e5 : itl i ⟨fieldP t 5 6, fieldP t 12 12⟩ = itm i ⟨fieldP t 5 6, fieldP t 12 12⟩ ++ [10] := rfl
          rw [e5, ← ht]
          simp
theorem loop_back (f : Nat) : ∀ (xs : List Int) (acc L : List S50), acc.all goodB = true → acc.length ≤ 9999 → loopP f xs ((acc.length + 1 : Nat) : Int) acc = .ok L →
    ∃ l, L = acc ++ l ∧ xs = itls acc.length l ++ trl L ∧ L.all goodB = true ∧ 1 ≤ L.length ∧ L.length ≤ 9999 := by
  induction f with
  | zero => intro xs acc L _ _ h; simp [loopP] at h
  | succ f ih =>
    intro xs acc L hg hl h
    rw [loopP] at h
    split at h
    · next hb =>
      unfold endP at h
      split at h
      · cases h
      · next r hr =>
        split at h
        · next hr0 =>
          simp only [Except.ok.injEq] at h
          subst h
          subst hr0
          refine ⟨[], by simp, trl_back hr hg hl, hg, ?_, hl⟩
          unfold brk at hb
          simp only [Bool.or_eq_true, Bool.and_eq_true, decide_eq_true_eq] at hb
          omega
        · cases h
    · next hb =>
      split at h
      · cases h
      · next x r hr =>
        obtain ⟨hx, hgx⟩ := itl_back hr
        have hk : acc.length + 1 ≤ 9999 := by
          simp only [brk, Bool.not_eq_true, Bool.or_eq_false_iff, decide_eq_false_iff_not] at hb
          omega
        have ek : (((acc.length + 1 : Nat) : Int) + 1) = (((acc ++ [x]).length + 1 : Nat) : Int) := by simp
        rw [ek] at h
        obtain ⟨l, h1, h2, h3, h4, h5⟩ := ih r (acc ++ [x]) L (by rw [List.all_append, hg]; simp [hgx]) (by simp; omega) h
        refine ⟨x :: l, by rw [h1]; simp, ?_, h3, h4, h5⟩
        rw [hx, h2, itls, List.length_append, List.length_singleton, List.append_assoc]
theorem head_back {xs r : List Int} {d n : Int} (h : headP xs = some ((d, n), r)) : xs = hdl d n ++ r ∧ (1 ≤ d ∧ d ≤ 3652059) ∧ (1 ≤ n ∧ n ≤ 999999) := by
  unfold headP at h
  cases hn : nextP xs 72 14 with
  | none => rw [hn] at h; simp at h
  | some tr =>
    obtain ⟨t, r'⟩ := tr
    rw [hn] at h
    simp only [Option.bind_some] at h
    split at h
    · next hc =>
      simp only [Option.some.injEq, Prod.mk.injEq] at h
      obtain ⟨⟨hd, hnn⟩, rfl⟩ := h
      obtain ⟨hx, hk, s, hs⟩ := nextP_split hn
      obtain ⟨hlen, hdg⟩ := lineOk_dig hk
      have e1 := field_dec hk 1 4 (by omega) (by omega)
      have e2 := field_dec hk 5 2 (by omega) (by omega)
      have e3 := field_dec hk 7 2 (by omega) (by omega)
      have e4 := field_dec hk 9 6 (by omega) (by omega)
      have r1 := field_range (hdg 1 4 (by omega))
      have r4 := field_range (hdg 9 6 (by omega))
      have p4 : (10 : Int) ^ 4 = 10000 := by decide
      have p6 : (10 : Int) ^ 6 = 1000000 := by decide
      rw [p4] at r1
      rw [p6] at r4
      obtain ⟨hc1, hc2⟩ := hc
      unfold headD numberR at hc1 hd
      by_cases hok : 1 ≤ fieldP t 7 2 ∧ fieldP t 7 2 ≤ monthLen (fieldP t 1 4) (fieldP t 5 2)
      · rw [if_pos hok] at hd
        simp only at hd
        have hr : 1 ≤ fieldP t 1 4 ∧ fieldP t 1 4 ≤ 9999 ∧ 1 ≤ fieldP t 5 2 ∧ fieldP t 5 2 ≤ 12 := by
          apply Classical.byContradiction
          intro hnn2
          have : monthLen (fieldP t 1 4) (fieldP t 5 2) = 0 := by unfold monthLen; rw [if_neg hnn2]
          omega
        obtain ⟨a1, a2, a3, a4⟩ := hr
        rw [numberOf_eq a1 a2 a3 a4] at hd
        rw [monthLen_in a1 a2 a3 a4] at hok
        have hI : IsDate d (fieldP t 1 4) (fieldP t 5 2) (fieldP t 7 2) := ⟨a1, a2, a3, a4, hok.1, hok.2, hd⟩
        have hin := hI.inyear
        have hdb : 0 ≤ dby (fieldP t 1 4) := by unfold dby; omega
        have hdb2 : dby (fieldP t 1 4 + 1) ≤ 3652059 := by unfold dby; omega
        have hciv := CivilPure.civ_of hI (by omega) (by omega)
        refine ⟨?_, ⟨by omega, by omega⟩, by omega, by omega⟩
        have h15 : t.drop 15 = [] := List.drop_eq_nil_of_le (by omega)
        have h0 : t = [72] ++ t.drop 1 := by rw [hs]; rfl
        have hsplit : t = [72] ++ ((t.drop 1).take 4 ++ ((t.drop 5).take 2 ++ ((t.drop 7).take 2 ++ ((t.drop 9).take 6 ++ t.drop 15)))) := by
          conv => lhs; rw [h0, take_more t 1 4, take_more t (1 + 4) 2, take_more t (1 + 4 + 2) 2, take_more t (1 + 4 + 2 + 2) 6]
        rw [e1, e2, e3, e4, h15, hnn] at hsplit
        have ht : t = hdm d n := by
          unfold hdm
          rw [hciv]
          exact hsplit.trans (by simp)
        have e5 : hdl d n = hdm d n ++ [10] := rfl
        rw [hx, e5, ← ht]
        simp
      · rw [if_neg hok] at hc1
        cases hc1
    · cases h
theorem trl_err {xs : List Int} {l : List S50} {c : Int} (h : trlP xs l = .error c) : c ≠ 0 := by
  unfold trlP at h
  split at h
  · simp only [Except.error.injEq] at h; omega
  · split at h
    · cases h
    · simp only [Except.error.injEq] at h; omega
theorem det_err {xs : List Int} {k c : Int} (h : detP xs k = .error c) : c ≠ 0 := by
  unfold detP at h
  split at h
  · simp only [Except.error.injEq] at h; omega
  · split at h
    · simp only [Except.error.injEq] at h; omega
    · split at h
      · simp only [Except.error.injEq] at h; omega
      · split at h
        · simp only [Except.error.injEq] at h; omega
        · cases h
theorem loop_err (f : Nat) : ∀ (xs : List Int) (k : Nat) (l : List S50) (c k' : Int), f + k ≥ 10002 → k ≤ 10000 → loopP f xs k l = .error (c, k') → c ≠ 0 := by
  induction f with
  | zero => intro xs k l c k' h1 h2; omega
  | succ f ih =>
    intro xs k l c k' h1 h2 h
    rw [loopP] at h
    split at h
    · unfold endP at h
      split at h
      · next c' hc' =>
        simp only [Except.error.injEq, Prod.mk.injEq] at h
        obtain ⟨rfl, _⟩ := h
        exact trl_err hc'
      · split at h
        · cases h
        · simp only [Except.error.injEq, Prod.mk.injEq] at h; omega
    · next hb =>
      split at h
      · next c' hc' =>
        simp only [Except.error.injEq, Prod.mk.injEq] at h
        obtain ⟨rfl, _⟩ := h
        exact det_err hc'
      · next x r hr =>
        have hk : k ≤ 9999 := by
          simp only [brk, Bool.not_eq_true, Bool.or_eq_false_iff, decide_eq_false_iff_not] at hb
          omega
        exact ih r (k + 1) (l ++ [x]) c k' (by omega) (by omega) (by rw [Int.natCast_add]; exact h)
theorem parse_cases (xs : List Int) : (∃ d n l, parseP xs = (d, n, l, 0, 0) ∧ hasB d n l = true ∧ fmt d n l = xs) ∨ (∃ c k, parseP xs = (0, 0, [], c, k) ∧ c ≠ 0) := by
  unfold parseP readP
  cases hh : headP xs with
  | none => exact .inr ⟨200, 0, rfl, by decide⟩
  | some p =>
    obtain ⟨⟨d, n⟩, r⟩ := p
    simp only
    obtain ⟨hx, hd, hn⟩ := head_back hh
    cases hl : loopP 10001 r 1 [] with
    | error e =>
      obtain ⟨c, k⟩ := e
      exact .inr ⟨c, k, rfl, loop_err 10001 r 1 [] c k (by omega) (by omega) hl⟩
    | ok L =>
      obtain ⟨l, h1, h2, h3, h4, h5⟩ := loop_back 10001 r [] L rfl (by simp) hl
      have hLl : L = l := by simpa using h1
      subst hLl
      have hb : hasB d n L = true := by
        unfold hasB
        rw [h3, Bool.and_true, decide_eq_true_eq]
        exact ⟨hd.1, hd.2, hn.1, hn.2, h4, h5⟩
      refine .inl ⟨d, n, L, rfl, hb, ?_⟩
      unfold fmt
      rw [hb, if_pos rfl, hx, h2, List.append_assoc]
      rfl
theorem hdl_length (d n : Int) : (hdl d n).length = 16 := by simp [hdl, dec_length]
theorem trl_length (l : List S50) : (trl l).length = 32 := by simp [trl, dec_length]
theorem fmt_len {d n : Int} {l : List S50} (h : hasB d n l = true) : (fmt d n l).length = 48 + 25 * l.length := by
  unfold fmt
  rw [if_pos h]
  simp only [List.length_append, hdl_length, trl_length, itls_length]
  omega
theorem dec_inj {k : Nat} {x y : Int} (hx : 0 ≤ x ∧ x < 10 ^ k) (hy : 0 ≤ y ∧ y < 10 ^ k) (h : dec k x = dec k y) : x = y := by
  rw [← val_dec k x hx.1 hx.2, ← val_dec k y hy.1 hy.2, h]
theorem itl_inj {i : Nat} {x y : S50} (hx : goodB x = true) (hy : goodB y = true) (h : itl i x = itl i y) : x = y := by
  have gx : 1 ≤ x.f0 ∧ x.f0 ≤ 999999 ∧ 1 ≤ x.f1 ∧ x.f1 ≤ 999999999999 := of_decide_eq_true hx
  have gy : 1 ≤ y.f0 ∧ y.f0 ≤ 999999 ∧ 1 ≤ y.f1 ∧ y.f1 ≤ 999999999999 := of_decide_eq_true hy
  have p6 : (10 : Int) ^ 6 = 1000000 := by decide
  have p12 : (10 : Int) ^ 12 = 1000000000000 := by decide
  have a1 : (itl i x).drop 5 = (itl i y).drop 5 := by rw [h]
  have b1 := cut3 (itl i x) ([68] ++ dec 4 ((i + 1 : Nat) : Int)) (dec 6 x.f0) (dec 1 (DDigits.digitOf x.f0) ++ dec 12 x.f1 ++ [10]) 5 6 (by simp [itl]) (by simp [dec_length]) (dec_length _ _)
  have b2 := cut3 (itl i y) ([68] ++ dec 4 ((i + 1 : Nat) : Int)) (dec 6 y.f0) (dec 1 (DDigits.digitOf y.f0) ++ dec 12 y.f1 ++ [10]) 5 6 (by simp [itl]) (by simp [dec_length]) (dec_length _ _)
  have c1 := cut3 (itl i x) ([68] ++ dec 4 ((i + 1 : Nat) : Int) ++ dec 6 x.f0 ++ dec 1 (DDigits.digitOf x.f0)) (dec 12 x.f1) [10] 12 12 (by simp [itl]) (by simp [dec_length]) (dec_length _ _)
  have c2 := cut3 (itl i y) ([68] ++ dec 4 ((i + 1 : Nat) : Int) ++ dec 6 y.f0 ++ dec 1 (DDigits.digitOf y.f0)) (dec 12 y.f1) [10] 12 12 (by simp [itl]) (by simp [dec_length]) (dec_length _ _)
  rw [h] at b1 c1
  have e0 := dec_inj (by omega) (by omega) (b1.symm.trans b2)
  have e1 := dec_inj (by omega) (by omega) (c1.symm.trans c2)
  cases x; cases y
  simp only at e0 e1
  rw [e0, e1]
def One (p : Nat) (a b : List Int) : Prop := a.length = b.length ∧ ∀ i, i ≠ p → a[i]? = b[i]?
theorem One.same {p : Nat} {a b a' b' : List Int} (h : One p (a ++ a') (b ++ b')) (hl : a.length = b.length) (hp : a.length ≤ p) : a = b := by
  apply List.ext_getElem?
  intro i
  by_cases hi : i < a.length
  · have := h.2 i (by omega)
    rwa [List.getElem?_append_left hi, List.getElem?_append_left (by omega)] at this
  · rw [List.getElem?_eq_none (by omega), List.getElem?_eq_none (by omega)]
theorem One.rest {p : Nat} {a b a' b' : List Int} (h : One p (a ++ a') (b ++ b')) (hl : a.length = b.length) (hp : a.length ≤ p) : One (p - a.length) a' b' := by
  refine ⟨by have := h.1; simp at this; omega, fun i hi => ?_⟩
  have := h.2 (i + a.length) (by omega)
  rw [List.getElem?_append_right (by omega), List.getElem?_append_right (by omega)] at this
  simpa [hl] using this
theorem One.tail {p : Nat} {a b a' b' : List Int} (h : One p (a ++ a') (b ++ b')) (hl : a.length = b.length) (hp : p < a.length) : a' = b' := by
  apply List.ext_getElem?
  intro i
  have := h.2 (i + a.length) (by omega)
  rw [List.getElem?_append_right (by omega), List.getElem?_append_right (by omega)] at this
  simpa [hl] using this
theorem itls_inj : ∀ (i : Nat) (l m : List S50), l.length = m.length → l.all goodB = true → m.all goodB = true → itls i l = itls i m → l = m
  | _, [], m, h, _, _, _ => by cases m with | nil => rfl | cons => simp at h
  | i, x :: t, m, h, hg, hm, he => by
    cases m with
    | nil => simp at h
    | cons y s =>
      simp only [List.all_cons, Bool.and_eq_true] at hg hm
      rw [itls, itls] at he
      have h1 := List.append_inj he (by rw [itl_length, itl_length])
      rw [itl_inj hg.1 hm.1 h1.1, itls_inj (i + 1) t s (by simpa using h) hg.2 hm.2 h1.2]
theorem one_item : ∀ (i : Nat) (l m : List S50) (p : Nat), l.length = m.length → l.all goodB = true → m.all goodB = true → One p (itls i l) (itls i m) → l = m ∨ ∃ (a b : List S50) (x y : S50), l = a ++ x :: b ∧ m = a ++ y :: b ∧ goodB x = true ∧ goodB y = true
  | _, [], m, p, h, _, _, _ => by cases m with | nil => exact .inl rfl | cons => simp at h
  | i, x :: t, m, p, h, hg, hm, he => by
    cases m with
    | nil => simp at h
    | cons y s =>
      simp only [List.all_cons, Bool.and_eq_true] at hg hm
      rw [itls, itls] at he
      have hl : (itl i x).length = (itl i y).length := by rw [itl_length, itl_length]
      by_cases hp : p < (itl i x).length
      · have h1 := he.tail hl hp
        have h2 := itls_inj (i + 1) t s (by simpa using h) hg.2 hm.2 h1
        exact .inr ⟨[], t, x, y, rfl, by rw [h2]; rfl, hg.1, hm.1⟩
      · have h1 := he.same hl (by omega)
        have h2 := itl_inj hg.1 hm.1 h1
        rcases one_item (i + 1) t s _ (by simpa using h) hg.2 hm.2 (he.rest hl (by omega)) with h3 | ⟨a, b, u, v, h3, h4, h5, h6⟩
        · exact .inl (by rw [h2, h3])
        · exact .inr ⟨x :: a, b, u, v, by rw [h3]; rfl, by rw [h2, h4]; rfl, h5, h6⟩
theorem tot_lin : ∀ (l : List S50) (s h : Int), l.all goodB = true → 0 ≤ h → h + 999999 * l.length < 10000000000 → tot l s h = (s + (tot l 0 0).1, h + (tot l 0 0).2)
  | [], s, h, _, _, _ => by simp [tot]
  | x :: t, s, h, hg, h0, h1 => by
    simp only [List.all_cons, Bool.and_eq_true] at hg
    have gx : 1 ≤ x.f0 ∧ x.f0 ≤ 999999 ∧ 1 ≤ x.f1 ∧ x.f1 ≤ 999999999999 := of_decide_eq_true hg.1
    simp only [List.length_cons] at h1
    have m1 : (h + x.f0) % 10000000000 = h + x.f0 := by omega
    have m2 : (0 + x.f0) % 10000000000 = x.f0 := by omega
    have i1 := tot_lin t (s + x.f1) (h + x.f0) hg.2 (by omega) (by omega)
    have i2 := tot_lin t (0 + x.f1) x.f0 hg.2 (by omega) (by omega)
    simp only [tot]
    rw [m1, m2, i1, i2]
    simp only [Prod.mk.injEq]
    omega
theorem tot_app : ∀ (a l : List S50) (s h : Int), tot (a ++ l) s h = tot l (tot a s h).1 (tot a s h).2
  | [], _, _, _ => rfl
  | x :: t, l, s, h => by simp only [List.cons_append, tot]; exact tot_app t l _ _
theorem trl_inj {l m : List S50} (hl : l.all goodB = true) (hm : m.all goodB = true) (h9 : l.length ≤ 9999) (hlm : l.length = m.length) (h : trl l = trl m) : tot l 0 0 = tot m 0 0 := by
  have r1 := tot_range l 0 0 hl (by omega) (by omega) (by omega)
  have r2 := tot_range m 0 0 hm (by omega) (by omega) (by omega)
  have p16 : (10 : Int) ^ 16 = 10000000000000000 := by decide
  have p10 : (10 : Int) ^ 10 = 10000000000 := by decide
  have b1 := cut3 (trl l) ([84] ++ dec 4 (l.length : Int)) (dec 16 (tot l 0 0).1) (dec 10 (tot l 0 0).2 ++ [10]) 5 16 (by simp [trl]) (by simp [dec_length]) (dec_length _ _)
  have b2 := cut3 (trl m) ([84] ++ dec 4 (m.length : Int)) (dec 16 (tot m 0 0).1) (dec 10 (tot m 0 0).2 ++ [10]) 5 16 (by simp [trl]) (by simp [dec_length]) (dec_length _ _)
  have c1 := cut3 (trl l) ([84] ++ dec 4 (l.length : Int) ++ dec 16 (tot l 0 0).1) (dec 10 (tot l 0 0).2) [10] 21 10 (by simp [trl]) (by simp [dec_length]) (dec_length _ _)
  have c2 := cut3 (trl m) ([84] ++ dec 4 (m.length : Int) ++ dec 16 (tot m 0 0).1) (dec 10 (tot m 0 0).2) [10] 21 10 (by simp [trl]) (by simp [dec_length]) (dec_length _ _)
  rw [h] at b1 c1
  have e0 := dec_inj (by omega) (by omega) (b1.symm.trans b2)
  have e1 := dec_inj (by omega) (by omega) (c1.symm.trans c2)
  exact Prod.ext e0 e1
theorem tot_hash (l : List S50) (hg : l.all goodB = true) : (tot l 0 0).2 ≤ 999999 * l.length := by
  have go : ∀ (l : List S50) (s h : Int), l.all goodB = true → 0 ≤ h → (tot l s h).2 ≤ h + 999999 * l.length := by
    intro l
    induction l with
    | nil => intro s h _ h0; simp [tot]
    | cons x t ih =>
      intro s h hg h0
      simp only [List.all_cons, Bool.and_eq_true] at hg
      have gx : 1 ≤ x.f0 ∧ x.f0 ≤ 999999 ∧ 1 ≤ x.f1 ∧ x.f1 ≤ 999999999999 := of_decide_eq_true hg.1
      have := ih (s + x.f1) ((h + x.f0) % 10000000000) hg.2 (by omega)
      simp only [tot, List.length_cons]
      omega
  have := go l 0 0 hg (by omega)
  omega
theorem spoilt {d n d' n' : Int} {l l' : List S50} (h : hasB d n l = true) (h' : hasB d' n' l' = true) (p : Nat) (hp : 16 ≤ p) (ho : One p (fmt d n l) (fmt d' n' l')) : fmt d n l = fmt d' n' l' := by
  have hlen := ho.1
  rw [fmt_len h, fmt_len h'] at hlen
  have hll : l.length = l'.length := by omega
  have hh := h
  have hh' := h'
  unfold hasB at hh hh'
  rw [Bool.and_eq_true, decide_eq_true_eq] at hh hh'
  obtain ⟨⟨_, _, _, _, _, l2⟩, hg⟩ := hh
  obtain ⟨⟨_, _, _, _, _, _⟩, hg'⟩ := hh'
  unfold fmt at ho ⊢
  rw [if_pos h, if_pos h', List.append_assoc, List.append_assoc] at ho
  rw [if_pos h, if_pos h']
  have e1 := ho.same (by rw [hdl_length, hdl_length]) (by rw [hdl_length]; omega)
  have o2 := ho.rest (by rw [hdl_length, hdl_length]) (by rw [hdl_length]; omega)
  have hil : (itls 0 l).length = (itls 0 l').length := by rw [itls_length, itls_length, hll]
  by_cases hq : p - (hdl d n).length < (itls 0 l).length
  · have et := trl_inj hg hg' l2 hll (o2.tail hil hq)
    have o3 : One (p - (hdl d n).length) (itls 0 l) (itls 0 l') := by
      refine ⟨hil, fun i hi => ?_⟩
      by_cases hlt : i < (itls 0 l).length
      · have := o2.2 i hi
        rwa [List.getElem?_append_left hlt, List.getElem?_append_left (by omega)] at this
      · rw [List.getElem?_eq_none (by omega), List.getElem?_eq_none (by omega)]
    rcases one_item 0 l l' _ hll hg hg' o3 with h3 | ⟨a, b, x, y, ha, hb, gx, gy⟩
    · rw [e1, h3]
    · subst ha hb
      simp only [List.all_append, List.all_cons, Bool.and_eq_true] at hg hg'
      have x4 : 1 ≤ x.f0 ∧ x.f0 ≤ 999999 ∧ 1 ≤ x.f1 ∧ x.f1 ≤ 999999999999 := of_decide_eq_true gx
      have y4 : 1 ≤ y.f0 ∧ y.f0 ≤ 999999 ∧ 1 ≤ y.f1 ∧ y.f1 ≤ 999999999999 := of_decide_eq_true gy
      simp only [List.length_append, List.length_cons] at l2
      have hA := tot_hash a hg.1
      have r1 := tot_range a 0 0 hg.1 (by omega) (by omega) (by omega)
      rw [tot_app, tot_app] at et
      simp only [tot] at et
      have m1 : ((tot a 0 0).2 + x.f0) % 10000000000 = (tot a 0 0).2 + x.f0 := by omega
      have m2 : ((tot a 0 0).2 + y.f0) % 10000000000 = (tot a 0 0).2 + y.f0 := by omega
      rw [m1, m2, tot_lin b _ _ hg.2.2 (by omega) (by omega), tot_lin b ((tot a 0 0).1 + y.f1) _ hg.2.2 (by omega) (by omega)] at et
      simp only [Prod.mk.injEq] at et
      have f0 : x.f0 = y.f0 := by omega
      have f1 : x.f1 = y.f1 := by omega
      have exy : x = y := by cases x; cases y; simp only at f0 f1; rw [f0, f1]
      rw [e1, exy]
  · have e3 := o2.same hil (by omega)
    have e4 := itls_inj 0 l l' hll hg hg' e3
    rw [e1, e4]
end Go.Proofs.YtkjdmbbaacjpmaaDoor.FmtR
end
section
namespace Go.Proofs.YtkjdmbbaacjpmaaDoor.R
open Go.RowKit Go.Proofs.YtkjdmbbaacjpmaaDoorW.PrintWords Go.Proofs.YtkjdmbbaacjpmaaDoorW.PrintLast
set_option linter.unusedVariables false
def bytB (l : List Int) : Bool := l.all fun x => decide (0 ≤ x ∧ x ≤ 255)
def AdrOk (A : Option Addr) (c : Nat) : Prop := A = none ∧ c = 0 ∨ ∃ b o, A = some ⟨b, o, none⟩
theorem adr_of_R {W : World} {base : Nat} {ok : Nat → Prop} {A : Option Addr} {n c : Nat} {xs : List Int} (h : Aside0 (Kd.R (Kd.int .u8) 5 W base ok (.slice A n c) xs)) : AdrOk A c := by
  obtain ⟨inner, ho⟩ := Kd.R_own h.out
  rcases ho.2 with ⟨h1, _⟩ | ⟨g, cap, cur, h1, _⟩
  · injection h1 with h1 h2 h3
    exact .inl ⟨h1, h3⟩
  · injection h1 with h1 h2 h3
    exact .inr ⟨g, 0, h1⟩
def lockbox_Parse.f (l0 : List Int) : Option (Int × Int × List S50 × Int × Int) := if l0.length ≤ 140737488351232 ∧ bytB l0 = true then some (Reader.parseP l0) else none
theorem lockbox_Parse.calls (A0 : Option Addr) (c0 : Nat) (l0 : List Int) (r1 : Int) (r2 : Int) (r3 : List (S50)) (r4 : Int) (r5 : Int) (w : World) (hr0 : Kd.C (Kd.int .u8) w A0 l0.length l0) (hc0 : l0.length ≤ c0) (h : lockbox_Parse.f l0 = some (r1, r2, r3, r4, r5)) (HA : AdrOk A0 c0 := by exact adr_of_R (by assumption)) (HT : Aside0 (Tab w) := by first | assumption | exact tab_auto (by assumption) (by repeat (first | (with_reducible first | (with_reducible exact Aside0.out (by assumption)) | apply below_alloc | apply pw_below_drewN | apply below_drew1) | (refine below_set ?_ (Aside0.out (by assumption))))) | exact tab_drawn (by assumption) _) :
    Calls Tryd.prog 24 #[.slice A0 l0.length c0] w fun e w' => ∃ v2_ : Value, e = .returned (.tuple #[.agg #[.int .i64 r1, .int .i64 r2, v2_], .int .i64 r4, .int .i64 r5]) ∧ Kd.R k50 50 w' w.heap.size (fun _ => True) v2_ r3 ∧ Below w.heap.size w w' := by
  unfold lockbox_Parse.f at h
  split at h
  case isFalse => cases h
  case isTrue hc =>
    have hp := Option.some.inj h
    refine (Reader.parse_calls A0 c0 l0 w ⟨hc0, hc.1, fun x hx => ?_, hr0, HA⟩ HT.out.tab HT.out.ety).mono ?_
    · have := (List.all_eq_true.1 hc.2) x hx
      simpa using this
    · rintro e w' ⟨v, he, hR, hb⟩
      rw [hp] at he hR
      exact ⟨v, he, hR, hb⟩
end Go.Proofs.YtkjdmbbaacjpmaaDoor.R
end
section
namespace Go.Proofs.YtkjdmbbaacjpmaaDoor.R
open Go.RowKit Go.Proofs.YtkjdmbbaacjpmaaDoorW.PrintWords Go.Proofs.YtkjdmbbaacjpmaaDoorW.PrintLast Go.Proofs.YtkjdmbbaacjpmaaDoorW.PrintMore
attribute [local go_sem] max2_int min2_int max_two min_two max_three min_three max_four min_four
set_option linter.unusedVariables false
set_option linter.unusedSimpArgs false
def arrearslaw19_CopyBytes.l0 : Nat → List Int → List Int → Int → Option (List Int)
  | 0, _, _, _ => none
  | k + 1, x0, x3, x4 => if x4 < (x0.length : Int) then (if 0 ≤ x4 then (if x3.length < 140737488355328 then (arrearslaw19_CopyBytes.l0 k x0 (x3 ++ [rd x0 x4]) (wrap64 (x4 + 1))) else (none)) else (none)) else (some x3)
def arrearslaw19_CopyBytes.f (k : Nat) (l0 : List Int) : Option (List Int) := arrearslaw19_CopyBytes.l0 k l0 ([] : List Int) 0
theorem arrearslaw19_CopyBytes.mono_l : ∀ k, (∀ y0 y1 y2, LeO (arrearslaw19_CopyBytes.l0 k y0 y1 y2) (arrearslaw19_CopyBytes.l0 (k + 1) y0 y1 y2))
  | 0 => fun _ _ _ r h => by simp [arrearslaw19_CopyBytes.l0] at h
  | k + 1 => by
    have ih0 := arrearslaw19_CopyBytes.mono_l k
    · intro y0 y1 y2
      unfold arrearslaw19_CopyBytes.l0
      repeat' first
      | (with_reducible exact ih0 _ _ _)
      | (with_reducible exact LeO.refl _)
      | (with_reducible exact LeO.none _)
      | (with_reducible refine LeO.ite ?_ ?_)
      | (with_reducible refine LeO.bind ?_ (fun _ => ?_))
      | exact ih0 _ _ _
      | exact LeO.none _
      | refine LeO.ite ?_ ?_
      | refine LeO.bind ?_ (fun _ => ?_)
theorem arrearslaw19_CopyBytes.mono : ∀ a0 k, LeO (arrearslaw19_CopyBytes.f k a0) (arrearslaw19_CopyBytes.f (k + 1) a0) := by
  intro a0 k
  have ih0 := arrearslaw19_CopyBytes.mono_l k
  unfold arrearslaw19_CopyBytes.f
  repeat' first
      | (with_reducible exact ih0 _ _ _)
      | (with_reducible exact LeO.refl _)
      | (with_reducible exact LeO.none _)
      | (with_reducible refine LeO.ite ?_ ?_)
      | (with_reducible refine LeO.bind ?_ (fun _ => ?_))
      | exact ih0 _ _ _
      | exact LeO.none _
      | refine LeO.ite ?_ ?_
      | refine LeO.bind ?_ (fun _ => ?_)
set_option maxHeartbeats 8000000 in
set_option maxRecDepth 100000 in
theorem arrearslaw19_CopyBytes.calls (k : Nat) (A0 : Option Addr) (c0 : Nat) (l0 : List Int) (r : List Int) (w : World) (hr0 : Kd.C (Kd.int .u8) w A0 l0.length l0) (hc0 : l0.length ≤ c0) (h : arrearslaw19_CopyBytes.f k l0 = some r) :
    Calls Tryd.prog 14 #[.slice A0 l0.length c0] w fun e w' => ∃ v0_ : Value, e = .returned (v0_) ∧ Kd.R (Kd.int .u8) 5 w' w.heap.size (fun _ => True) v0_ r ∧ Below w.heap.size w w' := by
  have HR0 := Aside0.mk hr0
  have HC0 := Aside0.mk hc0
  clear hr0 hc0
  have HB := Aside0.mk (Below.refl w.heap.size w)
  have H : (arrearslaw19_CopyBytes.l0 k l0 ([] : List Int) 0) = some r := h
  clear h
  have H' := Aside0.mk H
  clear H
  go_enter Tryd.func14, Tryd.ntmps14
  go_wp2
  go_loopg [3, 4] k (fun kq v3 v4 w' => ∃ (x3_1 : List Int) (x4_1 : Int), v4 = .int .i64 x4_1 ∧ Aside0 (arrearslaw19_CopyBytes.l0 kq l0 x3_1 x4_1 = some r) ∧ Aside0 (kq ≤ k) ∧ Aside0 (Kd.R (Kd.int .u8) 5 w' w.heap.size (fun _ => True) v3 x3_1) ∧ Aside0 (Below w.heap.size w w'))
  case atStart => exact ⟨(([] : List Int)), (0), (by first | rfl | (simp; done) | (simp [*]; done)), H', ⟨Nat.le_refl _⟩, ⟨by first | exact Kd.R_nil _ _ _ _ _ | exact Kd.N_nil _ _ _ _ _ | exact Kd.V_nil _ _ _ _ _ | exact Kd.Q_nil _ _ _ _ _ | exact Kd.S_nil _ _ _ _ _⟩, ⟨by repeat (first | (with_reducible first | exact HB.out | apply below_alloc | apply pw_below_drewN | apply below_drew1) | exact HB.out)⟩⟩
  case round =>
    clear H'
    try clear c1
    obtain ⟨x3_1, x4_1, rfl, HA, HK1, HO_3, HB⟩ := hrel
    cases gk with
    | zero => exact absurd HA.out (by simp [arrearslaw19_CopyBytes.l0])
    | succ k1 =>
      have H := HA.out
      clear HA
      simp only [arrearslaw19_CopyBytes.l0] at H
      by_cases c2 : x4_1 < (l0.length : Int)
      · rw [if_pos c2] at H
        have c2b0 : decide (x4_1 < (l0.length : Int)) = true := decide_eq_true c2
        clear c2
        by_cases c3 : 0 ≤ x4_1
        · rw [if_pos c3] at H
          have c3b0 : decide (0 ≤ x4_1) = true := decide_eq_true c3
          clear c3
          by_cases c4 : x3_1.length < 140737488355328
          · rw [if_pos c4] at H
            have LMc4 := Aside0.mk c4
            clear c4
            obtain ⟨y102, hy102⟩ : ∃ y_ : List Int, y_ = (x3_1 ++ [rd l0 x4_1]) := ⟨_, rfl⟩
            replace H : (arrearslaw19_CopyBytes.l0 k1 l0 y102 (wrap64 (x4_1 + 1))) = some r := by first | (rw [hy102]; with_reducible exact H) | (have H2_ := (Option.bind_some _ _).symm.trans H; rw [hy102]; with_reducible exact H2_) | (have H2_ := (Option.bind_some _ _).symm.trans H; with_reducible exact H2_) | with_reducible exact H | (rw [hy102]; exact H) | exact H
            have Ny102 := Aside0.mk hy102
            clear hy102
            have H' := Aside0.mk H
            clear H
            have p101 : 0 ≤ (x4_1 : Int) := of_decide_eq_true (by first | (with_reducible assumption) | assumption)
            have q101 : x4_1 < (l0.length : Int) := of_decide_eq_true (by first | (with_reducible assumption) | assumption)
            obtain ⟨ad101, e101, hx101_0⟩ := Kd.at_int HR0.out x4_1 p101 q101
            cases e101
            replace hx101_0 := (HB.out.cell (World.block_lt_of_cell? w _ hx101_0)).trans hx101_0
            replace p101 := eq_true p101
            replace q101 := eq_true q101
            go_wp2_with (first | ((with_reducible refine gate_builtin (b := .append) (xs := #[.tmp 11, .tmp 16]) rfl ?_); at_builtin; refine Kd.R_append (Kd.int .u8) (w0 := w) w.heap.size rfl (.tmp 11) (.tmp 16) 26 5 (.int .u8 0) 1 rfl Tryd.underlying26 info5 rfl (by decide) (by omega) u3 x3_1 (rd l0 x4_1) [.int .u8 (rd l0 x4_1)] (fun _ => True) (fun _ => False) rfl rfl ?aP (fun _ hk => hk.elim) ?aF ?aO ?aB ?aS ?aL ?_; (case aP => exact rfl); (case aB => exact (by repeat (first | (with_reducible first | exact HB.out | apply below_alloc | apply pw_below_drewN | apply below_drew1) | exact HB.out))); (case aF => exact (fun _ _ => trivial)); (case aO => exact (by (with_reducible repeat (first | apply Kd.R_alloc | apply Kd.R_drewN | apply Kd.R_drew)); exact HO_3.out)); (case aS => exact (below_size (by repeat (first | (with_reducible first | exact HB.out | apply below_alloc | apply pw_below_drewN | apply below_drew1) | exact HB.out)))); (case aL => have := LMc4.out; omega); intro v103 w5 ho hb hg hat; rw [← Ny102.out] at ho; have n0_ := Aside0.mk (hb); have n1_ := Aside0.mk (ho); clear HB; clear HO_3; have HB := n0_; have HO104 := n1_; clear n0_ n1_; clear ho hb hg hat))
            go_roundg k1
            case measure => have := HK1.out; omega
            case rel => exact ⟨(y102), (wrap64 (x4_1 + 1)), (by first | rfl | (simp; done) | (simp [*]; done)), H', ⟨by have := HK1.out; omega⟩, ⟨by (with_reducible repeat (first | apply Kd.R_alloc | apply Kd.R_drewN | apply Kd.R_drew)); exact HO104.out⟩, ⟨by repeat (first | (with_reducible first | exact HB.out | apply below_alloc | apply pw_below_drewN | apply below_drew1) | exact HB.out)⟩⟩
          · rw [if_neg c4] at H
            exact absurd H (by simp)
        · rw [if_neg c3] at H
          exact absurd H (by simp)
      · rw [if_neg c2] at H
        have c2b0 : decide (x4_1 < (l0.length : Int)) = false := decide_eq_false c2
        clear c2
        obtain rfl := Option.some.inj H
        go_wp2
        go_ret
        exact ⟨_, by first | rfl | (simp [errW_none, errW_some] <;> rfl) | (simp [*, errW_none, errW_some] <;> rfl), by (with_reducible repeat (first | apply Kd.R_alloc | apply Kd.R_drewN | apply Kd.R_drew)); exact HO_3.out, by repeat (first | (with_reducible first | exact HB.out | apply below_alloc | apply pw_below_drewN | apply below_drew1) | exact HB.out)⟩
end Go.Proofs.YtkjdmbbaacjpmaaDoor.R
end
section
namespace Go.Proofs.YtkjdmbbaacjpmaaDoor.R
open Go.RowKit Go.Proofs.YtkjdmbbaacjpmaaDoorW.PrintWords Go.Proofs.YtkjdmbbaacjpmaaDoorW.PrintLast Go.Proofs.YtkjdmbbaacjpmaaDoorW.PrintMore
attribute [local go_sem] max2_int min2_int max_two min_two max_three min_three max_four min_four
set_option linter.unusedVariables false
set_option linter.unusedSimpArgs false
theorem eqA50 (d : Nat) (w : World) (x0 y0 : Int) (x1 y1 : Int) :
    (Op.equalIn (d + 2) 50 (.agg #[.int .i64 x0, .int .i64 x1]) (.agg #[.int .i64 y0, .int .i64 y1])).run Tryd.prog w = .ok (x0 == y0 && (x1 == y1)) w := by
  refine eqA_of Tryd.underlying50 (by kernel_rfl) ?_
  refine eqf_cons (by rfl) (by go_simp; rfl) (by go_simp; rfl) (by go_simp) ?_
  exact eqf_last (by rfl) (by go_simp; rfl) (by go_simp; rfl) (by go_simp)
end Go.Proofs.YtkjdmbbaacjpmaaDoor.R
end
section
namespace Go.Proofs.YtkjdmbbaacjpmaaDoor.R
open Go.RowKit Go.Proofs.YtkjdmbbaacjpmaaDoorW.PrintWords Go.Proofs.YtkjdmbbaacjpmaaDoorW.PrintLast Go.Proofs.YtkjdmbbaacjpmaaDoorW.PrintMore
attribute [local go_sem] max2_int min2_int max_two min_two max_three min_three max_four min_four
set_option linter.unusedVariables false
set_option linter.unusedSimpArgs false
attribute [local go_sem high] eqA50
end Go.Proofs.YtkjdmbbaacjpmaaDoor.R
end
section
namespace Go.Proofs.YtkjdmbbaacjpmaaDoor.R
open Go.RowKit Go.Proofs.YtkjdmbbaacjpmaaDoorW.PrintWords Go.Proofs.YtkjdmbbaacjpmaaDoorW.PrintLast Go.Proofs.YtkjdmbbaacjpmaaDoorW.PrintMore
attribute [local go_sem] max2_int min2_int max_two min_two max_three min_three max_four min_four
set_option linter.unusedVariables false
set_option linter.unusedSimpArgs false
end Go.Proofs.YtkjdmbbaacjpmaaDoor.R
end
section
namespace Go.Proofs.YtkjdmbbaacjpmaaDoor.R
open Go.RowKit Go.Proofs.YtkjdmbbaacjpmaaDoorW.PrintWords Go.Proofs.YtkjdmbbaacjpmaaDoorW.PrintLast Go.Proofs.YtkjdmbbaacjpmaaDoorW.PrintMore
attribute [local go_sem] max2_int min2_int max_two min_two max_three min_three max_four min_four
set_option linter.unusedVariables false
set_option linter.unusedSimpArgs false
def arrearslaw20_LockboxSpoilt.j0 : Nat → Int → Int → List Int → Bool → Option (Bool)
  | 0, _, _, _, _ => none
  | k + 1, x1, x2, x7, x39 => if x39 = true then (some true) else ((arrearslaw19_CopyBytes.f k x7).bind fun t407 => ((lockbox_Parse.f t407).bind fun bt410 => (if bt410.2.2.2.1 = 0 then (if 0 ≤ x1 then (if x1 < (x7.length : Int) then (if (rd x7 x1) = x2 then (some true) else ((lockbox_Parse.f (x7.set (x1 : Int).toNat x2)).bind fun bt420 => (if bt420.2.2.2.1 = 0 then (some false) else (some ((bt420.2.2.1.length : Int) == 0))))) else (none)) else (none)) else (some false))))
def arrearslaw20_LockboxSpoilt.f (k : Nat) (a0_0 : Int) (a0_1 : Int) (l0_2 : List (S50)) (a1 : Int) (a2 : Int) : Option (Bool) := if (l0_2.length : Int) > 10010 then (some true) else ((arrearslaw20_own.f a0_0 a0_1 l0_2).bind fun bt397 => ((lockbox_Format.f k bt397.1 bt397.2.1 bt397.2.2).bind fun bt402 => ((arrearsref20_Has.f k a0_0 a0_1 l0_2).bind fun t406 => (if (bt402.2 != t406) = true then (some false) else (if bt402.2 = true then (if a1 < 16 then (arrearslaw20_LockboxSpoilt.j0 k a1 a2 bt402.1 true) else (arrearslaw20_LockboxSpoilt.j0 k a1 a2 bt402.1 (decide (a1 ≥ (bt402.1.length : Int))))) else (arrearslaw20_LockboxSpoilt.j0 k a1 a2 bt402.1 true))))))
theorem arrearslaw20_LockboxSpoilt.mono_l : ∀ k, (∀ y0 y1 y2 y3, LeO (arrearslaw20_LockboxSpoilt.j0 k y0 y1 y2 y3) (arrearslaw20_LockboxSpoilt.j0 (k + 1) y0 y1 y2 y3))
  | 0 => fun _ _ _ _ r h => by simp [arrearslaw20_LockboxSpoilt.j0] at h
  | k + 1 => by
    have ih0 := arrearslaw20_LockboxSpoilt.mono_l k
    · intro y0 y1 y2 y3
      unfold arrearslaw20_LockboxSpoilt.j0
      repeat' first
      | (with_reducible exact ih0 _ _ _ _)
      | (with_reducible exact arrearslaw19_CopyBytes.mono _ _)
      | (with_reducible exact arrearsref20_Has.mono _ _ _ _)
      | (with_reducible exact lockbox_Format.mono _ _ _ _)
      | (with_reducible exact LeO.refl _)
      | (with_reducible exact LeO.none _)
      | (with_reducible refine LeO.ite ?_ ?_)
      | (with_reducible refine LeO.bind ?_ (fun _ => ?_))
      | exact ih0 _ _ _ _
      | exact arrearslaw19_CopyBytes.mono _ _
      | exact arrearsref20_Has.mono _ _ _ _
      | exact lockbox_Format.mono _ _ _ _
      | exact LeO.none _
      | refine LeO.ite ?_ ?_
      | refine LeO.bind ?_ (fun _ => ?_)
theorem arrearslaw20_LockboxSpoilt.mono : ∀ a0 a1 a2 a3 a4 k, LeO (arrearslaw20_LockboxSpoilt.f k a0 a1 a2 a3 a4) (arrearslaw20_LockboxSpoilt.f (k + 1) a0 a1 a2 a3 a4) := by
  intro a0 a1 a2 a3 a4 k
  have ih0 := arrearslaw20_LockboxSpoilt.mono_l k
  unfold arrearslaw20_LockboxSpoilt.f
  repeat' first
      | (with_reducible exact ih0 _ _ _ _)
      | (with_reducible exact arrearslaw19_CopyBytes.mono _ _)
      | (with_reducible exact arrearsref20_Has.mono _ _ _ _)
      | (with_reducible exact lockbox_Format.mono _ _ _ _)
      | (with_reducible exact LeO.refl _)
      | (with_reducible exact LeO.none _)
      | (with_reducible refine LeO.ite ?_ ?_)
      | (with_reducible refine LeO.bind ?_ (fun _ => ?_))
      | exact ih0 _ _ _ _
      | exact arrearslaw19_CopyBytes.mono _ _
      | exact arrearsref20_Has.mono _ _ _ _
      | exact lockbox_Format.mono _ _ _ _
      | exact LeO.none _
      | refine LeO.ite ?_ ?_
      | refine LeO.bind ?_ (fun _ => ?_)
set_option maxHeartbeats 8000000 in
set_option maxRecDepth 100000 in
theorem arrearslaw20_LockboxSpoilt.calls (k : Nat) (a0_0 : Int) (a0_1 : Int) (A0_2 : Option Addr) (c0_2 : Nat) (l0_2 : List (S50)) (a1 : Int) (a2 : Int) (r : Bool) (w : World) (hr0_2 : Kd.C k50 w A0_2 l0_2.length l0_2) (hc0_2 : l0_2.length ≤ c0_2) (h : arrearslaw20_LockboxSpoilt.f k a0_0 a0_1 l0_2 a1 a2 = some r) (HT : Aside0 (Tab w) := by first | assumption | exact tab_auto (by assumption) (by repeat (first | (with_reducible first | (with_reducible exact Aside0.out (by assumption)) | apply below_alloc | apply pw_below_drewN | apply below_drew1) | (refine below_set ?_ (Aside0.out (by assumption))))) | exact tab_drawn (by assumption) _) :
    Calls Tryd.prog 8 #[.agg #[.int .i64 a0_0, .int .i64 a0_1, .slice A0_2 l0_2.length c0_2], .int .i64 a1, .int .u8 a2] w fun e w' => e = .returned (.bool r) ∧ Below w.heap.size w w' := by
  have hu32 := Tryd.underlying32
  have HR0_2 := Aside0.mk hr0_2
  have HC0_2 := Aside0.mk hc0_2
  clear hr0_2 hc0_2
  have HB := Aside0.mk (Below.refl w.heap.size w)
  have H : (if (l0_2.length : Int) > 10010 then (some true) else ((arrearslaw20_own.f a0_0 a0_1 l0_2).bind fun bt397 => ((lockbox_Format.f k bt397.1 bt397.2.1 bt397.2.2).bind fun bt402 => ((arrearsref20_Has.f k a0_0 a0_1 l0_2).bind fun t406 => (if (bt402.2 != t406) = true then (some false) else (if bt402.2 = true then (if a1 < 16 then (arrearslaw20_LockboxSpoilt.j0 k a1 a2 bt402.1 true) else (arrearslaw20_LockboxSpoilt.j0 k a1 a2 bt402.1 (decide (a1 ≥ (bt402.1.length : Int))))) else (arrearslaw20_LockboxSpoilt.j0 k a1 a2 bt402.1 true))))))) = some r := h
  clear h
  by_cases c4 : (l0_2.length : Int) > 10010
  · rw [if_pos c4] at H
    have c4b0 : decide (10010 < (l0_2.length : Int)) = true := decide_eq_true c4
    have c4b1 : decide (10010 < l0_2.length) = true := decide_eq_true (by omega)
    clear c4
    obtain rfl := Option.some.inj H
    go_enter Tryd.func8, Tryd.ntmps8
    go_wp2_with (first | ((with_reducible refine gate_dst (N := 3) rfl ?_); (try (refine gate_guard (by rfl) ?_; dsimp only)); refine box_event ?hg (N := 3) ?hd (cs := #[.int .i64 a0_0, .int .i64 a0_1, .slice A0_2 l0_2.length c0_2]) (t := 32) ?hr ?_; (case hd => rfl); (case hg => rfl); (case hr => first | (go_simp; done) | (go_simp; rfl)); intro gb396 hg w5 hbox hb; have n0_ := Aside0.mk (below_step (by repeat (first | (with_reducible first | exact HB.out | apply below_alloc | apply pw_below_drewN | apply below_drew1) | exact HB.out)) hb); have n1_ := Aside0.mk (hbox); have n2_ := Aside0.mk ((by rw [hg]; exact (below_size (by repeat (first | (with_reducible first | exact HB.out | apply below_alloc | apply pw_below_drewN | apply below_drew1) | exact HB.out))) : w.heap.size ≤ gb396)); have n3_ := Aside0.mk ((by rw [hg]; exact (below_size (by repeat (first | (with_reducible first | exact HB.out | apply below_alloc | apply pw_below_drewN | apply below_drew1) | exact HB.out))) : w.heap.size ≤ gb396)); clear HB; have HB := n0_; have BK396 := n1_; have GW396 := n2_; have GE396 := n3_; clear n0_ n1_ n2_ n3_; clear hb hbox hg; have hcz6_0 : w5.cell? ⟨gb396, 0, none⟩ = some (.int .i64 a0_0) := (blk_cell BK396.out 0).trans rfl; have hcz6_1 : w5.cell? ⟨gb396, 1, none⟩ = some (.int .i64 a0_1) := (blk_cell BK396.out 1).trans rfl; have hcz6_2 : w5.cell? ⟨gb396, 2, none⟩ = some (.slice A0_2 l0_2.length c0_2) := (blk_cell BK396.out 2).trans rfl; have hfz6_0 := blk_frozen BK396.out 0; have hfz6_1 := blk_frozen BK396.out 1; have hfz6_2 := blk_frozen BK396.out 2))
    go_ret
    exact ⟨by first | rfl | (simp [errW_none, errW_some] <;> rfl) | (simp [*, errW_none, errW_some] <;> rfl), by repeat (first | (with_reducible first | exact HB.out | apply below_alloc | apply pw_below_drewN | apply below_drew1 | refine below_set ?_ GE396.out) | exact HB.out)⟩
  · rw [if_neg c4] at H
    have c4b0 : decide (10010 < (l0_2.length : Int)) = false := decide_eq_false c4
    have c4b1 : decide (10010 < l0_2.length) = false := decide_eq_false (by omega)
    clear c4
    replace H := Option.bind_eq_some_iff.mp H
    obtain ⟨⟨t397, t398, t399⟩, A70, H⟩ := H
    replace H : ((lockbox_Format.f k t397 t398 t399).bind fun bt402 => ((arrearsref20_Has.f k a0_0 a0_1 l0_2).bind fun t406 => (if (bt402.2 != t406) = true then (some false) else (if bt402.2 = true then (if a1 < 16 then (arrearslaw20_LockboxSpoilt.j0 k a1 a2 bt402.1 true) else (arrearslaw20_LockboxSpoilt.j0 k a1 a2 bt402.1 (decide (a1 ≥ (bt402.1.length : Int))))) else (arrearslaw20_LockboxSpoilt.j0 k a1 a2 bt402.1 true))))) = some r := H
    have A7 := Aside0.mk A70
    clear A70
    replace H := Option.bind_eq_some_iff.mp H
    obtain ⟨⟨t402, t405⟩, A80, H⟩ := H
    replace H : ((arrearsref20_Has.f k a0_0 a0_1 l0_2).bind fun t406 => (if (t405 != t406) = true then (some false) else (if t405 = true then (if a1 < 16 then (arrearslaw20_LockboxSpoilt.j0 k a1 a2 t402 true) else (arrearslaw20_LockboxSpoilt.j0 k a1 a2 t402 (decide (a1 ≥ (t402.length : Int))))) else (arrearslaw20_LockboxSpoilt.j0 k a1 a2 t402 true)))) = some r := H
    have A8 := Aside0.mk A80
    clear A80
    replace H := Option.bind_eq_some_iff.mp H
    obtain ⟨t406, A90, H⟩ := H
    replace H : (if (t405 != t406) = true then (some false) else (if t405 = true then (if a1 < 16 then (arrearslaw20_LockboxSpoilt.j0 k a1 a2 t402 true) else (arrearslaw20_LockboxSpoilt.j0 k a1 a2 t402 (decide (a1 ≥ (t402.length : Int))))) else (arrearslaw20_LockboxSpoilt.j0 k a1 a2 t402 true))) = some r := H
    have A9 := Aside0.mk A90
    clear A90
    by_cases c10 : (t405 != t406) = true
    · rw [if_pos c10] at H
      have c10b0 : (t405 != t406) = true := c10
      (try (have c10b1 : decide (t405 = t406) = false := by simpa using c10))
      (try (have c10b2 : (t405 == t406) = false := by simpa using c10))
      (try (have c10b3 : ¬ (t405 = t406) := by simpa using c10))
      clear c10
      obtain rfl := Option.some.inj H
      go_enter Tryd.func8, Tryd.ntmps8
      go_wp2_with (first | ((with_reducible refine gate_dst (N := 3) rfl ?_); (try (refine gate_guard (by rfl) ?_; dsimp only)); refine box_event ?hg (N := 3) ?hd (cs := #[.int .i64 a0_0, .int .i64 a0_1, .slice A0_2 l0_2.length c0_2]) (t := 32) ?hr ?_; (case hd => rfl); (case hg => rfl); (case hr => first | (go_simp; done) | (go_simp; rfl)); intro gb396 hg w11 hbox hb; have n0_ := Aside0.mk (below_step (by repeat (first | (with_reducible first | exact HB.out | apply below_alloc | apply pw_below_drewN | apply below_drew1) | exact HB.out)) hb); have n1_ := Aside0.mk (hbox); have n2_ := Aside0.mk ((by rw [hg]; exact (below_size (by repeat (first | (with_reducible first | exact HB.out | apply below_alloc | apply pw_below_drewN | apply below_drew1) | exact HB.out))) : w.heap.size ≤ gb396)); have n3_ := Aside0.mk ((by rw [hg]; exact (below_size (by repeat (first | (with_reducible first | exact HB.out | apply below_alloc | apply pw_below_drewN | apply below_drew1) | exact HB.out))) : w.heap.size ≤ gb396)); clear HB; have HB := n0_; have BK396 := n1_; have GW396 := n2_; have GE396 := n3_; clear n0_ n1_ n2_ n3_; clear hb hbox hg; have hcz12_0 : w11.cell? ⟨gb396, 0, none⟩ = some (.int .i64 a0_0) := (blk_cell BK396.out 0).trans rfl; have hcz12_1 : w11.cell? ⟨gb396, 1, none⟩ = some (.int .i64 a0_1) := (blk_cell BK396.out 1).trans rfl; have hcz12_2 : w11.cell? ⟨gb396, 2, none⟩ = some (.slice A0_2 l0_2.length c0_2) := (blk_cell BK396.out 2).trans rfl; have hfz12_0 := blk_frozen BK396.out 0; have hfz12_1 := blk_frozen BK396.out 1; have hfz12_2 := blk_frozen BK396.out 2) | ((with_reducible refine gate_callee (f := 15) rfl ?_); refine goesL_ (some 20) rfl rfl Tryd.func15 (by kernel_rfl) rfl #[.agg #[.int .i64 a0_0, .int .i64 a0_1, .slice A0_2 l0_2.length c0_2]] rfl (by (try simp only [List.map_toArray, List.map_cons, List.map_nil]); first | done | rfl | (simp only [List.length_drop, List.length_take]; rfl)) ?_; (with_reducible refine (arrearslaw20_own.calls a0_0 a0_1 _ _ l0_2 t397 t398 t399 _ ?side1 ?side2 A7.out).mono ?_); (case side1 => repeat (first | exact (Kd.C_below HR0_2.out HB.out) | (with_reducible refine Kd.C_alloc ?_ _) | (with_reducible refine Kd.C_drewN ?_ _) | (with_reducible refine Kd.C_drew ?_))); (case side2 => exact HC0_2.out); rintro e w13 ⟨v400, rfl, ho0, hb⟩; refine ⟨_, rfl, ?_⟩; have n0_ := Aside0.mk (Kd.R_lower ho0 (below_size (by repeat (first | (with_reducible first | exact HB.out | apply below_alloc | apply pw_below_drewN | apply below_drew1 | refine below_set ?_ GE396.out) | exact HB.out)))); have n1_ := Aside0.mk (blk_below (g := gb396) (o := .cells #[.int .i64 a0_0, .int .i64 a0_1, .slice A0_2 l0_2.length c0_2] 32 (0, 0)) (by (with_reducible repeat (first | refine blk_drewN ?_ _ | refine blk_drew ?_ | refine blk_alloc ?_ _)); exact BK396.out) hb); have n2_ := Aside0.mk (below_step (by repeat (first | (with_reducible first | exact HB.out | apply below_alloc | apply pw_below_drewN | apply below_drew1 | refine below_set ?_ GE396.out) | exact HB.out)) hb); clear BK396; clear HB; have HO401 := n0_; have BK396 := n1_; have HB := n2_; clear n0_ n1_ n2_; (try clear hb); (try clear hb2); (try clear hk); (try clear hi); (try clear ho0); obtain ⟨Ao14, co14, eo14⟩ := Kd.R_slice HO401.out; subst eo14) | ((with_reducible refine gate_callee (f := 16) rfl ?_); refine goesL_ (some 21) rfl rfl Tryd.func16 (by kernel_rfl) rfl #[.agg #[.int .i64 t397, .int .i64 t398, .slice Ao14 t399.length co14]] rfl (by (try simp only [List.map_toArray, List.map_cons, List.map_nil]); first | done | rfl | (simp only [List.length_drop, List.length_take]; rfl)) ?_; (with_reducible refine (lockbox_Format.calls k t397 t398 _ _ t399 t402 t405 _ ?side1 ?side2 A8.out).mono ?_); (case side1 => repeat (first | exact (Kd.R_reads' HO401.out).2.2 | (with_reducible refine Kd.C_alloc ?_ _) | (with_reducible refine Kd.C_drewN ?_ _) | (with_reducible refine Kd.C_drew ?_))); (case side2 => exact (Kd.R_reads' HO401.out).2.1); rintro e w15 ⟨v403, rfl, ho0, hb⟩; refine ⟨_, rfl, ?_⟩; have n0_ := Aside0.mk (Kd.R_below (by (with_reducible repeat (first | apply Kd.R_alloc | apply Kd.R_drewN | apply Kd.R_drew)); exact HO401.out) hb); have n1_ := Aside0.mk (Kd.R_lower ho0 (below_size (by repeat (first | (with_reducible first | exact HB.out | apply below_alloc | apply pw_below_drewN | apply below_drew1 | refine below_set ?_ GE396.out) | exact HB.out)))); have n2_ := Aside0.mk (blk_below (g := gb396) (o := .cells #[.int .i64 a0_0, .int .i64 a0_1, .slice A0_2 l0_2.length c0_2] 32 (0, 0)) (by (with_reducible repeat (first | refine blk_drewN ?_ _ | refine blk_drew ?_ | refine blk_alloc ?_ _)); exact BK396.out) hb); have n3_ := Aside0.mk (below_step (by repeat (first | (with_reducible first | exact HB.out | apply below_alloc | apply pw_below_drewN | apply below_drew1 | refine below_set ?_ GE396.out) | exact HB.out)) hb); clear HO401; clear BK396; clear HB; have HO401 := n0_; have HO404 := n1_; have BK396 := n2_; have HB := n3_; clear n0_ n1_ n2_ n3_; (try clear hb); (try clear hb2); (try clear hk); (try clear hi); (try clear ho0); have hcz16_0 : w15.cell? ⟨gb396, 0, none⟩ = some (.int .i64 a0_0) := (blk_cell BK396.out 0).trans rfl; have hcz16_1 : w15.cell? ⟨gb396, 1, none⟩ = some (.int .i64 a0_1) := (blk_cell BK396.out 1).trans rfl; have hcz16_2 : w15.cell? ⟨gb396, 2, none⟩ = some (.slice A0_2 l0_2.length c0_2) := (blk_cell BK396.out 2).trans rfl; have hfz16_0 := blk_frozen BK396.out 0; have hfz16_1 := blk_frozen BK396.out 1; have hfz16_2 := blk_frozen BK396.out 2) | ((with_reducible refine gate_callee (f := 26) rfl ?_); refine goesL_ (some 26) rfl rfl Tryd.func26 (by kernel_rfl) rfl #[.agg #[.int .i64 a0_0, .int .i64 a0_1, .slice A0_2 l0_2.length c0_2]] rfl (by (try simp only [List.map_toArray, List.map_cons, List.map_nil]); first | done | rfl | (simp only [List.length_drop, List.length_take]; rfl)) ?_; (with_reducible refine (arrearsref20_Has.calls k a0_0 a0_1 _ _ l0_2 t406 _ ?side1 ?side2 A9.out).mono ?_); (case side1 => repeat (first | exact (Kd.C_below HR0_2.out HB.out) | (with_reducible refine Kd.C_alloc ?_ _) | (with_reducible refine Kd.C_drewN ?_ _) | (with_reducible refine Kd.C_drew ?_))); (case side2 => exact HC0_2.out); rintro e w17 ⟨rfl, hb⟩; refine ⟨_, rfl, ?_⟩; have n0_ := Aside0.mk (Kd.R_below (by (with_reducible repeat (first | apply Kd.R_alloc | apply Kd.R_drewN | apply Kd.R_drew)); exact HO401.out) hb); have n1_ := Aside0.mk (Kd.R_below (by (with_reducible repeat (first | apply Kd.R_alloc | apply Kd.R_drewN | apply Kd.R_drew)); exact HO404.out) hb); have n2_ := Aside0.mk (blk_below (g := gb396) (o := .cells #[.int .i64 a0_0, .int .i64 a0_1, .slice A0_2 l0_2.length c0_2] 32 (0, 0)) (by (with_reducible repeat (first | refine blk_drewN ?_ _ | refine blk_drew ?_ | refine blk_alloc ?_ _)); exact BK396.out) hb); have n3_ := Aside0.mk (below_step (by repeat (first | (with_reducible first | exact HB.out | apply below_alloc | apply pw_below_drewN | apply below_drew1 | refine below_set ?_ GE396.out) | exact HB.out)) hb); clear HO401; clear HO404; clear BK396; clear HB; have HO401 := n0_; have HO404 := n1_; have BK396 := n2_; have HB := n3_; clear n0_ n1_ n2_ n3_; (try clear hb); (try clear hb2); (try clear hk); (try clear hi)))
      go_ret
      exact ⟨by first | rfl | (simp [errW_none, errW_some] <;> rfl) | (simp [*, errW_none, errW_some] <;> rfl), by repeat (first | (with_reducible first | exact HB.out | apply below_alloc | apply pw_below_drewN | apply below_drew1 | refine below_set ?_ GE396.out) | exact HB.out)⟩
    · rw [if_neg c10] at H
      have c10b0 : (t405 != t406) = false := by simpa using c10
      (try (have c10b1 : decide (t405 = t406) = true := by simpa using c10))
      (try (have c10b2 : (t405 == t406) = true := by simpa using c10))
      clear c10
      have HC18 := Aside0.mk H
      clear H
      go_enter Tryd.func8, Tryd.ntmps8
      go_upto_region 6 with (first | ((with_reducible refine gate_dst (N := 3) rfl ?_); (try (refine gate_guard (by rfl) ?_; dsimp only)); refine box_event ?hg (N := 3) ?hd (cs := #[.int .i64 a0_0, .int .i64 a0_1, .slice A0_2 l0_2.length c0_2]) (t := 32) ?hr ?_; (case hd => rfl); (case hg => rfl); (case hr => first | (go_simp; done) | (go_simp; rfl)); intro gb396 hg w19 hbox hb; have n0_ := Aside0.mk (below_step (by repeat (first | (with_reducible first | exact HB.out | apply below_alloc | apply pw_below_drewN | apply below_drew1) | exact HB.out)) hb); have n1_ := Aside0.mk (hbox); have n2_ := Aside0.mk ((by rw [hg]; exact (below_size (by repeat (first | (with_reducible first | exact HB.out | apply below_alloc | apply pw_below_drewN | apply below_drew1) | exact HB.out))) : w.heap.size ≤ gb396)); have n3_ := Aside0.mk ((by rw [hg]; exact (below_size (by repeat (first | (with_reducible first | exact HB.out | apply below_alloc | apply pw_below_drewN | apply below_drew1) | exact HB.out))) : w.heap.size ≤ gb396)); clear HB; have HB := n0_; have BK396 := n1_; have GW396 := n2_; have GE396 := n3_; clear n0_ n1_ n2_ n3_; clear hb hbox hg; have hcz20_0 : w19.cell? ⟨gb396, 0, none⟩ = some (.int .i64 a0_0) := (blk_cell BK396.out 0).trans rfl; have hcz20_1 : w19.cell? ⟨gb396, 1, none⟩ = some (.int .i64 a0_1) := (blk_cell BK396.out 1).trans rfl; have hcz20_2 : w19.cell? ⟨gb396, 2, none⟩ = some (.slice A0_2 l0_2.length c0_2) := (blk_cell BK396.out 2).trans rfl; have hfz20_0 := blk_frozen BK396.out 0; have hfz20_1 := blk_frozen BK396.out 1; have hfz20_2 := blk_frozen BK396.out 2) | ((with_reducible refine gate_callee (f := 15) rfl ?_); refine goesL_ (some 20) rfl rfl Tryd.func15 (by kernel_rfl) rfl #[.agg #[.int .i64 a0_0, .int .i64 a0_1, .slice A0_2 l0_2.length c0_2]] rfl (by (try simp only [List.map_toArray, List.map_cons, List.map_nil]); first | done | rfl | (simp only [List.length_drop, List.length_take]; rfl)) ?_; (with_reducible refine (arrearslaw20_own.calls a0_0 a0_1 _ _ l0_2 t397 t398 t399 _ ?side1 ?side2 A7.out).mono ?_); (case side1 => repeat (first | exact (Kd.C_below HR0_2.out HB.out) | (with_reducible refine Kd.C_alloc ?_ _) | (with_reducible refine Kd.C_drewN ?_ _) | (with_reducible refine Kd.C_drew ?_))); (case side2 => exact HC0_2.out); rintro e w21 ⟨v400, rfl, ho0, hb⟩; refine ⟨_, rfl, ?_⟩; have n0_ := Aside0.mk (Kd.R_lower ho0 (below_size (by repeat (first | (with_reducible first | exact HB.out | apply below_alloc | apply pw_below_drewN | apply below_drew1 | refine below_set ?_ GE396.out) | exact HB.out)))); have n1_ := Aside0.mk (blk_below (g := gb396) (o := .cells #[.int .i64 a0_0, .int .i64 a0_1, .slice A0_2 l0_2.length c0_2] 32 (0, 0)) (by (with_reducible repeat (first | refine blk_drewN ?_ _ | refine blk_drew ?_ | refine blk_alloc ?_ _)); exact BK396.out) hb); have n2_ := Aside0.mk (below_step (by repeat (first | (with_reducible first | exact HB.out | apply below_alloc | apply pw_below_drewN | apply below_drew1 | refine below_set ?_ GE396.out) | exact HB.out)) hb); clear BK396; clear HB; have HO401 := n0_; have BK396 := n1_; have HB := n2_; clear n0_ n1_ n2_; (try clear hb); (try clear hb2); (try clear hk); (try clear hi); (try clear ho0); obtain ⟨Ao22, co22, eo22⟩ := Kd.R_slice HO401.out; subst eo22) | ((with_reducible refine gate_callee (f := 16) rfl ?_); refine goesL_ (some 21) rfl rfl Tryd.func16 (by kernel_rfl) rfl #[.agg #[.int .i64 t397, .int .i64 t398, .slice Ao22 t399.length co22]] rfl (by (try simp only [List.map_toArray, List.map_cons, List.map_nil]); first | done | rfl | (simp only [List.length_drop, List.length_take]; rfl)) ?_; (with_reducible refine (lockbox_Format.calls k t397 t398 _ _ t399 t402 t405 _ ?side1 ?side2 A8.out).mono ?_); (case side1 => repeat (first | exact (Kd.R_reads' HO401.out).2.2 | (with_reducible refine Kd.C_alloc ?_ _) | (with_reducible refine Kd.C_drewN ?_ _) | (with_reducible refine Kd.C_drew ?_))); (case side2 => exact (Kd.R_reads' HO401.out).2.1); rintro e w23 ⟨v403, rfl, ho0, hb⟩; refine ⟨_, rfl, ?_⟩; have n0_ := Aside0.mk (Kd.R_below (by (with_reducible repeat (first | apply Kd.R_alloc | apply Kd.R_drewN | apply Kd.R_drew)); exact HO401.out) hb); have n1_ := Aside0.mk (Kd.R_lower ho0 (below_size (by repeat (first | (with_reducible first | exact HB.out | apply below_alloc | apply pw_below_drewN | apply below_drew1 | refine below_set ?_ GE396.out) | exact HB.out)))); have n2_ := Aside0.mk (blk_below (g := gb396) (o := .cells #[.int .i64 a0_0, .int .i64 a0_1, .slice A0_2 l0_2.length c0_2] 32 (0, 0)) (by (with_reducible repeat (first | refine blk_drewN ?_ _ | refine blk_drew ?_ | refine blk_alloc ?_ _)); exact BK396.out) hb); have n3_ := Aside0.mk (below_step (by repeat (first | (with_reducible first | exact HB.out | apply below_alloc | apply pw_below_drewN | apply below_drew1 | refine below_set ?_ GE396.out) | exact HB.out)) hb); clear HO401; clear BK396; clear HB; have HO401 := n0_; have HO404 := n1_; have BK396 := n2_; have HB := n3_; clear n0_ n1_ n2_ n3_; (try clear hb); (try clear hb2); (try clear hk); (try clear hi); (try clear ho0); have hcz24_0 : w23.cell? ⟨gb396, 0, none⟩ = some (.int .i64 a0_0) := (blk_cell BK396.out 0).trans rfl; have hcz24_1 : w23.cell? ⟨gb396, 1, none⟩ = some (.int .i64 a0_1) := (blk_cell BK396.out 1).trans rfl; have hcz24_2 : w23.cell? ⟨gb396, 2, none⟩ = some (.slice A0_2 l0_2.length c0_2) := (blk_cell BK396.out 2).trans rfl; have hfz24_0 := blk_frozen BK396.out 0; have hfz24_1 := blk_frozen BK396.out 1; have hfz24_2 := blk_frozen BK396.out 2) | ((with_reducible refine gate_callee (f := 26) rfl ?_); refine goesL_ (some 26) rfl rfl Tryd.func26 (by kernel_rfl) rfl #[.agg #[.int .i64 a0_0, .int .i64 a0_1, .slice A0_2 l0_2.length c0_2]] rfl (by (try simp only [List.map_toArray, List.map_cons, List.map_nil]); first | done | rfl | (simp only [List.length_drop, List.length_take]; rfl)) ?_; (with_reducible refine (arrearsref20_Has.calls k a0_0 a0_1 _ _ l0_2 t406 _ ?side1 ?side2 A9.out).mono ?_); (case side1 => repeat (first | exact (Kd.C_below HR0_2.out HB.out) | (with_reducible refine Kd.C_alloc ?_ _) | (with_reducible refine Kd.C_drewN ?_ _) | (with_reducible refine Kd.C_drew ?_))); (case side2 => exact HC0_2.out); rintro e w25 ⟨rfl, hb⟩; refine ⟨_, rfl, ?_⟩; have n0_ := Aside0.mk (Kd.R_below (by (with_reducible repeat (first | apply Kd.R_alloc | apply Kd.R_drewN | apply Kd.R_drew)); exact HO401.out) hb); have n1_ := Aside0.mk (Kd.R_below (by (with_reducible repeat (first | apply Kd.R_alloc | apply Kd.R_drewN | apply Kd.R_drew)); exact HO404.out) hb); have n2_ := Aside0.mk (blk_below (g := gb396) (o := .cells #[.int .i64 a0_0, .int .i64 a0_1, .slice A0_2 l0_2.length c0_2] 32 (0, 0)) (by (with_reducible repeat (first | refine blk_drewN ?_ _ | refine blk_drew ?_ | refine blk_alloc ?_ _)); exact BK396.out) hb); have n3_ := Aside0.mk (below_step (by repeat (first | (with_reducible first | exact HB.out | apply below_alloc | apply pw_below_drewN | apply below_drew1 | refine below_set ?_ GE396.out) | exact HB.out)) hb); clear HO401; clear HO404; clear BK396; clear HB; have HO401 := n0_; have HO404 := n1_; have BK396 := n2_; have HB := n3_; clear n0_ n1_ n2_ n3_; (try clear hb); (try clear hb2); (try clear hk); (try clear hi)))
      (try simp only [Act.put, List.setIfInBounds_toArray, List.set_cons_zero, List.set_cons_succ])
      go_cut [39] (fun v39 wc => ∃ (kq : Nat) (x39_17 : Bool), v39 = .bool x39_17 ∧ Aside0 (arrearslaw20_LockboxSpoilt.j0 kq a1 a2 t402 x39_17 = some r) ∧ Aside0 (kq ≤ k) ∧ Aside0 (Kd.R (Kd.int .u8) 5 wc w.heap.size (fun _ => True) v403 t402) ∧ Aside0 (wc.heap[gb396]? = some (.cells #[.int .i64 a0_0, .int .i64 a0_1, (.slice A0_2 l0_2.length c0_2)] 32 (0, 0))) ∧ Aside0 (Below w.heap.size w wc))
      case first =>
        have H := HC18.out
        clear HC18
        by_cases c26 : t405 = true
        · subst c26
          have H1 : (if a1 < 16 then (arrearslaw20_LockboxSpoilt.j0 k a1 a2 t402 true) else (arrearslaw20_LockboxSpoilt.j0 k a1 a2 t402 (decide (a1 ≥ (t402.length : Int))))) = some r := by rw [if_pos rfl] at H; exact H
          clear H
          have H := H1
          clear H1
          by_cases c27 : a1 < 16
          · rw [if_pos c27] at H
            have c27b0 : decide (a1 < 16) = true := decide_eq_true c27
            clear c27
            (first | rw [c27b0] | (simp only [i64_w, i32_w]; rw [c27b0]) | skip)
            have H' := Aside0.mk H
            clear H
            go_wp2
            go_meet
            case rel => exact ⟨_, (true), (by first | rfl | (simp; done) | (simp [*]; done)), H', ⟨by first | omega | exact Nat.le_refl _⟩, ⟨by (with_reducible repeat (first | apply Kd.R_alloc | apply Kd.R_drewN | apply Kd.R_drew)); exact HO404.out⟩, ⟨by (with_reducible repeat (first | refine blk_drewN ?_ _ | refine blk_drew ?_ | refine blk_alloc ?_ _)); exact BK396.out⟩, ⟨by repeat (first | (with_reducible first | exact HB.out | apply below_alloc | apply pw_below_drewN | apply below_drew1 | refine below_set ?_ GE396.out) | exact HB.out)⟩⟩
          · rw [if_neg c27] at H
            have c27b0 : decide (a1 < 16) = false := decide_eq_false c27
            clear c27
            (first | rw [c27b0] | (simp only [i64_w, i32_w]; rw [c27b0]) | skip)
            have H' := Aside0.mk H
            clear H
            obtain ⟨Ao28, co28, eo28⟩ := Kd.R_slice HO404.out
            subst eo28
            go_wp2
            go_meet
            case rel => exact ⟨_, (decide (a1 ≥ (t402.length : Int))), (by first | rfl | (simp; done) | (simp [*]; done)), H', ⟨by first | omega | exact Nat.le_refl _⟩, ⟨by (with_reducible repeat (first | apply Kd.R_alloc | apply Kd.R_drewN | apply Kd.R_drew)); exact HO404.out⟩, ⟨by (with_reducible repeat (first | refine blk_drewN ?_ _ | refine blk_drew ?_ | refine blk_alloc ?_ _)); exact BK396.out⟩, ⟨by repeat (first | (with_reducible first | exact HB.out | apply below_alloc | apply pw_below_drewN | apply below_drew1 | refine below_set ?_ GE396.out) | exact HB.out)⟩⟩
        · replace c26 := Bool.eq_false_iff.mpr c26
          subst c26
          have H1 : (arrearslaw20_LockboxSpoilt.j0 k a1 a2 t402 true) = some r := by rw [if_neg (show ¬ (false = true) by decide)] at H; exact H
          clear H
          have H := H1
          clear H1
          have H' := Aside0.mk H
          clear H
          go_wp2
          go_meet
          case rel => exact ⟨_, (true), (by first | rfl | (simp; done) | (simp [*]; done)), H', ⟨by first | omega | exact Nat.le_refl _⟩, ⟨by (with_reducible repeat (first | apply Kd.R_alloc | apply Kd.R_drewN | apply Kd.R_drew)); exact HO404.out⟩, ⟨by (with_reducible repeat (first | refine blk_drewN ?_ _ | refine blk_drew ?_ | refine blk_alloc ?_ _)); exact BK396.out⟩, ⟨by repeat (first | (with_reducible first | exact HB.out | apply below_alloc | apply pw_below_drewN | apply below_drew1 | refine below_set ?_ GE396.out) | exact HB.out)⟩⟩
      case rest =>
        clear HC18
        try clear c1
        try clear c2
        try clear p2
        try clear c4
        try clear c4b0
        try clear c4b1
        try clear c8
        try clear c10
        try clear c10b0
        try clear c10b1
        try clear c10b2
        try clear c15
        try clear c16
        try clear c26
        try clear c27
        try clear c27b0
        try clear hcz12_0
        try clear hcz12_1
        try clear hcz12_2
        try clear hcz16_0
        try clear hcz16_1
        try clear hcz16_2
        try clear hcz20_0
        try clear hcz20_1
        try clear hcz20_2
        try clear hcz24_0
        try clear hcz24_1
        try clear hcz24_2
        try clear hcz6_0
        try clear hcz6_1
        try clear hcz6_2
        try clear hfz12_0
        try clear hfz12_1
        try clear hfz12_2
        try clear hfz16_0
        try clear hfz16_1
        try clear hfz16_2
        try clear hfz20_0
        try clear hfz20_1
        try clear hfz20_2
        try clear hfz24_0
        try clear hfz24_1
        try clear hfz24_2
        try clear hfz6_0
        try clear hfz6_1
        try clear hfz6_2
        obtain ⟨kq, x39_17, rfl, HA, HJ17, HO_7, BK396, HB⟩ := hcut
        cases kq with
        | zero => exact absurd HA.out (by simp [arrearslaw20_LockboxSpoilt.j0])
        | succ kj17 =>
          have H := HA.out
          clear HA
          simp only [arrearslaw20_LockboxSpoilt.j0] at H
          by_cases c29 : x39_17 = true
          · subst c29
            have H1 : (some true) = some r := by rw [if_pos rfl] at H; exact H
            clear H
            have H := H1
            clear H1
            obtain rfl := Option.some.inj H
            go_wp2
            go_ret
            exact ⟨by first | rfl | (simp [errW_none, errW_some] <;> rfl) | (simp [*, errW_none, errW_some] <;> rfl), by repeat (first | (with_reducible first | exact HB.out | apply below_alloc | apply pw_below_drewN | apply below_drew1 | refine below_set ?_ GE396.out) | exact HB.out)⟩
          · replace c29 := Bool.eq_false_iff.mpr c29
            subst c29
            have H1 : ((arrearslaw19_CopyBytes.f kj17 t402).bind fun t407 => ((lockbox_Parse.f t407).bind fun bt410 => (if bt410.2.2.2.1 = 0 then (if 0 ≤ a1 then (if a1 < (t402.length : Int) then (if (rd t402 a1) = a2 then (some true) else ((lockbox_Parse.f (t402.set (a1 : Int).toNat a2)).bind fun bt420 => (if bt420.2.2.2.1 = 0 then (some false) else (some ((bt420.2.2.1.length : Int) == 0))))) else (none)) else (none)) else (some false)))) = some r := by rw [if_neg (show ¬ (false = true) by decide)] at H; exact H
            clear H
            have H := H1
            clear H1
            replace H := Option.bind_eq_some_iff.mp H
            obtain ⟨t407, A300, H⟩ := H
            replace H : ((lockbox_Parse.f t407).bind fun bt410 => (if bt410.2.2.2.1 = 0 then (if 0 ≤ a1 then (if a1 < (t402.length : Int) then (if (rd t402 a1) = a2 then (some true) else ((lockbox_Parse.f (t402.set (a1 : Int).toNat a2)).bind fun bt420 => (if bt420.2.2.2.1 = 0 then (some false) else (some ((bt420.2.2.1.length : Int) == 0))))) else (none)) else (none)) else (some false))) = some r := H
            have A30 := Aside0.mk A300
            clear A300
            replace H := Option.bind_eq_some_iff.mp H
            obtain ⟨⟨t410, t411, t412, t415, t416⟩, A310, H⟩ := H
            replace H : (if t415 = 0 then (if 0 ≤ a1 then (if a1 < (t402.length : Int) then (if (rd t402 a1) = a2 then (some true) else ((lockbox_Parse.f (t402.set (a1 : Int).toNat a2)).bind fun bt420 => (if bt420.2.2.2.1 = 0 then (some false) else (some ((bt420.2.2.1.length : Int) == 0))))) else (none)) else (none)) else (some false)) = some r := H
            have A31 := Aside0.mk A310
            clear A310
            by_cases c32 : t415 = 0
            · rw [if_pos c32] at H
              have c32b0 : (t415 == 0) = true := beq_iff_eq.mpr c32
              have c32b1 : (t415 != 0) = false := bne_eq_false_iff_eq.mpr c32
              clear c32
              by_cases c33 : 0 ≤ a1
              · rw [if_pos c33] at H
                have c33b0 : decide (0 ≤ a1) = true := decide_eq_true c33
                clear c33
                by_cases c34 : a1 < (t402.length : Int)
                · rw [if_pos c34] at H
                  have c34b0 : decide (a1 < (t402.length : Int)) = true := decide_eq_true c34
                  clear c34
                  by_cases c35 : (rd t402 a1) = a2
                  · rw [if_pos c35] at H
                    have c35b0 : ((rd t402 a1) == a2) = true := beq_iff_eq.mpr c35
                    have c35b1 : ((rd t402 a1) != a2) = false := bne_eq_false_iff_eq.mpr c35
                    clear c35
                    obtain rfl := Option.some.inj H
                    obtain ⟨Ao36, co36, eo36⟩ := Kd.R_slice HO_7.out
                    subst eo36
                    go_wp2_with (first | ((with_reducible refine gate_callee (f := 14) rfl ?_); refine goesL_ (some 42) rfl rfl Tryd.func14 (by kernel_rfl) rfl #[.slice Ao36 t402.length co36] rfl (by (try simp only [List.map_toArray, List.map_cons, List.map_nil]); first | done | rfl | (simp only [List.length_drop, List.length_take]; rfl)) ?_; (with_reducible refine (arrearslaw19_CopyBytes.calls kj17 _ _ t402 t407 _ ?side1 ?side2 A30.out).mono ?_); (case side1 => repeat (first | exact (Kd.R_reads' HO_7.out).2.2 | (with_reducible refine Kd.C_alloc ?_ _) | (with_reducible refine Kd.C_drewN ?_ _) | (with_reducible refine Kd.C_drew ?_))); (case side2 => exact (Kd.R_reads' HO_7.out).2.1); rintro e w37 ⟨v408, rfl, ho0, hb⟩; refine ⟨_, rfl, ?_⟩; have n0_ := Aside0.mk (Kd.R_elder' (by (with_reducible repeat (first | apply Kd.R_alloc | apply Kd.R_drewN | apply Kd.R_drew)); exact HO_7.out) (Kd.R_base ho0) hb); have n1_ := Aside0.mk (Kd.R_lower (Kd.R_new' ho0 (Kd.R_lt (by (with_reducible repeat (first | apply Kd.R_alloc | apply Kd.R_drewN | apply Kd.R_drew)); exact HO_7.out))) (below_size (by repeat (first | (with_reducible first | exact HB.out | apply below_alloc | apply pw_below_drewN | apply below_drew1 | refine below_set ?_ GE396.out) | exact HB.out)))); have n2_ := Aside0.mk (blk_below (g := gb396) (o := .cells #[.int .i64 a0_0, .int .i64 a0_1, .slice A0_2 l0_2.length c0_2] 32 (0, 0)) (by (with_reducible repeat (first | refine blk_drewN ?_ _ | refine blk_drew ?_ | refine blk_alloc ?_ _)); exact BK396.out) hb); have n3_ := Aside0.mk (below_step (by repeat (first | (with_reducible first | exact HB.out | apply below_alloc | apply pw_below_drewN | apply below_drew1 | refine below_set ?_ GE396.out) | exact HB.out)) hb); clear HO_7; clear BK396; clear HB; have HO_7 := n0_; have HO409 := n1_; have BK396 := n2_; have HB := n3_; clear n0_ n1_ n2_ n3_; (try clear hb); (try clear hb2); (try clear hk); (try clear hi); (try clear ho0); obtain ⟨Ao38, co38, eo38⟩ := Kd.R_slice HO409.out; subst eo38) | ((with_reducible refine gate_callee (f := 24) rfl ?_); refine goesL_ (some 43) rfl rfl Tryd.func24 (by kernel_rfl) rfl #[.slice Ao38 t407.length co38] rfl (by (try simp only [List.map_toArray, List.map_cons, List.map_nil]); first | done | rfl | (simp only [List.length_drop, List.length_take]; rfl)) ?_; (with_reducible refine (lockbox_Parse.calls _ _ t407 t410 t411 t412 t415 t416 _ ?side1 ?side2 A31.out).mono ?_); (case side1 => repeat (first | exact (Kd.R_reads' HO409.out).2.2 | (with_reducible refine Kd.C_alloc ?_ _) | (with_reducible refine Kd.C_drewN ?_ _) | (with_reducible refine Kd.C_drew ?_))); (case side2 => exact (Kd.R_reads' HO409.out).2.1); rintro e w39 ⟨v413, rfl, ho0, hb⟩; refine ⟨_, rfl, ?_⟩; have n0_ := Aside0.mk (Kd.R_below (by (with_reducible repeat (first | apply Kd.R_alloc | apply Kd.R_drewN | apply Kd.R_drew)); exact HO_7.out) hb); have n1_ := Aside0.mk (Kd.R_below (by (with_reducible repeat (first | apply Kd.R_alloc | apply Kd.R_drewN | apply Kd.R_drew)); exact HO409.out) hb); have n2_ := Aside0.mk (Kd.R_lower ho0 (below_size (by repeat (first | (with_reducible first | exact HB.out | apply below_alloc | apply pw_below_drewN | apply below_drew1 | refine below_set ?_ GE396.out) | exact HB.out)))); have n3_ := Aside0.mk (blk_below (g := gb396) (o := .cells #[.int .i64 a0_0, .int .i64 a0_1, .slice A0_2 l0_2.length c0_2] 32 (0, 0)) (by (with_reducible repeat (first | refine blk_drewN ?_ _ | refine blk_drew ?_ | refine blk_alloc ?_ _)); exact BK396.out) hb); have n4_ := Aside0.mk (below_step (by repeat (first | (with_reducible first | exact HB.out | apply below_alloc | apply pw_below_drewN | apply below_drew1 | refine below_set ?_ GE396.out) | exact HB.out)) hb); clear HO_7; clear HO409; clear BK396; clear HB; have HO_7 := n0_; have HO409 := n1_; have HO414 := n2_; have BK396 := n3_; have HB := n4_; clear n0_ n1_ n2_ n3_ n4_; (try clear hb); (try clear hb2); (try clear hk); (try clear hi); (try clear ho0)) | ((with_reducible refine gate_dst (N := 9) rfl ?_); (try (refine gate_guard (by rfl) ?_; dsimp only)); refine box_event ?hg (N := 9) ?hd (cs := #[.int .i64 0, .int .i64 0, .slice none 0 0]) (t := 32) ?hr ?_; (case hd => rfl); (case hg => rfl); (case hr => first | (go_simp; done) | (go_simp; rfl)); intro gb417 hg w40 hbox hb; have n0_ := Aside0.mk (Kd.R_below (by (with_reducible repeat (first | apply Kd.R_alloc | apply Kd.R_drewN | apply Kd.R_drew)); exact HO_7.out) hb); have n1_ := Aside0.mk (Kd.R_below (by (with_reducible repeat (first | apply Kd.R_alloc | apply Kd.R_drewN | apply Kd.R_drew)); exact HO409.out) hb); have n2_ := Aside0.mk (Kd.R_below (by (with_reducible repeat (first | apply Kd.R_alloc | apply Kd.R_drewN | apply Kd.R_drew)); exact HO414.out) hb); have n3_ := Aside0.mk (blk_below (g := gb396) (o := .cells #[.int .i64 a0_0, .int .i64 a0_1, .slice A0_2 l0_2.length c0_2] 32 (0, 0)) (by (with_reducible repeat (first | refine blk_drewN ?_ _ | refine blk_drew ?_ | refine blk_alloc ?_ _)); exact BK396.out) hb); have n4_ := Aside0.mk (below_step (by repeat (first | (with_reducible first | exact HB.out | apply below_alloc | apply pw_below_drewN | apply below_drew1 | refine below_set ?_ GE396.out) | exact HB.out)) hb); have n5_ := Aside0.mk (hbox); have n6_ := Aside0.mk ((by rw [hg]; exact (below_size (by repeat (first | (with_reducible first | exact HB.out | apply below_alloc | apply pw_below_drewN | apply below_drew1 | refine below_set ?_ GE396.out) | exact HB.out))) : w.heap.size ≤ gb417)); have n7_ := Aside0.mk ((by rw [hg]; exact (below_size (by repeat (first | (with_reducible first | exact HB.out | apply below_alloc | apply pw_below_drewN | apply below_drew1 | refine below_set ?_ GE396.out) | exact HB.out))) : w.heap.size ≤ gb417)); have n8_ := Aside0.mk ((by rw [hg]; exact Nat.ne_of_lt (blk_lt (g := gb396) (o := .cells #[.int .i64 a0_0, .int .i64 a0_1, .slice A0_2 l0_2.length c0_2] 32 (0, 0)) (by (with_reducible repeat (first | refine blk_drewN ?_ _ | refine blk_drew ?_ | refine blk_alloc ?_ _)); exact BK396.out)) : gb396 ≠ gb417)); have n9_ := Aside0.mk ((by rw [hg]; exact Nat.ne_of_gt (blk_lt (g := gb396) (o := .cells #[.int .i64 a0_0, .int .i64 a0_1, .slice A0_2 l0_2.length c0_2] 32 (0, 0)) (by (with_reducible repeat (first | refine blk_drewN ?_ _ | refine blk_drew ?_ | refine blk_alloc ?_ _)); exact BK396.out)) : gb417 ≠ gb396)); clear HO_7; clear HO409; clear HO414; clear BK396; clear HB; have HO_7 := n0_; have HO409 := n1_; have HO414 := n2_; have BK396 := n3_; have HB := n4_; have BK417 := n5_; have GW417 := n6_; have GE417 := n7_; have NB396_417 := n8_; have NB417_396 := n9_; clear n0_ n1_ n2_ n3_ n4_ n5_ n6_ n7_ n8_ n9_; clear hb hbox hg; have hnb41 := NB417_396.out; have hnc41 := NB396_417.out; have hcz42_0 : w40.cell? ⟨gb417, 0, none⟩ = some (.int .i64 0) := (blk_cell BK417.out 0).trans rfl; have hcz42_1 : w40.cell? ⟨gb417, 1, none⟩ = some (.int .i64 0) := (blk_cell BK417.out 1).trans rfl; have hcz42_2 : w40.cell? ⟨gb417, 2, none⟩ = some (.slice none 0 0) := (blk_cell BK417.out 2).trans rfl; have hfz42_0 := blk_frozen BK417.out 0; have hfz42_1 := blk_frozen BK417.out 1; have hfz42_2 := blk_frozen BK417.out 2; obtain ⟨Ao43, co43, eo43⟩ := Kd.R_slice HO414.out; subst eo43; have p418 : 0 ≤ (a1 : Int) := of_decide_eq_true (by first | (with_reducible assumption) | assumption); have q418 : a1 < (t402.length : Int) := of_decide_eq_true (by first | (with_reducible assumption) | assumption); obtain ⟨ad418, e418, hx418_0⟩ := Kd.at_int (Kd.R_reads' HO_7.out).2.2 a1 p418 q418; cases e418; have hn418_0 : ad418.block ≠ gb417 := Kd.own_blk (Kd.R_ne HO_7.out BK417.out (by decide)); have hn418_1 : ad418.block ≠ gb417 := Kd.own_blk (Kd.R_ne HO_7.out BK417.out (by decide)); have hn418_2 : ad418.block ≠ gb417 := Kd.own_blk (Kd.R_ne HO_7.out BK417.out (by decide)); replace hx418_0 := (cell_far (p := ⟨gb417, 0, none⟩) (by first | (rw [add_block]; exact hn418_0) | (show (Addr.add _ _).block ≠ _; rw [add_block]; exact hn418_0) | exact hn418_0) (.int .i64 t410)).trans hx418_0; replace hx418_0 := (cell_far (p := ⟨gb417, 1, none⟩) (by first | (rw [add_block]; exact hn418_1) | (show (Addr.add _ _).block ≠ _; rw [add_block]; exact hn418_1) | exact hn418_1) (.int .i64 t411)).trans hx418_0; replace hx418_0 := (cell_far (p := ⟨gb417, 2, none⟩) (by first | (rw [add_block]; exact hn418_2) | (show (Addr.add _ _).block ≠ _; rw [add_block]; exact hn418_2) | exact hn418_2) (.slice Ao43 t412.length co43)).trans hx418_0; clear hn418_0; clear hn418_1; clear hn418_2; replace p418 := eq_true p418; replace q418 := eq_true q418))
                    go_ret
                    exact ⟨by first | rfl | (simp [errW_none, errW_some] <;> rfl) | (simp [*, errW_none, errW_some] <;> rfl), by repeat (first | (with_reducible first | exact HB.out | apply below_alloc | apply pw_below_drewN | apply below_drew1 | refine below_set ?_ GE396.out | refine below_set ?_ GE417.out) | exact HB.out)⟩
                  · rw [if_neg c35] at H
                    have c35b0 : ((rd t402 a1) == a2) = false := beq_eq_false_iff_ne.mpr c35
                    have c35b1 : ((rd t402 a1) != a2) = true := bne_iff_ne.mpr c35
                    obtain ⟨y419, hy419⟩ : ∃ y_ : List Int, y_ = (t402.set (a1 : Int).toNat a2) := ⟨_, rfl⟩
                    replace H : ((lockbox_Parse.f y419).bind fun bt420 => (if bt420.2.2.2.1 = 0 then (some false) else (some ((bt420.2.2.1.length : Int) == 0)))) = some r := by first | (rw [hy419]; with_reducible exact H) | (have H2_ := (Option.bind_some _ _).symm.trans H; rw [hy419]; with_reducible exact H2_) | (have H2_ := (Option.bind_some _ _).symm.trans H; with_reducible exact H2_) | with_reducible exact H | (rw [hy419]; exact H) | exact H
                    have Ny419 := Aside0.mk hy419
                    clear hy419
                    replace H := Option.bind_eq_some_iff.mp H
                    obtain ⟨⟨t420, t421, t422, t425, t426⟩, A450, H⟩ := H
                    replace H : (if t425 = 0 then (some false) else (some ((t422.length : Int) == 0))) = some r := H
                    have A45 := Aside0.mk A450
                    clear A450
                    by_cases c46 : t425 = 0
                    · rw [if_pos c46] at H
                      have c46b0 : (t425 == 0) = true := beq_iff_eq.mpr c46
                      have c46b1 : (t425 != 0) = false := bne_eq_false_iff_eq.mpr c46
                      clear c46
                      obtain rfl := Option.some.inj H
                      obtain ⟨Ao47, co47, eo47⟩ := Kd.R_slice HO_7.out
                      subst eo47
                      go_wp2_with (first | ((with_reducible refine gate_callee (f := 14) rfl ?_); refine goesL_ (some 42) rfl rfl Tryd.func14 (by kernel_rfl) rfl #[.slice Ao47 t402.length co47] rfl (by (try simp only [List.map_toArray, List.map_cons, List.map_nil]); first | done | rfl | (simp only [List.length_drop, List.length_take]; rfl)) ?_; (with_reducible refine (arrearslaw19_CopyBytes.calls kj17 _ _ t402 t407 _ ?side1 ?side2 A30.out).mono ?_); (case side1 => repeat (first | exact (Kd.R_reads' HO_7.out).2.2 | (with_reducible refine Kd.C_alloc ?_ _) | (with_reducible refine Kd.C_drewN ?_ _) | (with_reducible refine Kd.C_drew ?_))); (case side2 => exact (Kd.R_reads' HO_7.out).2.1); rintro e w48 ⟨v408, rfl, ho0, hb⟩; refine ⟨_, rfl, ?_⟩; have n0_ := Aside0.mk (Kd.R_elder' (by (with_reducible repeat (first | apply Kd.R_alloc | apply Kd.R_drewN | apply Kd.R_drew)); exact HO_7.out) (Kd.R_base ho0) hb); have n1_ := Aside0.mk (Kd.R_lower (Kd.R_new' ho0 (Kd.R_lt (by (with_reducible repeat (first | apply Kd.R_alloc | apply Kd.R_drewN | apply Kd.R_drew)); exact HO_7.out))) (below_size (by repeat (first | (with_reducible first | exact HB.out | apply below_alloc | apply pw_below_drewN | apply below_drew1 | refine below_set ?_ GE396.out) | exact HB.out)))); have n2_ := Aside0.mk (blk_below (g := gb396) (o := .cells #[.int .i64 a0_0, .int .i64 a0_1, .slice A0_2 l0_2.length c0_2] 32 (0, 0)) (by (with_reducible repeat (first | refine blk_drewN ?_ _ | refine blk_drew ?_ | refine blk_alloc ?_ _)); exact BK396.out) hb); have n3_ := Aside0.mk (below_step (by repeat (first | (with_reducible first | exact HB.out | apply below_alloc | apply pw_below_drewN | apply below_drew1 | refine below_set ?_ GE396.out) | exact HB.out)) hb); clear HO_7; clear BK396; clear HB; have HO_7 := n0_; have HO409 := n1_; have BK396 := n2_; have HB := n3_; clear n0_ n1_ n2_ n3_; (try clear hb); (try clear hb2); (try clear hk); (try clear hi); (try clear ho0); obtain ⟨Ao49, co49, eo49⟩ := Kd.R_slice HO409.out; subst eo49) | ((with_reducible refine gate_callee (f := 24) rfl ?_); refine goesL_ (some 43) rfl rfl Tryd.func24 (by kernel_rfl) rfl #[.slice Ao49 t407.length co49] rfl (by (try simp only [List.map_toArray, List.map_cons, List.map_nil]); first | done | rfl | (simp only [List.length_drop, List.length_take]; rfl)) ?_; (with_reducible refine (lockbox_Parse.calls _ _ t407 t410 t411 t412 t415 t416 _ ?side1 ?side2 A31.out).mono ?_); (case side1 => repeat (first | exact (Kd.R_reads' HO409.out).2.2 | (with_reducible refine Kd.C_alloc ?_ _) | (with_reducible refine Kd.C_drewN ?_ _) | (with_reducible refine Kd.C_drew ?_))); (case side2 => exact (Kd.R_reads' HO409.out).2.1); rintro e w50 ⟨v413, rfl, ho0, hb⟩; refine ⟨_, rfl, ?_⟩; have n0_ := Aside0.mk (Kd.R_below (by (with_reducible repeat (first | apply Kd.R_alloc | apply Kd.R_drewN | apply Kd.R_drew)); exact HO_7.out) hb); have n1_ := Aside0.mk (Kd.R_below (by (with_reducible repeat (first | apply Kd.R_alloc | apply Kd.R_drewN | apply Kd.R_drew)); exact HO409.out) hb); have n2_ := Aside0.mk (Kd.R_lower ho0 (below_size (by repeat (first | (with_reducible first | exact HB.out | apply below_alloc | apply pw_below_drewN | apply below_drew1 | refine below_set ?_ GE396.out) | exact HB.out)))); have n3_ := Aside0.mk (blk_below (g := gb396) (o := .cells #[.int .i64 a0_0, .int .i64 a0_1, .slice A0_2 l0_2.length c0_2] 32 (0, 0)) (by (with_reducible repeat (first | refine blk_drewN ?_ _ | refine blk_drew ?_ | refine blk_alloc ?_ _)); exact BK396.out) hb); have n4_ := Aside0.mk (below_step (by repeat (first | (with_reducible first | exact HB.out | apply below_alloc | apply pw_below_drewN | apply below_drew1 | refine below_set ?_ GE396.out) | exact HB.out)) hb); clear HO_7; clear HO409; clear BK396; clear HB; have HO_7 := n0_; have HO409 := n1_; have HO414 := n2_; have BK396 := n3_; have HB := n4_; clear n0_ n1_ n2_ n3_ n4_; (try clear hb); (try clear hb2); (try clear hk); (try clear hi); (try clear ho0)) | ((with_reducible refine gate_dst (N := 9) rfl ?_); (try (refine gate_guard (by rfl) ?_; dsimp only)); refine box_event ?hg (N := 9) ?hd (cs := #[.int .i64 0, .int .i64 0, .slice none 0 0]) (t := 32) ?hr ?_; (case hd => rfl); (case hg => rfl); (case hr => first | (go_simp; done) | (go_simp; rfl)); intro gb417 hg w51 hbox hb; have n0_ := Aside0.mk (Kd.R_below (by (with_reducible repeat (first | apply Kd.R_alloc | apply Kd.R_drewN | apply Kd.R_drew)); exact HO_7.out) hb); have n1_ := Aside0.mk (Kd.R_below (by (with_reducible repeat (first | apply Kd.R_alloc | apply Kd.R_drewN | apply Kd.R_drew)); exact HO409.out) hb); have n2_ := Aside0.mk (Kd.R_below (by (with_reducible repeat (first | apply Kd.R_alloc | apply Kd.R_drewN | apply Kd.R_drew)); exact HO414.out) hb); have n3_ := Aside0.mk (blk_below (g := gb396) (o := .cells #[.int .i64 a0_0, .int .i64 a0_1, .slice A0_2 l0_2.length c0_2] 32 (0, 0)) (by (with_reducible repeat (first | refine blk_drewN ?_ _ | refine blk_drew ?_ | refine blk_alloc ?_ _)); exact BK396.out) hb); have n4_ := Aside0.mk (below_step (by repeat (first | (with_reducible first | exact HB.out | apply below_alloc | apply pw_below_drewN | apply below_drew1 | refine below_set ?_ GE396.out) | exact HB.out)) hb); have n5_ := Aside0.mk (hbox); have n6_ := Aside0.mk ((by rw [hg]; exact (below_size (by repeat (first | (with_reducible first | exact HB.out | apply below_alloc | apply pw_below_drewN | apply below_drew1 | refine below_set ?_ GE396.out) | exact HB.out))) : w.heap.size ≤ gb417)); have n7_ := Aside0.mk ((by rw [hg]; exact (below_size (by repeat (first | (with_reducible first | exact HB.out | apply below_alloc | apply pw_below_drewN | apply below_drew1 | refine below_set ?_ GE396.out) | exact HB.out))) : w.heap.size ≤ gb417)); have n8_ := Aside0.mk ((by rw [hg]; exact Nat.ne_of_lt (blk_lt (g := gb396) (o := .cells #[.int .i64 a0_0, .int .i64 a0_1, .slice A0_2 l0_2.length c0_2] 32 (0, 0)) (by (with_reducible repeat (first | refine blk_drewN ?_ _ | refine blk_drew ?_ | refine blk_alloc ?_ _)); exact BK396.out)) : gb396 ≠ gb417)); have n9_ := Aside0.mk ((by rw [hg]; exact Nat.ne_of_gt (blk_lt (g := gb396) (o := .cells #[.int .i64 a0_0, .int .i64 a0_1, .slice A0_2 l0_2.length c0_2] 32 (0, 0)) (by (with_reducible repeat (first | refine blk_drewN ?_ _ | refine blk_drew ?_ | refine blk_alloc ?_ _)); exact BK396.out)) : gb417 ≠ gb396)); clear HO_7; clear HO409; clear HO414; clear BK396; clear HB; have HO_7 := n0_; have HO409 := n1_; have HO414 := n2_; have BK396 := n3_; have HB := n4_; have BK417 := n5_; have GW417 := n6_; have GE417 := n7_; have NB396_417 := n8_; have NB417_396 := n9_; clear n0_ n1_ n2_ n3_ n4_ n5_ n6_ n7_ n8_ n9_; clear hb hbox hg; have hnb52 := NB417_396.out; have hnc52 := NB396_417.out; have hcz53_0 : w51.cell? ⟨gb417, 0, none⟩ = some (.int .i64 0) := (blk_cell BK417.out 0).trans rfl; have hcz53_1 : w51.cell? ⟨gb417, 1, none⟩ = some (.int .i64 0) := (blk_cell BK417.out 1).trans rfl; have hcz53_2 : w51.cell? ⟨gb417, 2, none⟩ = some (.slice none 0 0) := (blk_cell BK417.out 2).trans rfl; have hfz53_0 := blk_frozen BK417.out 0; have hfz53_1 := blk_frozen BK417.out 1; have hfz53_2 := blk_frozen BK417.out 2; obtain ⟨Ao54, co54, eo54⟩ := Kd.R_slice HO414.out; subst eo54) | ((with_reducible refine gate_store (t := 32) (p := 9) rfl ?_); refine store_event (t := 32) (p := 9) (v := ?vo_w55) (w1 := (((w51.setCell ⟨gb417, 0, none⟩ (.int .i64 t410)).setCell ⟨gb417, 1, none⟩ (.int .i64 t411)).setCell ⟨gb417, 2, none⟩ (.slice Ao54 t412.length co54))) ?hg ?ho ?hn ?hr ?_; (case ho => rfl); (case hg => rfl); (case hn => rfl); (case hr => first | (go_simp; done) | (go_simp; rfl)); intro w55 hw; have n0_ : Aside0 (Kd.R (Kd.int .u8) 5 w55 w.heap.size (fun k_ => some k_ ≠ (.slice Ao49 t407.length co49 : Value).ownBlock) (.slice Ao47 t402.length co47) t402) := ⟨(by rw [hw]; exact (by (with_reducible repeat (first | apply Kd.R_alloc | apply Kd.R_drewN | apply Kd.R_drew)); exact Kd.R_mono (Kd.R_far (p := ⟨gb417, 2, none⟩) (Kd.R_far (p := ⟨gb417, 1, none⟩) (Kd.R_far (p := ⟨gb417, 0, none⟩) (Kd.R_types HO_7.out BK417.out (by decide)) (fun _ hk => hk.2) (.int .i64 t410)) (fun _ hk => hk.2) (.int .i64 t411)) (fun _ hk => hk.2) (.slice Ao54 t412.length co54)) (fun _ hk => hk.1.2)))⟩; have n1_ : Aside0 (Kd.R (Kd.int .u8) 5 w55 w.heap.size (fun k_ => some k_ ≠ (.slice Ao47 t402.length co47 : Value).ownBlock) (.slice Ao49 t407.length co49) t407) := ⟨(by rw [hw]; exact (by (with_reducible repeat (first | apply Kd.R_alloc | apply Kd.R_drewN | apply Kd.R_drew)); exact Kd.R_mono (Kd.R_far (p := ⟨gb417, 2, none⟩) (Kd.R_far (p := ⟨gb417, 1, none⟩) (Kd.R_far (p := ⟨gb417, 0, none⟩) (Kd.R_types HO409.out BK417.out (by decide)) (fun _ hk => hk.2) (.int .i64 t410)) (fun _ hk => hk.2) (.int .i64 t411)) (fun _ hk => hk.2) (.slice Ao54 t412.length co54)) (fun _ hk => hk.1.2)))⟩; have n2_ : Aside0 (Kd.R k50 50 w55 w.heap.size (fun _ => True) (.slice Ao54 t412.length co54) t412) := ⟨(by rw [hw]; exact (by (with_reducible repeat (first | apply Kd.R_alloc | apply Kd.R_drewN | apply Kd.R_drew)); exact Kd.R_mono (Kd.R_far (p := ⟨gb417, 2, none⟩) (Kd.R_far (p := ⟨gb417, 1, none⟩) (Kd.R_far (p := ⟨gb417, 0, none⟩) (Kd.R_types HO414.out BK417.out (by decide)) (fun _ hk => hk.2) (.int .i64 t410)) (fun _ hk => hk.2) (.int .i64 t411)) (fun _ hk => hk.2) (.slice Ao54 t412.length co54)) (fun _ hk => trivial)))⟩; have n3_ : Aside0 (w55.heap[gb396]? = some (.cells #[.int .i64 a0_0, .int .i64 a0_1, .slice A0_2 l0_2.length c0_2] 32 (0, 0))) := ⟨(by rw [hw]; exact (by (with_reducible repeat (first | refine blk_drewN ?_ _ | refine blk_drew ?_ | refine blk_alloc ?_ _)); refine blk_far ?_ NB396_417.out _; (with_reducible repeat (first | refine blk_drewN ?_ _ | refine blk_drew ?_ | refine blk_alloc ?_ _)); refine blk_far ?_ NB396_417.out _; (with_reducible repeat (first | refine blk_drewN ?_ _ | refine blk_drew ?_ | refine blk_alloc ?_ _)); refine blk_far ?_ NB396_417.out _; (with_reducible repeat (first | refine blk_drewN ?_ _ | refine blk_drew ?_ | refine blk_alloc ?_ _)); exact BK396.out))⟩; have n4_ : Aside0 (w55.heap[gb417]? = some (.cells #[.int .i64 t410, .int .i64 t411, .slice Ao54 t412.length co54] 32 (0, 0))) := ⟨(by rw [hw]; exact (by (with_reducible repeat (first | refine blk_drewN ?_ _ | refine blk_drew ?_ | refine blk_alloc ?_ _)); refine blk_put (cs := #[.int .i64 t410, .int .i64 t411, .slice none 0 0]) ?_ 2 _ rfl; (with_reducible repeat (first | refine blk_drewN ?_ _ | refine blk_drew ?_ | refine blk_alloc ?_ _)); refine blk_put (cs := #[.int .i64 t410, .int .i64 0, .slice none 0 0]) ?_ 1 _ rfl; (with_reducible repeat (first | refine blk_drewN ?_ _ | refine blk_drew ?_ | refine blk_alloc ?_ _)); refine blk_put (cs := #[.int .i64 0, .int .i64 0, .slice none 0 0]) ?_ 0 _ rfl; (with_reducible repeat (first | refine blk_drewN ?_ _ | refine blk_drew ?_ | refine blk_alloc ?_ _)); exact BK417.out))⟩; have n5_ : Aside0 (Below w.heap.size w w55) := ⟨(by rw [hw]; exact (by repeat (first | (with_reducible first | exact HB.out | apply below_alloc | apply pw_below_drewN | apply below_drew1 | refine below_set ?_ GE396.out | refine below_set ?_ GE417.out) | exact HB.out)))⟩; clear hw; clear HO_7; clear HO409; clear HO414; clear BK396; clear BK417; clear HB; have HO_7 := n0_; have HO409 := n1_; have HO414 := n2_; have BK396 := n3_; have BK417 := n4_; have HB := n5_; clear n0_ n1_ n2_ n3_ n4_ n5_; have p418 : 0 ≤ (a1 : Int) := of_decide_eq_true (by first | (with_reducible assumption) | assumption); have q418 : a1 < (t402.length : Int) := of_decide_eq_true (by first | (with_reducible assumption) | assumption); obtain ⟨ad418, e418, hx418_0⟩ := Kd.at_int (Kd.R_reads' HO_7.out).2.2 a1 p418 q418; cases e418; replace p418 := eq_true p418; replace q418 := eq_true q418; have p44 : 0 ≤ (a1 : Int) := of_decide_eq_true (by first | (with_reducible assumption) | assumption); have q44 : (a1 : Int) < ((t402.length : Int) : Int) := of_decide_eq_true (by first | (with_reducible assumption) | assumption); obtain ⟨go44, co44, eo44, gb44, gl44, cl44, HG44⟩ := Kd.R_form HO_7.out (by omega); (first | cases eo44 | (injection eo44 with ea_ en_ ec_; (first | subst ea_ | (injection ea_ with ea_; subst ea_)); subst ec_; clear en_)); have GB44 := Aside0.mk gb44; have GG44 := Aside0.mk HG44; clear gb44 gl44 HG44; (first | simp only [add_plain] at hx418_0 | skip); obtain ⟨hx44_0, hf44_0⟩ := Kd.R_celln 0 HO_7.out (a1 : Int) p44 q44; replace p44 := eq_true p44; replace q44 := eq_true q44; obtain ⟨hy56_, hz56_⟩ := Kd.R_celln 0 HO_7.out (a1 : Int) (of_decide_eq_true (by first | (with_reducible assumption) | assumption)) (of_decide_eq_true (by first | (with_reducible assumption) | assumption)); have HP56 := Kd.R_putg HO_7.out (a1 : Int) a2) | ((with_reducible refine gate_store (t := 5) (p := 58) rfl ?_); refine store_event (t := 5) (p := 58) (v := ?vo_w57) (w1 := (w55.setCell ⟨go44, (a1 : Int).toNat, none⟩ (.int .u8 a2))) ?hg ?ho ?hn ?hr ?_; (case ho => rfl); (case hg => rfl); (case hn => rfl); (case hr => first | (go_simp; done) | (go_simp; rfl)); intro w57 hw; have hg : w55.grownBy w57 (some go44) := (by rw [hw]; exact HP56.2); have hp_ : Kd.R (Kd.int .u8) 5 w57 w.heap.size (fun k_ => some k_ ≠ (.slice Ao49 t407.length co49 : Value).ownBlock) (.slice (some ⟨go44, 0, none⟩) t402.length co47) y419 := (by rw [hw, Ny419.out]; exact HP56.1); clear HP56; have n0_ := Aside0.mk (hp_); have n1_ := Aside0.mk (blk_grown (g := gb396) (o := .cells #[.int .i64 a0_0, .int .i64 a0_1, .slice A0_2 l0_2.length c0_2] 32 (0, 0)) (by (with_reducible repeat (first | refine blk_drewN ?_ _ | refine blk_drew ?_ | refine blk_alloc ?_ _)); exact BK396.out) hg (Kd.R_ne HO_7.out BK396.out (by decide))); have n2_ := Aside0.mk (Kd.R_after (v := (.slice (some ⟨go44, 0, none⟩) t402.length co47)) (v1 := (.slice (some ⟨go44, 0, none⟩) t402.length co47)) (ok := (fun _ => True)) (by (with_reducible repeat (first | apply Kd.R_alloc | apply Kd.R_drewN | apply Kd.R_drew)); exact Kd.R_mono HO409.out (fun _ hk => ⟨trivial, hk⟩)) hg (.inl rfl)); have n3_ := Aside0.mk (Kd.R_over' (v := (.slice (some ⟨go44, 0, none⟩) t402.length co47)) (by (with_reducible repeat (first | apply Kd.R_alloc | apply Kd.R_drewN | apply Kd.R_drew)); exact HO414.out) (Kd.R_typed HO_7.out) (by decide) hg); have n4_ := Aside0.mk (blk_grown (g := gb417) (o := .cells #[.int .i64 t410, .int .i64 t411, .slice Ao54 t412.length co54] 32 (0, 0)) (by (with_reducible repeat (first | refine blk_drewN ?_ _ | refine blk_drew ?_ | refine blk_alloc ?_ _)); exact BK417.out) hg (Kd.R_ne HO_7.out BK417.out (by decide))); have n5_ := Aside0.mk ((by rw [hw]; exact below_set (HB.out) GB44.out : Below w.heap.size w w57)); clear HO_7; clear BK396; clear HO409; clear HO414; clear BK417; clear HB; have HO_7 := n0_; have BK396 := n1_; have HO409 := n2_; have HO414 := n3_; have BK417 := n4_; have HB := n5_; clear n0_ n1_ n2_ n3_ n4_ n5_; clear hg hw hp_) | ((with_reducible refine gate_callee (f := 24) rfl ?_); refine goesL_ (some 61) rfl rfl Tryd.func24 (by kernel_rfl) rfl #[.slice (some ⟨go44, 0, none⟩) y419.length co47] rfl (by (try simp only [List.map_toArray, List.map_cons, List.map_nil]); first | done | (rw [show y419.length = t402.length from (Kd.R_reads' HO_7.out).1.symm] <;> rfl) | rfl | (simp only [List.length_drop, List.length_take]; rfl)) ?_; (with_reducible refine (lockbox_Parse.calls _ _ y419 t420 t421 t422 t425 t426 _ ?side1 ?side2 A45.out).mono ?_); (case side1 => repeat (first | exact (Kd.R_reads' HO_7.out).2.2 | (with_reducible refine Kd.C_alloc ?_ _) | (with_reducible refine Kd.C_drewN ?_ _) | (with_reducible refine Kd.C_drew ?_))); (case side2 => rw [show y419.length = t402.length from (Kd.R_reads' HO_7.out).1.symm]; exact (Kd.R_reads' HO_7.out).2.1); rintro e w58 ⟨v423, rfl, ho0, hb⟩; refine ⟨_, rfl, ?_⟩; have n0_ := Aside0.mk (Kd.R_below (by (with_reducible repeat (first | apply Kd.R_alloc | apply Kd.R_drewN | apply Kd.R_drew)); exact HO_7.out) hb); have n1_ := Aside0.mk (Kd.R_below (by (with_reducible repeat (first | apply Kd.R_alloc | apply Kd.R_drewN | apply Kd.R_drew)); exact HO409.out) hb); have n2_ := Aside0.mk (Kd.R_elder' (by (with_reducible repeat (first | apply Kd.R_alloc | apply Kd.R_drewN | apply Kd.R_drew)); exact HO414.out) (Kd.R_base ho0) hb); have n3_ := Aside0.mk (Kd.R_lower (Kd.R_new' ho0 (Kd.R_lt (by (with_reducible repeat (first | apply Kd.R_alloc | apply Kd.R_drewN | apply Kd.R_drew)); exact HO414.out))) (below_size (by repeat (first | (with_reducible first | exact HB.out | apply below_alloc | apply pw_below_drewN | apply below_drew1 | refine below_set ?_ GE396.out | refine below_set ?_ GE417.out) | exact HB.out)))); have n4_ := Aside0.mk (blk_below (g := gb396) (o := .cells #[.int .i64 a0_0, .int .i64 a0_1, .slice A0_2 l0_2.length c0_2] 32 (0, 0)) (by (with_reducible repeat (first | refine blk_drewN ?_ _ | refine blk_drew ?_ | refine blk_alloc ?_ _)); exact BK396.out) hb); have n5_ := Aside0.mk (blk_below (g := gb417) (o := .cells #[.int .i64 t410, .int .i64 t411, .slice Ao54 t412.length co54] 32 (0, 0)) (by (with_reducible repeat (first | refine blk_drewN ?_ _ | refine blk_drew ?_ | refine blk_alloc ?_ _)); exact BK417.out) hb); have n6_ := Aside0.mk (below_step (by repeat (first | (with_reducible first | exact HB.out | apply below_alloc | apply pw_below_drewN | apply below_drew1 | refine below_set ?_ GE396.out | refine below_set ?_ GE417.out) | exact HB.out)) hb); clear HO_7; clear HO409; clear HO414; clear BK396; clear BK417; clear HB; have HO_7 := n0_; have HO409 := n1_; have HO414 := n2_; have HO424 := n3_; have BK396 := n4_; have BK417 := n5_; have HB := n6_; clear n0_ n1_ n2_ n3_ n4_ n5_ n6_; (try clear hb); (try clear hb2); (try clear hk); (try clear hi); (try clear ho0)) | ((with_reducible refine gate_dst (N := 12) rfl ?_); (try (refine gate_guard (by rfl) ?_; dsimp only)); refine box_event ?hg (N := 12) ?hd (cs := #[.int .i64 0, .int .i64 0, .slice none 0 0]) (t := 32) ?hr ?_; (case hd => rfl); (case hg => rfl); (case hr => first | (go_simp; done) | (go_simp; rfl)); intro gb427 hg w59 hbox hb; have n0_ := Aside0.mk (Kd.R_below (by (with_reducible repeat (first | apply Kd.R_alloc | apply Kd.R_drewN | apply Kd.R_drew)); exact HO_7.out) hb); have n1_ := Aside0.mk (Kd.R_below (by (with_reducible repeat (first | apply Kd.R_alloc | apply Kd.R_drewN | apply Kd.R_drew)); exact HO409.out) hb); have n2_ := Aside0.mk (Kd.R_below (by (with_reducible repeat (first | apply Kd.R_alloc | apply Kd.R_drewN | apply Kd.R_drew)); exact HO414.out) hb); have n3_ := Aside0.mk (Kd.R_below (by (with_reducible repeat (first | apply Kd.R_alloc | apply Kd.R_drewN | apply Kd.R_drew)); exact HO424.out) hb); have n4_ := Aside0.mk (blk_below (g := gb396) (o := .cells #[.int .i64 a0_0, .int .i64 a0_1, .slice A0_2 l0_2.length c0_2] 32 (0, 0)) (by (with_reducible repeat (first | refine blk_drewN ?_ _ | refine blk_drew ?_ | refine blk_alloc ?_ _)); exact BK396.out) hb); have n5_ := Aside0.mk (blk_below (g := gb417) (o := .cells #[.int .i64 t410, .int .i64 t411, .slice Ao54 t412.length co54] 32 (0, 0)) (by (with_reducible repeat (first | refine blk_drewN ?_ _ | refine blk_drew ?_ | refine blk_alloc ?_ _)); exact BK417.out) hb); have n6_ := Aside0.mk (below_step (by repeat (first | (with_reducible first | exact HB.out | apply below_alloc | apply pw_below_drewN | apply below_drew1 | refine below_set ?_ GE396.out | refine below_set ?_ GE417.out) | exact HB.out)) hb); have n7_ := Aside0.mk (hbox); have n8_ := Aside0.mk ((by rw [hg]; exact (below_size (by repeat (first | (with_reducible first | exact HB.out | apply below_alloc | apply pw_below_drewN | apply below_drew1 | refine below_set ?_ GE396.out | refine below_set ?_ GE417.out) | exact HB.out))) : w.heap.size ≤ gb427)); have n9_ := Aside0.mk ((by rw [hg]; exact (below_size (by repeat (first | (with_reducible first | exact HB.out | apply below_alloc | apply pw_below_drewN | apply below_drew1 | refine below_set ?_ GE396.out | refine below_set ?_ GE417.out) | exact HB.out))) : w.heap.size ≤ gb427)); have n10_ := Aside0.mk ((by rw [hg]; exact Nat.ne_of_lt (blk_lt (g := gb396) (o := .cells #[.int .i64 a0_0, .int .i64 a0_1, .slice A0_2 l0_2.length c0_2] 32 (0, 0)) (by (with_reducible repeat (first | refine blk_drewN ?_ _ | refine blk_drew ?_ | refine blk_alloc ?_ _)); exact BK396.out)) : gb396 ≠ gb427)); have n11_ := Aside0.mk ((by rw [hg]; exact Nat.ne_of_gt (blk_lt (g := gb396) (o := .cells #[.int .i64 a0_0, .int .i64 a0_1, .slice A0_2 l0_2.length c0_2] 32 (0, 0)) (by (with_reducible repeat (first | refine blk_drewN ?_ _ | refine blk_drew ?_ | refine blk_alloc ?_ _)); exact BK396.out)) : gb427 ≠ gb396)); have n12_ := Aside0.mk ((by rw [hg]; exact Nat.ne_of_lt (blk_lt (g := gb417) (o := .cells #[.int .i64 t410, .int .i64 t411, .slice Ao54 t412.length co54] 32 (0, 0)) (by (with_reducible repeat (first | refine blk_drewN ?_ _ | refine blk_drew ?_ | refine blk_alloc ?_ _)); exact BK417.out)) : gb417 ≠ gb427)); have n13_ := Aside0.mk ((by rw [hg]; exact Nat.ne_of_gt (blk_lt (g := gb417) (o := .cells #[.int .i64 t410, .int .i64 t411, .slice Ao54 t412.length co54] 32 (0, 0)) (by (with_reducible repeat (first | refine blk_drewN ?_ _ | refine blk_drew ?_ | refine blk_alloc ?_ _)); exact BK417.out)) : gb427 ≠ gb417)); clear HO_7; clear HO409; clear HO414; clear HO424; clear BK396; clear BK417; clear HB; have HO_7 := n0_; have HO409 := n1_; have HO414 := n2_; have HO424 := n3_; have BK396 := n4_; have BK417 := n5_; have HB := n6_; have BK427 := n7_; have GW427 := n8_; have GE427 := n9_; have NB396_427 := n10_; have NB427_396 := n11_; have NB417_427 := n12_; have NB427_417 := n13_; clear n0_ n1_ n2_ n3_ n4_ n5_ n6_ n7_ n8_ n9_ n10_ n11_ n12_ n13_; clear hb hbox hg; have hnb60 := NB427_396.out; have hnc60 := NB396_427.out; have hnb61 := NB427_417.out; have hnc61 := NB417_427.out; have hcz62_0 : w59.cell? ⟨gb427, 0, none⟩ = some (.int .i64 0) := (blk_cell BK427.out 0).trans rfl; have hcz62_1 : w59.cell? ⟨gb427, 1, none⟩ = some (.int .i64 0) := (blk_cell BK427.out 1).trans rfl; have hcz62_2 : w59.cell? ⟨gb427, 2, none⟩ = some (.slice none 0 0) := (blk_cell BK427.out 2).trans rfl; have hfz62_0 := blk_frozen BK427.out 0; have hfz62_1 := blk_frozen BK427.out 1; have hfz62_2 := blk_frozen BK427.out 2; obtain ⟨Ao63, co63, eo63⟩ := Kd.R_slice HO424.out; subst eo63))
                      go_ret
                      exact ⟨by first | rfl | (simp [errW_none, errW_some] <;> rfl) | (simp [*, errW_none, errW_some] <;> rfl), by repeat (first | (with_reducible first | exact HB.out | apply below_alloc | apply pw_below_drewN | apply below_drew1 | refine below_set ?_ GE396.out | refine below_set ?_ GE417.out | refine below_set ?_ GE427.out) | exact HB.out)⟩
                    · rw [if_neg c46] at H
                      have c46b0 : (t425 == 0) = false := beq_eq_false_iff_ne.mpr c46
                      have c46b1 : (t425 != 0) = true := bne_iff_ne.mpr c46
                      obtain rfl := Option.some.inj H
                      obtain ⟨Ao64, co64, eo64⟩ := Kd.R_slice HO_7.out
                      subst eo64
                      go_wp2_with (first | ((with_reducible refine gate_callee (f := 14) rfl ?_); refine goesL_ (some 42) rfl rfl Tryd.func14 (by kernel_rfl) rfl #[.slice Ao64 t402.length co64] rfl (by (try simp only [List.map_toArray, List.map_cons, List.map_nil]); first | done | rfl | (simp only [List.length_drop, List.length_take]; rfl)) ?_; (with_reducible refine (arrearslaw19_CopyBytes.calls kj17 _ _ t402 t407 _ ?side1 ?side2 A30.out).mono ?_); (case side1 => repeat (first | exact (Kd.R_reads' HO_7.out).2.2 | (with_reducible refine Kd.C_alloc ?_ _) | (with_reducible refine Kd.C_drewN ?_ _) | (with_reducible refine Kd.C_drew ?_))); (case side2 => exact (Kd.R_reads' HO_7.out).2.1); rintro e w65 ⟨v408, rfl, ho0, hb⟩; refine ⟨_, rfl, ?_⟩; have n0_ := Aside0.mk (Kd.R_elder' (by (with_reducible repeat (first | apply Kd.R_alloc | apply Kd.R_drewN | apply Kd.R_drew)); exact HO_7.out) (Kd.R_base ho0) hb); have n1_ := Aside0.mk (Kd.R_lower (Kd.R_new' ho0 (Kd.R_lt (by (with_reducible repeat (first | apply Kd.R_alloc | apply Kd.R_drewN | apply Kd.R_drew)); exact HO_7.out))) (below_size (by repeat (first | (with_reducible first | exact HB.out | apply below_alloc | apply pw_below_drewN | apply below_drew1 | refine below_set ?_ GE396.out) | exact HB.out)))); have n2_ := Aside0.mk (blk_below (g := gb396) (o := .cells #[.int .i64 a0_0, .int .i64 a0_1, .slice A0_2 l0_2.length c0_2] 32 (0, 0)) (by (with_reducible repeat (first | refine blk_drewN ?_ _ | refine blk_drew ?_ | refine blk_alloc ?_ _)); exact BK396.out) hb); have n3_ := Aside0.mk (below_step (by repeat (first | (with_reducible first | exact HB.out | apply below_alloc | apply pw_below_drewN | apply below_drew1 | refine below_set ?_ GE396.out) | exact HB.out)) hb); clear HO_7; clear BK396; clear HB; have HO_7 := n0_; have HO409 := n1_; have BK396 := n2_; have HB := n3_; clear n0_ n1_ n2_ n3_; (try clear hb); (try clear hb2); (try clear hk); (try clear hi); (try clear ho0); obtain ⟨Ao66, co66, eo66⟩ := Kd.R_slice HO409.out; subst eo66) | ((with_reducible refine gate_callee (f := 24) rfl ?_); refine goesL_ (some 43) rfl rfl Tryd.func24 (by kernel_rfl) rfl #[.slice Ao66 t407.length co66] rfl (by (try simp only [List.map_toArray, List.map_cons, List.map_nil]); first | done | rfl | (simp only [List.length_drop, List.length_take]; rfl)) ?_; (with_reducible refine (lockbox_Parse.calls _ _ t407 t410 t411 t412 t415 t416 _ ?side1 ?side2 A31.out).mono ?_); (case side1 => repeat (first | exact (Kd.R_reads' HO409.out).2.2 | (with_reducible refine Kd.C_alloc ?_ _) | (with_reducible refine Kd.C_drewN ?_ _) | (with_reducible refine Kd.C_drew ?_))); (case side2 => exact (Kd.R_reads' HO409.out).2.1); rintro e w67 ⟨v413, rfl, ho0, hb⟩; refine ⟨_, rfl, ?_⟩; have n0_ := Aside0.mk (Kd.R_below (by (with_reducible repeat (first | apply Kd.R_alloc | apply Kd.R_drewN | apply Kd.R_drew)); exact HO_7.out) hb); have n1_ := Aside0.mk (Kd.R_below (by (with_reducible repeat (first | apply Kd.R_alloc | apply Kd.R_drewN | apply Kd.R_drew)); exact HO409.out) hb); have n2_ := Aside0.mk (Kd.R_lower ho0 (below_size (by repeat (first | (with_reducible first | exact HB.out | apply below_alloc | apply pw_below_drewN | apply below_drew1 | refine below_set ?_ GE396.out) | exact HB.out)))); have n3_ := Aside0.mk (blk_below (g := gb396) (o := .cells #[.int .i64 a0_0, .int .i64 a0_1, .slice A0_2 l0_2.length c0_2] 32 (0, 0)) (by (with_reducible repeat (first | refine blk_drewN ?_ _ | refine blk_drew ?_ | refine blk_alloc ?_ _)); exact BK396.out) hb); have n4_ := Aside0.mk (below_step (by repeat (first | (with_reducible first | exact HB.out | apply below_alloc | apply pw_below_drewN | apply below_drew1 | refine below_set ?_ GE396.out) | exact HB.out)) hb); clear HO_7; clear HO409; clear BK396; clear HB; have HO_7 := n0_; have HO409 := n1_; have HO414 := n2_; have BK396 := n3_; have HB := n4_; clear n0_ n1_ n2_ n3_ n4_; (try clear hb); (try clear hb2); (try clear hk); (try clear hi); (try clear ho0)) | ((with_reducible refine gate_dst (N := 9) rfl ?_); (try (refine gate_guard (by rfl) ?_; dsimp only)); refine box_event ?hg (N := 9) ?hd (cs := #[.int .i64 0, .int .i64 0, .slice none 0 0]) (t := 32) ?hr ?_; (case hd => rfl); (case hg => rfl); (case hr => first | (go_simp; done) | (go_simp; rfl)); intro gb417 hg w68 hbox hb; have n0_ := Aside0.mk (Kd.R_below (by (with_reducible repeat (first | apply Kd.R_alloc | apply Kd.R_drewN | apply Kd.R_drew)); exact HO_7.out) hb); have n1_ := Aside0.mk (Kd.R_below (by (with_reducible repeat (first | apply Kd.R_alloc | apply Kd.R_drewN | apply Kd.R_drew)); exact HO409.out) hb); have n2_ := Aside0.mk (Kd.R_below (by (with_reducible repeat (first | apply Kd.R_alloc | apply Kd.R_drewN | apply Kd.R_drew)); exact HO414.out) hb); have n3_ := Aside0.mk (blk_below (g := gb396) (o := .cells #[.int .i64 a0_0, .int .i64 a0_1, .slice A0_2 l0_2.length c0_2] 32 (0, 0)) (by (with_reducible repeat (first | refine blk_drewN ?_ _ | refine blk_drew ?_ | refine blk_alloc ?_ _)); exact BK396.out) hb); have n4_ := Aside0.mk (below_step (by repeat (first | (with_reducible first | exact HB.out | apply below_alloc | apply pw_below_drewN | apply below_drew1 | refine below_set ?_ GE396.out) | exact HB.out)) hb); have n5_ := Aside0.mk (hbox); have n6_ := Aside0.mk ((by rw [hg]; exact (below_size (by repeat (first | (with_reducible first | exact HB.out | apply below_alloc | apply pw_below_drewN | apply below_drew1 | refine below_set ?_ GE396.out) | exact HB.out))) : w.heap.size ≤ gb417)); have n7_ := Aside0.mk ((by rw [hg]; exact (below_size (by repeat (first | (with_reducible first | exact HB.out | apply below_alloc | apply pw_below_drewN | apply below_drew1 | refine below_set ?_ GE396.out) | exact HB.out))) : w.heap.size ≤ gb417)); have n8_ := Aside0.mk ((by rw [hg]; exact Nat.ne_of_lt (blk_lt (g := gb396) (o := .cells #[.int .i64 a0_0, .int .i64 a0_1, .slice A0_2 l0_2.length c0_2] 32 (0, 0)) (by (with_reducible repeat (first | refine blk_drewN ?_ _ | refine blk_drew ?_ | refine blk_alloc ?_ _)); exact BK396.out)) : gb396 ≠ gb417)); have n9_ := Aside0.mk ((by rw [hg]; exact Nat.ne_of_gt (blk_lt (g := gb396) (o := .cells #[.int .i64 a0_0, .int .i64 a0_1, .slice A0_2 l0_2.length c0_2] 32 (0, 0)) (by (with_reducible repeat (first | refine blk_drewN ?_ _ | refine blk_drew ?_ | refine blk_alloc ?_ _)); exact BK396.out)) : gb417 ≠ gb396)); clear HO_7; clear HO409; clear HO414; clear BK396; clear HB; have HO_7 := n0_; have HO409 := n1_; have HO414 := n2_; have BK396 := n3_; have HB := n4_; have BK417 := n5_; have GW417 := n6_; have GE417 := n7_; have NB396_417 := n8_; have NB417_396 := n9_; clear n0_ n1_ n2_ n3_ n4_ n5_ n6_ n7_ n8_ n9_; clear hb hbox hg; have hnb69 := NB417_396.out; have hnc69 := NB396_417.out; have hcz70_0 : w68.cell? ⟨gb417, 0, none⟩ = some (.int .i64 0) := (blk_cell BK417.out 0).trans rfl; have hcz70_1 : w68.cell? ⟨gb417, 1, none⟩ = some (.int .i64 0) := (blk_cell BK417.out 1).trans rfl; have hcz70_2 : w68.cell? ⟨gb417, 2, none⟩ = some (.slice none 0 0) := (blk_cell BK417.out 2).trans rfl; have hfz70_0 := blk_frozen BK417.out 0; have hfz70_1 := blk_frozen BK417.out 1; have hfz70_2 := blk_frozen BK417.out 2; obtain ⟨Ao71, co71, eo71⟩ := Kd.R_slice HO414.out; subst eo71) | ((with_reducible refine gate_store (t := 32) (p := 9) rfl ?_); refine store_event (t := 32) (p := 9) (v := ?vo_w72) (w1 := (((w68.setCell ⟨gb417, 0, none⟩ (.int .i64 t410)).setCell ⟨gb417, 1, none⟩ (.int .i64 t411)).setCell ⟨gb417, 2, none⟩ (.slice Ao71 t412.length co71))) ?hg ?ho ?hn ?hr ?_; (case ho => rfl); (case hg => rfl); (case hn => rfl); (case hr => first | (go_simp; done) | (go_simp; rfl)); intro w72 hw; have n0_ : Aside0 (Kd.R (Kd.int .u8) 5 w72 w.heap.size (fun k_ => some k_ ≠ (.slice Ao66 t407.length co66 : Value).ownBlock) (.slice Ao64 t402.length co64) t402) := ⟨(by rw [hw]; exact (by (with_reducible repeat (first | apply Kd.R_alloc | apply Kd.R_drewN | apply Kd.R_drew)); exact Kd.R_mono (Kd.R_far (p := ⟨gb417, 2, none⟩) (Kd.R_far (p := ⟨gb417, 1, none⟩) (Kd.R_far (p := ⟨gb417, 0, none⟩) (Kd.R_types HO_7.out BK417.out (by decide)) (fun _ hk => hk.2) (.int .i64 t410)) (fun _ hk => hk.2) (.int .i64 t411)) (fun _ hk => hk.2) (.slice Ao71 t412.length co71)) (fun _ hk => hk.1.2)))⟩; have n1_ : Aside0 (Kd.R (Kd.int .u8) 5 w72 w.heap.size (fun k_ => some k_ ≠ (.slice Ao64 t402.length co64 : Value).ownBlock) (.slice Ao66 t407.length co66) t407) := ⟨(by rw [hw]; exact (by (with_reducible repeat (first | apply Kd.R_alloc | apply Kd.R_drewN | apply Kd.R_drew)); exact Kd.R_mono (Kd.R_far (p := ⟨gb417, 2, none⟩) (Kd.R_far (p := ⟨gb417, 1, none⟩) (Kd.R_far (p := ⟨gb417, 0, none⟩) (Kd.R_types HO409.out BK417.out (by decide)) (fun _ hk => hk.2) (.int .i64 t410)) (fun _ hk => hk.2) (.int .i64 t411)) (fun _ hk => hk.2) (.slice Ao71 t412.length co71)) (fun _ hk => hk.1.2)))⟩; have n2_ : Aside0 (Kd.R k50 50 w72 w.heap.size (fun _ => True) (.slice Ao71 t412.length co71) t412) := ⟨(by rw [hw]; exact (by (with_reducible repeat (first | apply Kd.R_alloc | apply Kd.R_drewN | apply Kd.R_drew)); exact Kd.R_mono (Kd.R_far (p := ⟨gb417, 2, none⟩) (Kd.R_far (p := ⟨gb417, 1, none⟩) (Kd.R_far (p := ⟨gb417, 0, none⟩) (Kd.R_types HO414.out BK417.out (by decide)) (fun _ hk => hk.2) (.int .i64 t410)) (fun _ hk => hk.2) (.int .i64 t411)) (fun _ hk => hk.2) (.slice Ao71 t412.length co71)) (fun _ hk => trivial)))⟩; have n3_ : Aside0 (w72.heap[gb396]? = some (.cells #[.int .i64 a0_0, .int .i64 a0_1, .slice A0_2 l0_2.length c0_2] 32 (0, 0))) := ⟨(by rw [hw]; exact (by (with_reducible repeat (first | refine blk_drewN ?_ _ | refine blk_drew ?_ | refine blk_alloc ?_ _)); refine blk_far ?_ NB396_417.out _; (with_reducible repeat (first | refine blk_drewN ?_ _ | refine blk_drew ?_ | refine blk_alloc ?_ _)); refine blk_far ?_ NB396_417.out _; (with_reducible repeat (first | refine blk_drewN ?_ _ | refine blk_drew ?_ | refine blk_alloc ?_ _)); refine blk_far ?_ NB396_417.out _; (with_reducible repeat (first | refine blk_drewN ?_ _ | refine blk_drew ?_ | refine blk_alloc ?_ _)); exact BK396.out))⟩; have n4_ : Aside0 (w72.heap[gb417]? = some (.cells #[.int .i64 t410, .int .i64 t411, .slice Ao71 t412.length co71] 32 (0, 0))) := ⟨(by rw [hw]; exact (by (with_reducible repeat (first | refine blk_drewN ?_ _ | refine blk_drew ?_ | refine blk_alloc ?_ _)); refine blk_put (cs := #[.int .i64 t410, .int .i64 t411, .slice none 0 0]) ?_ 2 _ rfl; (with_reducible repeat (first | refine blk_drewN ?_ _ | refine blk_drew ?_ | refine blk_alloc ?_ _)); refine blk_put (cs := #[.int .i64 t410, .int .i64 0, .slice none 0 0]) ?_ 1 _ rfl; (with_reducible repeat (first | refine blk_drewN ?_ _ | refine blk_drew ?_ | refine blk_alloc ?_ _)); refine blk_put (cs := #[.int .i64 0, .int .i64 0, .slice none 0 0]) ?_ 0 _ rfl; (with_reducible repeat (first | refine blk_drewN ?_ _ | refine blk_drew ?_ | refine blk_alloc ?_ _)); exact BK417.out))⟩; have n5_ : Aside0 (Below w.heap.size w w72) := ⟨(by rw [hw]; exact (by repeat (first | (with_reducible first | exact HB.out | apply below_alloc | apply pw_below_drewN | apply below_drew1 | refine below_set ?_ GE396.out | refine below_set ?_ GE417.out) | exact HB.out)))⟩; clear hw; clear HO_7; clear HO409; clear HO414; clear BK396; clear BK417; clear HB; have HO_7 := n0_; have HO409 := n1_; have HO414 := n2_; have BK396 := n3_; have BK417 := n4_; have HB := n5_; clear n0_ n1_ n2_ n3_ n4_ n5_; have p418 : 0 ≤ (a1 : Int) := of_decide_eq_true (by first | (with_reducible assumption) | assumption); have q418 : a1 < (t402.length : Int) := of_decide_eq_true (by first | (with_reducible assumption) | assumption); obtain ⟨ad418, e418, hx418_0⟩ := Kd.at_int (Kd.R_reads' HO_7.out).2.2 a1 p418 q418; cases e418; replace p418 := eq_true p418; replace q418 := eq_true q418; have p44 : 0 ≤ (a1 : Int) := of_decide_eq_true (by first | (with_reducible assumption) | assumption); have q44 : (a1 : Int) < ((t402.length : Int) : Int) := of_decide_eq_true (by first | (with_reducible assumption) | assumption); obtain ⟨go44, co44, eo44, gb44, gl44, cl44, HG44⟩ := Kd.R_form HO_7.out (by omega); (first | cases eo44 | (injection eo44 with ea_ en_ ec_; (first | subst ea_ | (injection ea_ with ea_; subst ea_)); subst ec_; clear en_)); have GB44 := Aside0.mk gb44; have GG44 := Aside0.mk HG44; clear gb44 gl44 HG44; (first | simp only [add_plain] at hx418_0 | skip); obtain ⟨hx44_0, hf44_0⟩ := Kd.R_celln 0 HO_7.out (a1 : Int) p44 q44; replace p44 := eq_true p44; replace q44 := eq_true q44; obtain ⟨hy73_, hz73_⟩ := Kd.R_celln 0 HO_7.out (a1 : Int) (of_decide_eq_true (by first | (with_reducible assumption) | assumption)) (of_decide_eq_true (by first | (with_reducible assumption) | assumption)); have HP73 := Kd.R_putg HO_7.out (a1 : Int) a2) | ((with_reducible refine gate_store (t := 5) (p := 58) rfl ?_); refine store_event (t := 5) (p := 58) (v := ?vo_w74) (w1 := (w72.setCell ⟨go44, (a1 : Int).toNat, none⟩ (.int .u8 a2))) ?hg ?ho ?hn ?hr ?_; (case ho => rfl); (case hg => rfl); (case hn => rfl); (case hr => first | (go_simp; done) | (go_simp; rfl)); intro w74 hw; have hg : w72.grownBy w74 (some go44) := (by rw [hw]; exact HP73.2); have hp_ : Kd.R (Kd.int .u8) 5 w74 w.heap.size (fun k_ => some k_ ≠ (.slice Ao66 t407.length co66 : Value).ownBlock) (.slice (some ⟨go44, 0, none⟩) t402.length co64) y419 := (by rw [hw, Ny419.out]; exact HP73.1); clear HP73; have n0_ := Aside0.mk (hp_); have n1_ := Aside0.mk (blk_grown (g := gb396) (o := .cells #[.int .i64 a0_0, .int .i64 a0_1, .slice A0_2 l0_2.length c0_2] 32 (0, 0)) (by (with_reducible repeat (first | refine blk_drewN ?_ _ | refine blk_drew ?_ | refine blk_alloc ?_ _)); exact BK396.out) hg (Kd.R_ne HO_7.out BK396.out (by decide))); have n2_ := Aside0.mk (Kd.R_after (v := (.slice (some ⟨go44, 0, none⟩) t402.length co64)) (v1 := (.slice (some ⟨go44, 0, none⟩) t402.length co64)) (ok := (fun _ => True)) (by (with_reducible repeat (first | apply Kd.R_alloc | apply Kd.R_drewN | apply Kd.R_drew)); exact Kd.R_mono HO409.out (fun _ hk => ⟨trivial, hk⟩)) hg (.inl rfl)); have n3_ := Aside0.mk (Kd.R_over' (v := (.slice (some ⟨go44, 0, none⟩) t402.length co64)) (by (with_reducible repeat (first | apply Kd.R_alloc | apply Kd.R_drewN | apply Kd.R_drew)); exact HO414.out) (Kd.R_typed HO_7.out) (by decide) hg); have n4_ := Aside0.mk (blk_grown (g := gb417) (o := .cells #[.int .i64 t410, .int .i64 t411, .slice Ao71 t412.length co71] 32 (0, 0)) (by (with_reducible repeat (first | refine blk_drewN ?_ _ | refine blk_drew ?_ | refine blk_alloc ?_ _)); exact BK417.out) hg (Kd.R_ne HO_7.out BK417.out (by decide))); have n5_ := Aside0.mk ((by rw [hw]; exact below_set (HB.out) GB44.out : Below w.heap.size w w74)); clear HO_7; clear BK396; clear HO409; clear HO414; clear BK417; clear HB; have HO_7 := n0_; have BK396 := n1_; have HO409 := n2_; have HO414 := n3_; have BK417 := n4_; have HB := n5_; clear n0_ n1_ n2_ n3_ n4_ n5_; clear hg hw hp_) | ((with_reducible refine gate_callee (f := 24) rfl ?_); refine goesL_ (some 61) rfl rfl Tryd.func24 (by kernel_rfl) rfl #[.slice (some ⟨go44, 0, none⟩) y419.length co64] rfl (by (try simp only [List.map_toArray, List.map_cons, List.map_nil]); first | done | (rw [show y419.length = t402.length from (Kd.R_reads' HO_7.out).1.symm] <;> rfl) | rfl | (simp only [List.length_drop, List.length_take]; rfl)) ?_; (with_reducible refine (lockbox_Parse.calls _ _ y419 t420 t421 t422 t425 t426 _ ?side1 ?side2 A45.out).mono ?_); (case side1 => repeat (first | exact (Kd.R_reads' HO_7.out).2.2 | (with_reducible refine Kd.C_alloc ?_ _) | (with_reducible refine Kd.C_drewN ?_ _) | (with_reducible refine Kd.C_drew ?_))); (case side2 => rw [show y419.length = t402.length from (Kd.R_reads' HO_7.out).1.symm]; exact (Kd.R_reads' HO_7.out).2.1); rintro e w75 ⟨v423, rfl, ho0, hb⟩; refine ⟨_, rfl, ?_⟩; have n0_ := Aside0.mk (Kd.R_below (by (with_reducible repeat (first | apply Kd.R_alloc | apply Kd.R_drewN | apply Kd.R_drew)); exact HO_7.out) hb); have n1_ := Aside0.mk (Kd.R_below (by (with_reducible repeat (first | apply Kd.R_alloc | apply Kd.R_drewN | apply Kd.R_drew)); exact HO409.out) hb); have n2_ := Aside0.mk (Kd.R_elder' (by (with_reducible repeat (first | apply Kd.R_alloc | apply Kd.R_drewN | apply Kd.R_drew)); exact HO414.out) (Kd.R_base ho0) hb); have n3_ := Aside0.mk (Kd.R_lower (Kd.R_new' ho0 (Kd.R_lt (by (with_reducible repeat (first | apply Kd.R_alloc | apply Kd.R_drewN | apply Kd.R_drew)); exact HO414.out))) (below_size (by repeat (first | (with_reducible first | exact HB.out | apply below_alloc | apply pw_below_drewN | apply below_drew1 | refine below_set ?_ GE396.out | refine below_set ?_ GE417.out) | exact HB.out)))); have n4_ := Aside0.mk (blk_below (g := gb396) (o := .cells #[.int .i64 a0_0, .int .i64 a0_1, .slice A0_2 l0_2.length c0_2] 32 (0, 0)) (by (with_reducible repeat (first | refine blk_drewN ?_ _ | refine blk_drew ?_ | refine blk_alloc ?_ _)); exact BK396.out) hb); have n5_ := Aside0.mk (blk_below (g := gb417) (o := .cells #[.int .i64 t410, .int .i64 t411, .slice Ao71 t412.length co71] 32 (0, 0)) (by (with_reducible repeat (first | refine blk_drewN ?_ _ | refine blk_drew ?_ | refine blk_alloc ?_ _)); exact BK417.out) hb); have n6_ := Aside0.mk (below_step (by repeat (first | (with_reducible first | exact HB.out | apply below_alloc | apply pw_below_drewN | apply below_drew1 | refine below_set ?_ GE396.out | refine below_set ?_ GE417.out) | exact HB.out)) hb); clear HO_7; clear HO409; clear HO414; clear BK396; clear BK417; clear HB; have HO_7 := n0_; have HO409 := n1_; have HO414 := n2_; have HO424 := n3_; have BK396 := n4_; have BK417 := n5_; have HB := n6_; clear n0_ n1_ n2_ n3_ n4_ n5_ n6_; (try clear hb); (try clear hb2); (try clear hk); (try clear hi); (try clear ho0)) | ((with_reducible refine gate_dst (N := 12) rfl ?_); (try (refine gate_guard (by rfl) ?_; dsimp only)); refine box_event ?hg (N := 12) ?hd (cs := #[.int .i64 0, .int .i64 0, .slice none 0 0]) (t := 32) ?hr ?_; (case hd => rfl); (case hg => rfl); (case hr => first | (go_simp; done) | (go_simp; rfl)); intro gb427 hg w76 hbox hb; have n0_ := Aside0.mk (Kd.R_below (by (with_reducible repeat (first | apply Kd.R_alloc | apply Kd.R_drewN | apply Kd.R_drew)); exact HO_7.out) hb); have n1_ := Aside0.mk (Kd.R_below (by (with_reducible repeat (first | apply Kd.R_alloc | apply Kd.R_drewN | apply Kd.R_drew)); exact HO409.out) hb); have n2_ := Aside0.mk (Kd.R_below (by (with_reducible repeat (first | apply Kd.R_alloc | apply Kd.R_drewN | apply Kd.R_drew)); exact HO414.out) hb); have n3_ := Aside0.mk (Kd.R_below (by (with_reducible repeat (first | apply Kd.R_alloc | apply Kd.R_drewN | apply Kd.R_drew)); exact HO424.out) hb); have n4_ := Aside0.mk (blk_below (g := gb396) (o := .cells #[.int .i64 a0_0, .int .i64 a0_1, .slice A0_2 l0_2.length c0_2] 32 (0, 0)) (by (with_reducible repeat (first | refine blk_drewN ?_ _ | refine blk_drew ?_ | refine blk_alloc ?_ _)); exact BK396.out) hb); have n5_ := Aside0.mk (blk_below (g := gb417) (o := .cells #[.int .i64 t410, .int .i64 t411, .slice Ao71 t412.length co71] 32 (0, 0)) (by (with_reducible repeat (first | refine blk_drewN ?_ _ | refine blk_drew ?_ | refine blk_alloc ?_ _)); exact BK417.out) hb); have n6_ := Aside0.mk (below_step (by repeat (first | (with_reducible first | exact HB.out | apply below_alloc | apply pw_below_drewN | apply below_drew1 | refine below_set ?_ GE396.out | refine below_set ?_ GE417.out) | exact HB.out)) hb); have n7_ := Aside0.mk (hbox); have n8_ := Aside0.mk ((by rw [hg]; exact (below_size (by repeat (first | (with_reducible first | exact HB.out | apply below_alloc | apply pw_below_drewN | apply below_drew1 | refine below_set ?_ GE396.out | refine below_set ?_ GE417.out) | exact HB.out))) : w.heap.size ≤ gb427)); have n9_ := Aside0.mk ((by rw [hg]; exact (below_size (by repeat (first | (with_reducible first | exact HB.out | apply below_alloc | apply pw_below_drewN | apply below_drew1 | refine below_set ?_ GE396.out | refine below_set ?_ GE417.out) | exact HB.out))) : w.heap.size ≤ gb427)); have n10_ := Aside0.mk ((by rw [hg]; exact Nat.ne_of_lt (blk_lt (g := gb396) (o := .cells #[.int .i64 a0_0, .int .i64 a0_1, .slice A0_2 l0_2.length c0_2] 32 (0, 0)) (by (with_reducible repeat (first | refine blk_drewN ?_ _ | refine blk_drew ?_ | refine blk_alloc ?_ _)); exact BK396.out)) : gb396 ≠ gb427)); have n11_ := Aside0.mk ((by rw [hg]; exact Nat.ne_of_gt (blk_lt (g := gb396) (o := .cells #[.int .i64 a0_0, .int .i64 a0_1, .slice A0_2 l0_2.length c0_2] 32 (0, 0)) (by (with_reducible repeat (first | refine blk_drewN ?_ _ | refine blk_drew ?_ | refine blk_alloc ?_ _)); exact BK396.out)) : gb427 ≠ gb396)); have n12_ := Aside0.mk ((by rw [hg]; exact Nat.ne_of_lt (blk_lt (g := gb417) (o := .cells #[.int .i64 t410, .int .i64 t411, .slice Ao71 t412.length co71] 32 (0, 0)) (by (with_reducible repeat (first | refine blk_drewN ?_ _ | refine blk_drew ?_ | refine blk_alloc ?_ _)); exact BK417.out)) : gb417 ≠ gb427)); have n13_ := Aside0.mk ((by rw [hg]; exact Nat.ne_of_gt (blk_lt (g := gb417) (o := .cells #[.int .i64 t410, .int .i64 t411, .slice Ao71 t412.length co71] 32 (0, 0)) (by (with_reducible repeat (first | refine blk_drewN ?_ _ | refine blk_drew ?_ | refine blk_alloc ?_ _)); exact BK417.out)) : gb427 ≠ gb417)); clear HO_7; clear HO409; clear HO414; clear HO424; clear BK396; clear BK417; clear HB; have HO_7 := n0_; have HO409 := n1_; have HO414 := n2_; have HO424 := n3_; have BK396 := n4_; have BK417 := n5_; have HB := n6_; have BK427 := n7_; have GW427 := n8_; have GE427 := n9_; have NB396_427 := n10_; have NB427_396 := n11_; have NB417_427 := n12_; have NB427_417 := n13_; clear n0_ n1_ n2_ n3_ n4_ n5_ n6_ n7_ n8_ n9_ n10_ n11_ n12_ n13_; clear hb hbox hg; have hnb77 := NB427_396.out; have hnc77 := NB396_427.out; have hnb78 := NB427_417.out; have hnc78 := NB417_427.out; have hcz79_0 : w76.cell? ⟨gb427, 0, none⟩ = some (.int .i64 0) := (blk_cell BK427.out 0).trans rfl; have hcz79_1 : w76.cell? ⟨gb427, 1, none⟩ = some (.int .i64 0) := (blk_cell BK427.out 1).trans rfl; have hcz79_2 : w76.cell? ⟨gb427, 2, none⟩ = some (.slice none 0 0) := (blk_cell BK427.out 2).trans rfl; have hfz79_0 := blk_frozen BK427.out 0; have hfz79_1 := blk_frozen BK427.out 1; have hfz79_2 := blk_frozen BK427.out 2; obtain ⟨Ao80, co80, eo80⟩ := Kd.R_slice HO424.out; subst eo80))
                      go_ret
                      exact ⟨by first | rfl | (simp [errW_none, errW_some] <;> rfl) | (simp [*, errW_none, errW_some] <;> rfl), by repeat (first | (with_reducible first | exact HB.out | apply below_alloc | apply pw_below_drewN | apply below_drew1 | refine below_set ?_ GE396.out | refine below_set ?_ GE417.out | refine below_set ?_ GE427.out) | exact HB.out)⟩
                · rw [if_neg c34] at H
                  exact absurd H (by simp)
              · rw [if_neg c33] at H
                exact absurd H (by simp)
            · rw [if_neg c32] at H
              have c32b0 : (t415 == 0) = false := beq_eq_false_iff_ne.mpr c32
              have c32b1 : (t415 != 0) = true := bne_iff_ne.mpr c32
              obtain rfl := Option.some.inj H
              obtain ⟨Ao81, co81, eo81⟩ := Kd.R_slice HO_7.out
              subst eo81
              go_wp2_with (first | ((with_reducible refine gate_callee (f := 14) rfl ?_); refine goesL_ (some 42) rfl rfl Tryd.func14 (by kernel_rfl) rfl #[.slice Ao81 t402.length co81] rfl (by (try simp only [List.map_toArray, List.map_cons, List.map_nil]); first | done | rfl | (simp only [List.length_drop, List.length_take]; rfl)) ?_; (with_reducible refine (arrearslaw19_CopyBytes.calls kj17 _ _ t402 t407 _ ?side1 ?side2 A30.out).mono ?_); (case side1 => repeat (first | exact (Kd.R_reads' HO_7.out).2.2 | (with_reducible refine Kd.C_alloc ?_ _) | (with_reducible refine Kd.C_drewN ?_ _) | (with_reducible refine Kd.C_drew ?_))); (case side2 => exact (Kd.R_reads' HO_7.out).2.1); rintro e w82 ⟨v408, rfl, ho0, hb⟩; refine ⟨_, rfl, ?_⟩; have n0_ := Aside0.mk (Kd.R_elder' (by (with_reducible repeat (first | apply Kd.R_alloc | apply Kd.R_drewN | apply Kd.R_drew)); exact HO_7.out) (Kd.R_base ho0) hb); have n1_ := Aside0.mk (Kd.R_lower (Kd.R_new' ho0 (Kd.R_lt (by (with_reducible repeat (first | apply Kd.R_alloc | apply Kd.R_drewN | apply Kd.R_drew)); exact HO_7.out))) (below_size (by repeat (first | (with_reducible first | exact HB.out | apply below_alloc | apply pw_below_drewN | apply below_drew1 | refine below_set ?_ GE396.out) | exact HB.out)))); have n2_ := Aside0.mk (blk_below (g := gb396) (o := .cells #[.int .i64 a0_0, .int .i64 a0_1, .slice A0_2 l0_2.length c0_2] 32 (0, 0)) (by (with_reducible repeat (first | refine blk_drewN ?_ _ | refine blk_drew ?_ | refine blk_alloc ?_ _)); exact BK396.out) hb); have n3_ := Aside0.mk (below_step (by repeat (first | (with_reducible first | exact HB.out | apply below_alloc | apply pw_below_drewN | apply below_drew1 | refine below_set ?_ GE396.out) | exact HB.out)) hb); clear HO_7; clear BK396; clear HB; have HO_7 := n0_; have HO409 := n1_; have BK396 := n2_; have HB := n3_; clear n0_ n1_ n2_ n3_; (try clear hb); (try clear hb2); (try clear hk); (try clear hi); (try clear ho0); obtain ⟨Ao83, co83, eo83⟩ := Kd.R_slice HO409.out; subst eo83) | ((with_reducible refine gate_callee (f := 24) rfl ?_); refine goesL_ (some 43) rfl rfl Tryd.func24 (by kernel_rfl) rfl #[.slice Ao83 t407.length co83] rfl (by (try simp only [List.map_toArray, List.map_cons, List.map_nil]); first | done | rfl | (simp only [List.length_drop, List.length_take]; rfl)) ?_; (with_reducible refine (lockbox_Parse.calls _ _ t407 t410 t411 t412 t415 t416 _ ?side1 ?side2 A31.out).mono ?_); (case side1 => repeat (first | exact (Kd.R_reads' HO409.out).2.2 | (with_reducible refine Kd.C_alloc ?_ _) | (with_reducible refine Kd.C_drewN ?_ _) | (with_reducible refine Kd.C_drew ?_))); (case side2 => exact (Kd.R_reads' HO409.out).2.1); rintro e w84 ⟨v413, rfl, ho0, hb⟩; refine ⟨_, rfl, ?_⟩; have n0_ := Aside0.mk (Kd.R_below (by (with_reducible repeat (first | apply Kd.R_alloc | apply Kd.R_drewN | apply Kd.R_drew)); exact HO_7.out) hb); have n1_ := Aside0.mk (Kd.R_below (by (with_reducible repeat (first | apply Kd.R_alloc | apply Kd.R_drewN | apply Kd.R_drew)); exact HO409.out) hb); have n2_ := Aside0.mk (Kd.R_lower ho0 (below_size (by repeat (first | (with_reducible first | exact HB.out | apply below_alloc | apply pw_below_drewN | apply below_drew1 | refine below_set ?_ GE396.out) | exact HB.out)))); have n3_ := Aside0.mk (blk_below (g := gb396) (o := .cells #[.int .i64 a0_0, .int .i64 a0_1, .slice A0_2 l0_2.length c0_2] 32 (0, 0)) (by (with_reducible repeat (first | refine blk_drewN ?_ _ | refine blk_drew ?_ | refine blk_alloc ?_ _)); exact BK396.out) hb); have n4_ := Aside0.mk (below_step (by repeat (first | (with_reducible first | exact HB.out | apply below_alloc | apply pw_below_drewN | apply below_drew1 | refine below_set ?_ GE396.out) | exact HB.out)) hb); clear HO_7; clear HO409; clear BK396; clear HB; have HO_7 := n0_; have HO409 := n1_; have HO414 := n2_; have BK396 := n3_; have HB := n4_; clear n0_ n1_ n2_ n3_ n4_; (try clear hb); (try clear hb2); (try clear hk); (try clear hi); (try clear ho0)) | ((with_reducible refine gate_dst (N := 9) rfl ?_); (try (refine gate_guard (by rfl) ?_; dsimp only)); refine box_event ?hg (N := 9) ?hd (cs := #[.int .i64 0, .int .i64 0, .slice none 0 0]) (t := 32) ?hr ?_; (case hd => rfl); (case hg => rfl); (case hr => first | (go_simp; done) | (go_simp; rfl)); intro gb417 hg w85 hbox hb; have n0_ := Aside0.mk (Kd.R_below (by (with_reducible repeat (first | apply Kd.R_alloc | apply Kd.R_drewN | apply Kd.R_drew)); exact HO_7.out) hb); have n1_ := Aside0.mk (Kd.R_below (by (with_reducible repeat (first | apply Kd.R_alloc | apply Kd.R_drewN | apply Kd.R_drew)); exact HO409.out) hb); have n2_ := Aside0.mk (Kd.R_below (by (with_reducible repeat (first | apply Kd.R_alloc | apply Kd.R_drewN | apply Kd.R_drew)); exact HO414.out) hb); have n3_ := Aside0.mk (blk_below (g := gb396) (o := .cells #[.int .i64 a0_0, .int .i64 a0_1, .slice A0_2 l0_2.length c0_2] 32 (0, 0)) (by (with_reducible repeat (first | refine blk_drewN ?_ _ | refine blk_drew ?_ | refine blk_alloc ?_ _)); exact BK396.out) hb); have n4_ := Aside0.mk (below_step (by repeat (first | (with_reducible first | exact HB.out | apply below_alloc | apply pw_below_drewN | apply below_drew1 | refine below_set ?_ GE396.out) | exact HB.out)) hb); have n5_ := Aside0.mk (hbox); have n6_ := Aside0.mk ((by rw [hg]; exact (below_size (by repeat (first | (with_reducible first | exact HB.out | apply below_alloc | apply pw_below_drewN | apply below_drew1 | refine below_set ?_ GE396.out) | exact HB.out))) : w.heap.size ≤ gb417)); have n7_ := Aside0.mk ((by rw [hg]; exact (below_size (by repeat (first | (with_reducible first | exact HB.out | apply below_alloc | apply pw_below_drewN | apply below_drew1 | refine below_set ?_ GE396.out) | exact HB.out))) : w.heap.size ≤ gb417)); have n8_ := Aside0.mk ((by rw [hg]; exact Nat.ne_of_lt (blk_lt (g := gb396) (o := .cells #[.int .i64 a0_0, .int .i64 a0_1, .slice A0_2 l0_2.length c0_2] 32 (0, 0)) (by (with_reducible repeat (first | refine blk_drewN ?_ _ | refine blk_drew ?_ | refine blk_alloc ?_ _)); exact BK396.out)) : gb396 ≠ gb417)); have n9_ := Aside0.mk ((by rw [hg]; exact Nat.ne_of_gt (blk_lt (g := gb396) (o := .cells #[.int .i64 a0_0, .int .i64 a0_1, .slice A0_2 l0_2.length c0_2] 32 (0, 0)) (by (with_reducible repeat (first | refine blk_drewN ?_ _ | refine blk_drew ?_ | refine blk_alloc ?_ _)); exact BK396.out)) : gb417 ≠ gb396)); clear HO_7; clear HO409; clear HO414; clear BK396; clear HB; have HO_7 := n0_; have HO409 := n1_; have HO414 := n2_; have BK396 := n3_; have HB := n4_; have BK417 := n5_; have GW417 := n6_; have GE417 := n7_; have NB396_417 := n8_; have NB417_396 := n9_; clear n0_ n1_ n2_ n3_ n4_ n5_ n6_ n7_ n8_ n9_; clear hb hbox hg; have hnb86 := NB417_396.out; have hnc86 := NB396_417.out; have hcz87_0 : w85.cell? ⟨gb417, 0, none⟩ = some (.int .i64 0) := (blk_cell BK417.out 0).trans rfl; have hcz87_1 : w85.cell? ⟨gb417, 1, none⟩ = some (.int .i64 0) := (blk_cell BK417.out 1).trans rfl; have hcz87_2 : w85.cell? ⟨gb417, 2, none⟩ = some (.slice none 0 0) := (blk_cell BK417.out 2).trans rfl; have hfz87_0 := blk_frozen BK417.out 0; have hfz87_1 := blk_frozen BK417.out 1; have hfz87_2 := blk_frozen BK417.out 2; obtain ⟨Ao88, co88, eo88⟩ := Kd.R_slice HO414.out; subst eo88))
              go_ret
              exact ⟨by first | rfl | (simp [errW_none, errW_some] <;> rfl) | (simp [*, errW_none, errW_some] <;> rfl), by repeat (first | (with_reducible first | exact HB.out | apply below_alloc | apply pw_below_drewN | apply below_drew1 | refine below_set ?_ GE396.out | refine below_set ?_ GE417.out) | exact HB.out)⟩
end Go.Proofs.YtkjdmbbaacjpmaaDoor.R
end
