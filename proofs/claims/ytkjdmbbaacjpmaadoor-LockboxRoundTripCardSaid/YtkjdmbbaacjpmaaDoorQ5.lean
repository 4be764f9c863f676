-- Texts of this claim, joined and cut down to what it uses (a program of this session).
import Derived.Test.YtkjdmbbaacjpmaaDoorQ4
import Derived.Deep.LoopGhost
import Derived.Deep.DeepCutAuto
import Derived.Deep.CutBlock
import Derived.Test.YtkjdmbbaacjpmaaDoorProg
import Derived.WalkKit
import Derived.LaidEql
import Derived.Stop.Asserts
import Derived.RowKitTokens
import Derived.Lib.Hide
section
namespace Go.Proofs.YtkjdmbbaacjpmaaDoor.Reader
open Go.RowKit Go.Proofs.YtkjdmbbaacjpmaaDoor.Scan Go.Proofs.YtkjdmbbaacjpmaaDoorW.PrintWords Go.Proofs.YtkjdmbbaacjpmaaDoorW.PrintLast Go.Proofs.YtkjdmbbaacjpmaaDoor.R
set_option linter.unusedVariables false
set_option linter.unusedSimpArgs false
def totF : Int × Int → List S50 → Int × Int
  | p, [] => p
  | p, x :: t => totF (wrap64 (p.1 + x.f1), Int.tmod (wrap64 (p.2 + x.f0)) 10000000000) t
def totP (l : List S50) : Int × Int := totF (0, 0) l
def headP (xs : List Int) : Option ((Int × Int) × List Int) :=
  (nextP xs 72 14).bind fun tr => if (headD tr.1).2 = true ∧ fieldP tr.1 9 6 ≠ 0 then some (((headD tr.1).1, fieldP tr.1 9 6), tr.2) else none
def detP (xs : List Int) (k : Int) : Except Int (S50 × List Int) :=
  match nextP xs 68 23 with
  | none => .error 200
  | some (t, r) => if fieldP t 5 6 = 0 ∨ fieldP t 12 12 = 0 then .error 200 else if DDigits.validB (strOfNums ((t.drop 5).take 7)) = false then .error 201 else if fieldP t 1 4 ≠ k then .error 202 else .ok (⟨fieldP t 5 6, fieldP t 12 12⟩, r)
def trlP (xs : List Int) (l : List S50) : Except Int (List Int) :=
  match nextP xs 84 30 with
  | none => .error 200
  | some (t, r) => if fieldP t 1 4 = l.length ∧ (totP l).1 = fieldP t 5 16 ∧ (totP l).2 = fieldP t 21 10 then .ok r else .error 203
def brk (xs : List Int) (k : Int) : Bool := decide (9999 < k) || (decide (1 < k) && (xs.head? == some 84))
def endP (xs : List Int) (k : Int) (l : List S50) : Except (Int × Int) (List S50) :=
  match trlP xs l with
  | .error c => .error (c, k)
  | .ok r => if r = [] then .ok l else .error (200, k + 1)
def loopP : Nat → List Int → Int → List S50 → Except (Int × Int) (List S50)
  | 0, _, _, _ => .error (0, 0)
  | f + 1, xs, k, l => if brk xs k = true then endP xs k l else match detP xs k with
    | .error c => .error (c, k)
    | .ok (x, r) => loopP f r (k + 1) (l ++ [x])
def readP (xs : List Int) : Except (Int × Int) ((Int × Int) × List S50) :=
  match headP xs with
  | none => .error (200, 0)
  | some (dn, r) => (loopP 10001 r 1 []).map fun l => (dn, l)
theorem totals_loop (l : List S50) (hl : l.length ≤ 100000) : ∀ (d i : Nat), i + d = l.length → ∀ (p : Int × Int) (k : Nat), d < k →
    lockbox_totals.l0 k p.1 p.2 l (l.length : Int) i = some (totF p (l.drop i)) := by
  intro d
  induction d with
  | zero =>
    intro i hi p k hk
    obtain ⟨k, rfl⟩ : ∃ m, k = m + 1 := ⟨k - 1, by omega⟩
    simp only [lockbox_totals.l0]
    rw [if_neg (by omega), List.drop_eq_nil_of_le (by omega)]
    rfl
  | succ d ih =>
    intro i hi p k hk
    obtain ⟨k, rfl⟩ : ∃ m, k = m + 1 := ⟨k - 1, by omega⟩
    have hlt : i < l.length := by omega
    have hw : wrap64 ((i : Int) + 1) = ((i + 1 : Nat) : Int) := by unfold wrap64; omega
    simp only [lockbox_totals.l0]
    rw [if_pos (by omega), if_pos (by omega), if_pos (by omega), hw]
    have := ih (i + 1) (by omega) (wrap64 (p.1 + (rd_T50 l i).f1), Int.tmod (wrap64 (p.2 + (rd_T50 l i).f0)) 10000000000) k (by omega)
    simp only at this
    rw [this]
    have hr : rd_T50 l i = l[i] := by unfold rd_T50; rw [Int.toNat_natCast, List.getD_eq_getElem?_getD, List.getElem?_eq_getElem hlt]; rfl
    rw [hr, List.drop_eq_getElem_cons hlt]
    rfl
theorem totals_run (l : List S50) (hl : l.length ≤ 100000) : lockbox_totals.f (l.length + 1) l = some ((totP l).1, (totP l).2) := by
  have := totals_loop l hl l.length 0 (by omega) (0, 0) (l.length + 1) (by omega)
  simpa [lockbox_totals.f, totP] using this
theorem At.left {w : World} {A : Option Addr} {c : Nat} {xs : List Int} (h : At w A c xs) (he : eol xs < xs.length) : At w (cutA A c (eol xs)) (c - (eol xs + 1)) (xs.drop (eol xs + 1)) := by
  have hc := h.cap
  have hl : (xs.drop (eol xs + 1)).length = xs.length - (eol xs + 1) := List.length_drop
  refine ⟨by rw [hl]; omega, by have := h.big; omega, fun x hx => h.byt x (List.mem_of_mem_drop hx), ?_, ?_⟩
  · have := Kd.C_drop (m := eol xs + 1) (c := c) h.C (by omega) hc
    rw [hl]
    unfold cutA
    simpa [show (Kd.int .u8).sz = 1 from rfl] using this
  · unfold cutA
    rcases h.adr with ⟨rfl, rfl⟩ | ⟨b, o, rfl⟩
    · omega
    · refine .inr ?_
      split
      · exact ⟨b, o, rfl⟩
      · exact ⟨b, o + (eol xs + 1), rfl⟩
structure LS (w0 W : World) (rb sb bb : Nat) (A : Option Addr) (c : Nat) (xs : List Int) (k d n : Int) (v : Value) (l : List S50) : Prop where
  inn : In w0 W sb A c xs k
  res : W.heap[rb]? = some (.cells #[.int .i64 0, .int .i64 0, .slice none 0 0] 32 (0, 0))
  bat : W.heap[bb]? = some (.cells #[.int .i64 d, .int .i64 n, v] 32 (0, 0))
  row : Kd.R k50 50 W w0.heap.size (fun _ => True) v l
  rge : w0.heap.size ≤ rb
  bge : w0.heap.size ≤ bb
  ne1 : rb ≠ sb
  ne2 : bb ≠ sb
  ne3 : rb ≠ bb
section
variable {w0 W W2 : World} {rb sb bb : Nat} {A : Option Addr} {c : Nat} {xs r : List Int} {k d n : Int} {v : Value} {l : List S50}
theorem LS.below (h : LS w0 W rb sb bb A c xs k d n v l) (hb : Below W.heap.size W W2) : LS w0 W2 rb sb bb A c xs k d n v l :=
  ⟨h.inn.step hb, blk_below h.res hb, blk_below h.bat hb, Kd.R_below h.row hb, h.rge, h.bge, h.ne1, h.ne2, h.ne3⟩
theorem LS.drewN (h : LS w0 W rb sb bb A c xs k d n v l) (m : Nat) : LS w0 (W.drewN m) rb sb bb A c xs k d n v l := h.below (pw_below_drewN (Below.refl _ _) m)
theorem LS.drew (h : LS w0 W rb sb bb A c xs k d n v l) : LS w0 W.drew rb sb bb A c xs k d n v l := h.below (Below.refl _ _).drew
theorem LS.alloc (h : LS w0 W rb sb bb A c xs k d n v l) (o : Obj) : LS w0 (W.alloc o) rb sb bb A c xs k d n v l := h.below (below_alloc (Below.refl _ _) o)
theorem LS.left (h : LS w0 W rb sb bb A c xs k d n v l) (he : eol xs < xs.length) (hr : r = xs.drop (eol xs + 1)) :
    LS w0 (left sb A c xs r W) rb sb bb (cutA A c (eol xs)) (c - (eol xs + 1)) r k d n v l := by
  subst hr
  refine ⟨⟨h.inn.at_.left he, h.inn.tab, below_set h.inn.bel h.inn.ge, h.inn.ge, ?_⟩, ?_, ?_, ?_, h.rge, h.bge, h.ne1, h.ne2, h.ne3⟩
  · exact blk_put h.inn.blk 0 _ rfl
  · exact blk_far h.res h.ne1 _
  · exact blk_far h.bat h.ne2 _
  · exact Kd.R_set h.row h.inn.blk (by decide) 0 _
theorem LS.taken (h : LS w0 W rb sb bb A c xs k d n v l) (he : eol xs < xs.length) (hr : r = xs.drop (eol xs + 1)) (hb : Below (Reader.left sb A c xs r W).heap.size (Reader.left sb A c xs r W) W2) :
    LS w0 W2 rb sb bb (cutA A c (eol xs)) (c - (eol xs + 1)) r k d n v l := (h.left he hr).below hb
theorem LS.line (h : LS w0 W rb sb bb A c xs k d n v l) (j : Int) : LS w0 (W.setCell ⟨sb, 1, none⟩ (.int .i64 j)) rb sb bb A c xs j d n v l :=
  ⟨⟨h.inn.at_, h.inn.tab, below_set h.inn.bel h.inn.ge, h.inn.ge, blk_put h.inn.blk 1 _ rfl⟩, blk_far h.res h.ne1 _, blk_far h.bat h.ne2 _, Kd.R_set h.row h.inn.blk (by decide) 1 _, h.rge, h.bge, h.ne1, h.ne2, h.ne3⟩
theorem LS.app (h : LS w0 W rb sb bb A c xs k d n v l) {v1 : Value} {l1 : List S50} (hR : Kd.R k50 50 W2 w0.heap.size (fun _ => True) v1 l1) (hB : Below w0.heap.size w0 W2) (hg : W.grownBy W2 v.ownBlock) :
    LS w0 (W2.setCell ⟨bb, 2, none⟩ v1) rb sb bb A c xs k d n v1 l1 := by
  have hs : W2.heap[sb]? = _ := blk_grown h.inn.blk hg (Kd.R_ne h.row h.inn.blk (by decide))
  have hr : W2.heap[rb]? = _ := blk_grown h.res hg (Kd.R_ne h.row h.res (by decide))
  have hb : W2.heap[bb]? = _ := blk_grown h.bat hg (Kd.R_ne h.row h.bat (by decide))
  exact ⟨⟨h.inn.at_, h.inn.tab, below_set hB h.bge, h.inn.ge, blk_far hs (Ne.symm h.ne2) _⟩, blk_far hr h.ne3 _, blk_put hb 2 _ rfl, Kd.R_set hR hb (by decide) 2 _, h.rge, h.bge, h.ne1, h.ne2, h.ne3⟩
end
end Go.Proofs.YtkjdmbbaacjpmaaDoor.Reader
end
section
namespace Go.Proofs.YtkjdmbbaacjpmaaDoor.Reads
open Go.RowKit Go.Proofs.YtkjdmbbaacjpmaaDoor.R Go.Proofs.YtkjdmbbaacjpmaaDoor.Scan Go.Proofs.YtkjdmbbaacjpmaaDoor.Reader Go.Proofs.YtkjdmbbaacjpmaaDoorW.PrintWords
open Go.Proofs.YtkjdmbbaacjpmaaDoor.DDigits (wrN)
theorem wrI {i : Int} (h0 : -1000000000000000000 ≤ i) (h : i ≤ 1000000000000000000) : wrap64 i = i := by unfold wrap64; omega
theorem rdN (l : List Int) (j : Nat) (h : j < l.length) : rd l (j : Int) = l[j] := by
  unfold rd; rw [Int.toNat_natCast, List.getD_eq_getElem?_getD, List.getElem?_eq_getElem h]; rfl
theorem valFrom_append : ∀ (l : List Int) (d a : Int), valFrom a (l ++ [d]) = 10 * valFrom a l + (d - 48)
  | [], d, a => rfl
  | x :: t, d, a => by simp only [List.cons_append, valFrom]; exact valFrom_append t d _
end Go.Proofs.YtkjdmbbaacjpmaaDoor.Reads
end
section
namespace Go.Proofs.YtkjdmbbaacjpmaaDoor.Reads
open Go.RowKit Go.Proofs.YtkjdmbbaacjpmaaDoor.R Go.Proofs.YtkjdmbbaacjpmaaDoor.Scan Go.Proofs.YtkjdmbbaacjpmaaDoor.Reader Go.Proofs.YtkjdmbbaacjpmaaDoor.Cal Go.Proofs.YtkjdmbbaacjpmaaDoorW.PrintWords
open Go.Proofs.YtkjdmbbaacjpmaaDoor.DDigits (wrN)
set_option linter.unusedVariables false
theorem monthLen_in {y m : Int} (hy : 1 ≤ y) (hy' : y ≤ 9999) (hm : 1 ≤ m) (hm' : m ≤ 12) : monthLen y m = mlen y m := by
  unfold monthLen
  rw [if_pos ⟨hy, hy', hm, hm'⟩]
  have hl : C.leapB y = true ↔ (y % 4 = 0 ∧ (y % 100 ≠ 0 ∨ y % 400 = 0)) := by
    unfold C.leapB; rw [decide_eq_true_eq]; omega
  have e : (if m = 2 ∧ C.leapB y = true then (1 : Int) else 0) = if m = 2 then lp y else 0 := by
    unfold lp
    by_cases h2 : m = 2
    · rw [if_pos h2]
      by_cases hb : C.leapB y = true
      · rw [if_pos ⟨h2, hb⟩, if_pos (hl.1 hb)]
      · rw [if_neg (fun h => hb h.2), if_neg (fun h => hb (hl.2 h))]
    · rw [if_neg h2, if_neg (fun h => h2 h.1)]
  rw [e]
  clear e hl
  unfold mlen
  generalize lp y = q
  have : m = 1 ∨ m = 2 ∨ m = 3 ∨ m = 4 ∨ m = 5 ∨ m = 6 ∨ m = 7 ∨ m = 8 ∨ m = 9 ∨ m = 10 ∨ m = 11 ∨ m = 12 := by omega
  rcases this with rfl | rfl | rfl | rfl | rfl | rfl | rfl | rfl | rfl | rfl | rfl | rfl <;> simp [C.aheadTab]
theorem numberOf_eq {y m d : Int} (hy : 1 ≤ y) (hy' : y ≤ 9999) (hm : 1 ≤ m) (hm' : m ≤ 12) : numberOf y m d = dby y + cum y m + d := by
  rw [← CivilPure.startOf_cum hy hy' hm (by omega)]
  unfold numberOf dby C.startOf
  omega
theorem lineOk_dig {t : List Int} {letter : Int} {n : Nat} (h : lineOk t letter n = true) : t.length = n + 1 ∧ ∀ a k : Nat, 1 ≤ a → ((t.drop a).take k).all isDig = true := by
  simp only [lineOk, Bool.and_eq_true, decide_eq_true_eq, beq_iff_eq] at h
  obtain ⟨⟨h1, h2⟩, h3⟩ := h
  refine ⟨h1, fun a k ha => ?_⟩
  rw [List.all_eq_true] at h3 ⊢
  intro x hx
  refine h3 x ?_
  have hx2 := List.mem_of_mem_take hx
  obtain ⟨b, rfl⟩ : ∃ b, a = 1 + b := ⟨a - 1, by omega⟩
  rw [← List.drop_drop] at hx2
  exact List.mem_of_mem_drop hx2
theorem field_range {t : List Int} {a k : Nat} (h : ((t.drop a).take k).all isDig = true) : 0 ≤ fieldP t a k ∧ fieldP t a k < 10 ^ k := by
  have hr := valFrom_range ((t.drop a).take k) 0 (by omega) h
  refine ⟨hr.1, Int.lt_of_lt_of_le hr.2 ?_⟩
  have : ((t.drop a).take k).length ≤ k := by rw [List.length_take]; omega
  have h2 : (10 : Int) ^ ((t.drop a).take k).length ≤ 10 ^ k := by
    have : 10 ^ ((t.drop a).take k).length ≤ 10 ^ k := Nat.pow_le_pow_right (by omega) this
    exact_mod_cast this
  omega
end Go.Proofs.YtkjdmbbaacjpmaaDoor.Reads
end
section
namespace Go.Proofs.YtkjdmbbaacjpmaaDoor.Reader
open Go.RowKit Go.Proofs.YtkjdmbbaacjpmaaDoor.Scan Go.Proofs.YtkjdmbbaacjpmaaDoorW.PrintWords Go.Proofs.YtkjdmbbaacjpmaaDoorW.PrintLast Go.Proofs.YtkjdmbbaacjpmaaDoor.R
set_option linter.unusedVariables false
set_option linter.unusedSimpArgs false
structure ErrW (w0 w : World) (sb : Nat) (k : Int) (w' : World) : Prop where
  bel : Below w0.heap.size w0 w'
  sz : w.heap.size ≤ w'.heap.size
  bes : ∀ j, j < w.heap.size → j ≠ sb → w'.heap[j]? = w.heap[j]?
  lin : w'.cell? ⟨sb, 1, none⟩ = some (.int .i64 k)
section
variable {w0 w w' : World} {sb : Nat} {A : Option Addr} {c : Nat} {xs t r : List Int} {k : Int}
theorem errW_same (h : In w0 w sb A c xs k) (hb : Below w.heap.size w w') : ErrW w0 w sb k w' :=
  ⟨below_step h.bel hb, hb.size, fun j hj _ => hb.block j hj, (h.step hb).s1⟩
theorem errW_left (h : In w0 w sb A c xs k) (hb : Below (left sb A c xs r w).heap.size (left sb A c xs r w) w') : ErrW w0 w sb k w' := by
  have hl := left_size sb A c xs r w
  refine ⟨below_step (below_set h.bel h.ge) hb, by have := hb.size; omega, fun j hj hn => ?_, ?_⟩
  · rw [hb.block j (by omega)]
    exact Below.heap_setCell _ _ _ _ hn
  · exact (hb.cell (p := ⟨sb, 1, none⟩) (by have := h.lt; show sb < _; omega)).trans (blk_cell (blk_put h.blk 0 _ rfl) 1)
theorem header_err (h : In w0 w sb A c xs k) (hx : headP xs = none) :
    Calls Tryd.prog 51 #[.pointer (some ⟨sb, 0, none⟩)] w fun e w' => e = .returned (.tuple #[.agg #[.int .i64 0, .int .i64 0, .slice none 0 0], .iface 73 (.int .i64 200)]) ∧ ErrW w0 w sb k w' := by
  cases hn : nextP xs 72 14 with
  | none => exact (header_no sb A c xs w h.here h.s0 hn).mono fun e w' ⟨h1, h2⟩ => ⟨h1, errW_same h h2⟩
  | some tr =>
    obtain ⟨t, r⟩ := tr
    simp only [headP, hn, Option.bind_some] at hx
    split at hx
    · cases hx
    · next hc =>
      by_cases hb : (headD t).2 = true
      · have hz : fieldP t 9 6 = 0 := Classical.byContradiction fun hne => hc ⟨hb, hne⟩
        exact (header_zero w0 w sb A c xs t r k (headD t).1 _ (headD t).2 h hn rfl rfl hb hz).mono fun e w' ⟨h1, h2⟩ => ⟨h1, errW_left h h2⟩
      · exact (header_out w0 w sb A c xs t r k (headD t).1 _ (headD t).2 h hn rfl rfl (Bool.eq_false_iff.2 hb)).mono fun e w' ⟨h1, h2⟩ => ⟨h1, errW_left h h2⟩
theorem header_suc {d n : Int} (h : In w0 w sb A c xs k) (hx : headP xs = some ((d, n), r)) :
    (eol xs < xs.length ∧ r = xs.drop (eol xs + 1)) ∧ Calls Tryd.prog 51 #[.pointer (some ⟨sb, 0, none⟩)] w fun e w' => e = .returned (.tuple #[.agg #[.int .i64 d, .int .i64 n, .slice none 0 0], .nilIface]) ∧ Below (left sb A c xs r w).heap.size (left sb A c xs r w) w' := by
  cases hn : nextP xs 72 14 with
  | none => simp [headP, hn] at hx
  | some tr =>
    obtain ⟨t, r'⟩ := tr
    simp only [headP, hn, Option.bind_some] at hx
    split at hx
    · next hc =>
      simp only [Option.some.injEq, Prod.mk.injEq] at hx
      obtain ⟨⟨rfl, rfl⟩, rfl⟩ := hx
      obtain ⟨he, -, hr, -⟩ := nextP_some hn
      exact ⟨⟨he, hr⟩, header_ok w0 w sb A c xs t r' k _ _ (headD t).2 h hn rfl rfl hc.1 hc.2⟩
    · cases hx
theorem detail_no (h : In w0 w sb A c xs k) (hx : nextP xs 68 23 = none) :
    Calls Tryd.prog 52 #[.pointer (some ⟨sb, 0, none⟩)] w fun e w' => e = .returned (.tuple #[.agg #[.int .i64 0, .int .i64 0], .iface 73 (.int .i64 200)]) ∧ Below w.heap.size w w' := by
  have HN : Aside0 (∀ W, Below w.heap.size w W → Calls Tryd.prog 64 #[.pointer (some ⟨sb, 0, none⟩), .int .u8 68, .int .i64 23] W fun e w' => e = .returned (.tuple #[.string ⟨#[]⟩, .iface 73 (.int .i64 200)]) ∧ Drawn0 W w') :=
    ⟨fun W hb => next_no sb A c xs 68 23 W (h.step hb).here (h.step hb).s0 (by omega) hx⟩
  clear h hx
  go_enter Tryd.func52, Tryd.ntmps52
  go_wp2_with (first | (go_at_call 64; (with_reducible refine (HN.out _ ?_).mono ?_); (repeat (first | exact Below.refl _ _ | apply pw_below_drewN | apply below_alloc)); rintro e w' ⟨rfl, ⟨nd, rfl⟩⟩))
  exact bodyPost_ret (v := .tuple #[.agg #[.int .i64 0, .int .i64 0], .iface 73 (.int .i64 200)]) (by simp [results, Tryd.results52, go_sem]) rfl ⟨rfl, by repeat (first | exact Below.refl _ _ | apply pw_below_drewN | apply below_alloc | refine below_set ?_ (Nat.le_refl _))⟩
theorem detail_err {q : Int} (h : In w0 w sb A c xs k) (hx : detP xs k = .error q) :
    Calls Tryd.prog 52 #[.pointer (some ⟨sb, 0, none⟩)] w fun e w' => e = .returned (.tuple #[.agg #[.int .i64 0, .int .i64 0], .iface 73 (.int .i64 q)]) ∧ ErrW w0 w sb k w' := by
  unfold detP at hx
  cases hn : nextP xs 68 23 with
  | none =>
    simp only [hn, Except.error.injEq] at hx
    subst hx
    exact (detail_no h hn).mono fun e w' ⟨h1, h2⟩ => ⟨h1, errW_same h h2⟩
  | some tr =>
    obtain ⟨t, r⟩ := tr
    simp only [hn] at hx
    split at hx
    · next hz =>
      simp only [Except.error.injEq] at hx
      subst hx
      by_cases hl : fieldP t 5 6 = 0
      · exact (detail_zero w0 w sb A c xs t r k _ _ _ _ h hn rfl rfl rfl rfl hl).mono fun e w' ⟨h1, h2⟩ => ⟨h1, errW_left h h2⟩
      · exact (detail_zero2 w0 w sb A c xs t r k _ _ _ _ h hn rfl rfl rfl rfl hl (hz.resolve_left hl)).mono fun e w' ⟨h1, h2⟩ => ⟨h1, errW_left h h2⟩
    · next hz =>
      simp only [not_or] at hz
      split at hx
      · next hv =>
        simp only [Except.error.injEq] at hx
        subst hx
        exact (detail_digit w0 w sb A c xs t r k _ _ _ _ h hn rfl rfl rfl rfl hz.1 hz.2 hv).mono fun e w' ⟨h1, h2⟩ => ⟨h1, errW_left h h2⟩
      · next hv =>
        split at hx
        · next hp =>
          simp only [Except.error.injEq] at hx
          subst hx
          exact (detail_order w0 w sb A c xs t r k _ _ _ _ h hn rfl rfl rfl rfl hz.1 hz.2 (Bool.not_eq_false _ ▸ hv) hp).mono fun e w' ⟨h1, h2⟩ => ⟨h1, errW_left h h2⟩
        · cases hx
theorem detail_suc {x : S50} (h : In w0 w sb A c xs k) (hx : detP xs k = .ok (x, r)) :
    (eol xs < xs.length ∧ r = xs.drop (eol xs + 1)) ∧ Calls Tryd.prog 52 #[.pointer (some ⟨sb, 0, none⟩)] w fun e w' => e = .returned (.tuple #[.agg #[.int .i64 x.f0, .int .i64 x.f1], .nilIface]) ∧ Below (left sb A c xs r w).heap.size (left sb A c xs r w) w' := by
  unfold detP at hx
  cases hn : nextP xs 68 23 with
  | none => simp [hn] at hx
  | some tr =>
    obtain ⟨t, r'⟩ := tr
    simp only [hn] at hx
    split at hx
    · cases hx
    · next hz =>
      simp only [not_or] at hz
      split at hx
      · cases hx
      · next hv =>
        split at hx
        · cases hx
        · next hp =>
          simp only [Except.ok.injEq, Prod.mk.injEq] at hx
          obtain ⟨rfl, rfl⟩ := hx
          obtain ⟨he, -, hr, -⟩ := nextP_some hn
          exact ⟨⟨he, hr⟩, detail_ok w0 w sb A c xs t r' k _ _ _ _ h hn rfl rfl rfl rfl hz.1 hz.2 (by simpa using hv) (Classical.not_not.1 hp).symm⟩
theorem trailer_err {q : Int} {l : List S50} {Ai : Option Addr} {ci : Nat} (h : In w0 w sb A c xs k) (hI : ∀ r, Kd.C k50 (left sb A c xs r w) Ai l.length l) (hci : l.length ≤ ci) (hil : l.length ≤ 100000) (hx : trlP xs l = .error q) :
    Calls Tryd.prog 53 #[.pointer (some ⟨sb, 0, none⟩), .slice Ai l.length ci] w fun e w' => e = .returned (.iface 73 (.int .i64 q)) ∧ ErrW w0 w sb k w' := by
  unfold trlP at hx
  cases hn : nextP xs 84 30 with
  | none =>
    simp only [hn, Except.error.injEq] at hx
    subst hx
    refine (trailer_no w0 w sb A c xs k _ h hn).mono ?_
    rintro e w' ⟨rfl, ⟨nd, rfl⟩⟩
    exact ⟨rfl, errW_same h (pw_below_drewN (Below.refl _ _) nd)⟩
  | some tr =>
    obtain ⟨t, r⟩ := tr
    simp only [hn] at hx
    split at hx
    · cases hx
    · next hz =>
      simp only [Except.error.injEq] at hx
      subst hx
      have ht := totals_run l hil
      by_cases e1 : fieldP t 1 4 = l.length
      · by_cases e2 : (totP l).1 = fieldP t 5 16
        · exact (trailer_3 w0 w sb A c xs t r k _ _ _ _ _ Ai ci _ l h hn rfl rfl rfl (hI r) hci hil ht e1 e2 (fun e3 => hz ⟨e1, e2, e3.symm⟩)).mono fun e w' ⟨h1, h2⟩ => ⟨h1, errW_left h h2⟩
        · exact (trailer_2 w0 w sb A c xs t r k _ _ _ _ _ Ai ci _ l h hn rfl rfl rfl (hI r) hci hil ht e1 (Ne.symm e2)).mono fun e w' ⟨h1, h2⟩ => ⟨h1, errW_left h h2⟩
      · exact (trailer_1 w0 w sb A c xs t r k _ _ _ _ _ Ai ci _ l h hn rfl rfl rfl (hI r) hci hil ht e1).mono fun e w' ⟨h1, h2⟩ => ⟨h1, errW_left h h2⟩
theorem trailer_suc {l : List S50} {Ai : Option Addr} {ci : Nat} (h : In w0 w sb A c xs k) (hI : ∀ r, Kd.C k50 (left sb A c xs r w) Ai l.length l) (hci : l.length ≤ ci) (hil : l.length ≤ 100000) (hx : trlP xs l = .ok r) :
    (eol xs < xs.length ∧ r = xs.drop (eol xs + 1)) ∧ Calls Tryd.prog 53 #[.pointer (some ⟨sb, 0, none⟩), .slice Ai l.length ci] w fun e w' => e = .returned .nilIface ∧ Below (left sb A c xs r w).heap.size (left sb A c xs r w) w' := by
  unfold trlP at hx
  cases hn : nextP xs 84 30 with
  | none => simp [hn] at hx
  | some tr =>
    obtain ⟨t, r'⟩ := tr
    simp only [hn] at hx
    split at hx
    · next hz =>
      simp only [Except.ok.injEq] at hx
      subst hx
      obtain ⟨he, -, hr, -⟩ := nextP_some hn
      exact ⟨⟨he, hr⟩, trailer_ok w0 w sb A c xs t r' k _ _ _ _ _ Ai ci _ l h hn rfl rfl rfl (hI r') hci hil (totals_run l hil) hz.1 hz.2.1 hz.2.2⟩
    · cases hx
end
end Go.Proofs.YtkjdmbbaacjpmaaDoor.Reader
end
section
namespace Go.Proofs.YtkjdmbbaacjpmaaDoor.Reader
open Go.RowKit Go.Proofs.YtkjdmbbaacjpmaaDoor.Scan Go.Proofs.YtkjdmbbaacjpmaaDoorW.PrintWords Go.Proofs.YtkjdmbbaacjpmaaDoorW.PrintLast Go.Proofs.YtkjdmbbaacjpmaaDoor.R
set_option linter.unusedVariables false
set_option linter.unusedSimpArgs false
def readPost (w : World) (res : Except (Int × Int) ((Int × Int) × List S50)) (e : Ending) (w' : World) : Prop :=
  match res with
  | .ok ((d, n), l) => ∃ v, e = .returned (.tuple #[.agg #[.int .i64 d, .int .i64 n, v], .nilIface]) ∧ Kd.R k50 50 w' w.heap.size (fun _ => True) v l ∧ Below w.heap.size w w'
  | .error (c, k) => ∃ eb, e = .returned (.tuple #[.agg #[.int .i64 0, .int .i64 0, .slice none 0 0], .iface 72 (.pointer (some ⟨eb, 0, none⟩))]) ∧ w'.heap[eb]? = some (.cells #[.int .i64 k, .iface 73 (.int .i64 c)] 78 (0, 0)) ∧ w.heap.size ≤ eb ∧ Below w.heap.size w w'
theorem readPost_err {w w' : World} {e : Ending} {c k : Int} (eb : Nat) (he : e = .returned (.tuple #[.agg #[.int .i64 0, .int .i64 0, .slice none 0 0], .iface 72 (.pointer (some ⟨eb, 0, none⟩))])) (hb : w'.heap[eb]? = some (.cells #[.int .i64 k, .iface 73 (.int .i64 c)] 78 (0, 0))) (hl : w.heap.size ≤ eb) (h : Below w.heap.size w w') : readPost w (.error (c, k)) e w' := ⟨eb, he, hb, hl, h⟩
theorem readPost_ok {w w' : World} {e : Ending} {d n : Int} {l : List S50} (v : Value) (he : e = .returned (.tuple #[.agg #[.int .i64 d, .int .i64 n, v], .nilIface])) (hR : Kd.R k50 50 w' w.heap.size (fun _ => True) v l) (h : Below w.heap.size w w') : readPost w (.ok ((d, n), l)) e w' := ⟨v, he, hR, h⟩
theorem blk_new' (w : World) (o : Obj) (g : Nat) (hg : g = w.heap.size) : (w.alloc o).heap[g]? = some o := hg ▸ blk_new w o
def begun (w : World) (A : Option Addr) (n c : Nat) : World := (w.alloc (.cells #[.int .i64 0, .int .i64 0, .slice none 0 0] 32)).alloc (.cells #[.slice A n c, .int .i64 0] 93)
theorem begun_in {w : World} {A : Option Addr} {c : Nat} {xs : List Int} (h : At w A c xs) (HT : C.Tab w) : In w (begun w A xs.length c) (w.heap.size + 1) A c xs 0 :=
  ⟨h, HT, below_alloc (below_alloc (Below.refl _ _) _) _, Nat.le_succ _, by
    have := blk_new (w.alloc (.cells #[.int .i64 0, .int .i64 0, .slice none 0 0] 32)) (.cells #[.slice A xs.length c, .int .i64 0] 93)
    simpa [begun] using this⟩
theorem begun_res (w : World) (A : Option Addr) (n c : Nat) : (begun w A n c).heap[w.heap.size]? = some (.cells #[.int .i64 0, .int .i64 0, .slice none 0 0] 32 (0, 0)) := blk_alloc (blk_new _ _) _
theorem begun_size (w : World) (A : Option Addr) (n c : Nat) : (begun w A n c).heap.size = w.heap.size + 1 + 1 := by simp [begun]
set_option maxRecDepth 100000 in
theorem read_head (A : Option Addr) (c : Nat) (xs : List Int) (w : World) (h : At w A c xs) (HT : C.Tab w) (hx : headP xs = none) :
    Calls Tryd.prog 39 #[.slice A xs.length c] w (readPost w (.error (200, 0))) := by
  have HE := Lib.hid (header_err (begun_in h HT) hx)
  have hres := begun_res w A xs.length c
  have HR := Aside0.mk hres
  have HZ := Aside0.mk (begun_size w A xs.length c)
  clear h hx hres
  unfold begun at *
  generalize xs.length = n at *
  go_enter Tryd.func39, Tryd.ntmps39
  go_wp2_with (first | (refine HE.out.mono ?_; rintro e w' ⟨rfl, hw⟩; have HW := Aside0.mk hw; clear hw; have BK := Aside0.mk ((HW.out.bes w.heap.size (by rw [HZ.out]; omega) (by omega)).trans HR.out); have c0_ : w'.cell? ⟨w.heap.size, 0, none⟩ = some (.int .i64 0) := blk_cell BK.out 0; have c1_ : w'.cell? ⟨w.heap.size, 1, none⟩ = some (.int .i64 0) := blk_cell BK.out 1; have c2_ : w'.cell? ⟨w.heap.size, 2, none⟩ = some (.slice none 0 0) := blk_cell BK.out 2; have z0_ := blk_frozen BK.out 0; have z1_ := blk_frozen BK.out 1; have z2_ := blk_frozen BK.out 2; have lt_ : w.heap.size < w'.heap.size := blk_lt BK.out; have ne_ : ¬ w.heap.size = w'.heap.size := Nat.ne_of_lt lt_))
  exact bodyPost_ret (v := .tuple #[.agg #[.int .i64 0, .int .i64 0, .slice none 0 0], .iface 72 (.pointer (some ⟨w'.heap.size + 1, 0, none⟩))]) (by simp [results, Tryd.results39, go_sem, c0_, c1_, c2_, lt_, ne_]) rfl
    (readPost_err (w'.heap.size + 1) rfl (blk_new' _ _ _ (by simp [setCell_size])) (by omega) (by repeat (first | exact HW.out.bel | apply below_alloc | refine below_set ?_ (Nat.le_refl _))))
theorem In.left {w0 w w' : World} {sb : Nat} {A : Option Addr} {c : Nat} {xs r : List Int} {k : Int} (h : In w0 w sb A c xs k) (he : eol xs < xs.length) (hr : r = xs.drop (eol xs + 1)) (hb : Below (Reader.left sb A c xs r w).heap.size (Reader.left sb A c xs r w) w') :
    In w0 w' sb (cutA A c (eol xs)) (c - (eol xs + 1)) r k := by
  subst hr
  have h1 : In w0 (Reader.left sb A c xs (xs.drop (eol xs + 1)) w) sb (cutA A c (eol xs)) (c - (eol xs + 1)) (xs.drop (eol xs + 1)) k := ⟨h.at_.left he, h.tab, below_set h.bel h.ge, h.ge, blk_put h.blk 0 _ rfl⟩
  exact h1.step hb
theorem start_LS {w w' : World} {rb sb : Nat} {A : Option Addr} {c : Nat} {r : List Int} (d n : Int) (h : In w w' sb A c r 0) (hr : w'.heap[rb]? = some (.cells #[.int .i64 0, .int .i64 0, .slice none 0 0] 32 (0, 0))) (hne : rb ≠ sb) (hge : w.heap.size ≤ rb) :
    LS w ((w'.setCell ⟨sb, 1, none⟩ (.int .i64 1)).alloc (.cells #[.int .i64 d, .int .i64 n, .slice none 0 0] 32)) rb sb w'.heap.size A c r 1 d n (.slice none 0 0) [] := by
  have hz := setCell_size w' ⟨sb, 1, none⟩ (.int .i64 1)
  have h1 : In w (w'.setCell ⟨sb, 1, none⟩ (.int .i64 1)) sb A c r 1 := ⟨h.at_, h.tab, below_set h.bel h.ge, h.ge, blk_put h.blk 1 _ rfl⟩
  exact ⟨h1.step (below_alloc (Below.refl _ _) _), blk_alloc (blk_far hr hne _) _, blk_new' _ _ _ hz.symm, Kd.R_nil _ _ _ _ _, hge, h.bel.size, hne, Nat.ne_of_gt h.lt, Nat.ne_of_lt (blk_lt hr)⟩
theorem At.first {w : World} {A : Option Addr} {c : Nat} {x : Int} {t : List Int} (h : At w A c (x :: t)) : ∃ b o, A = some ⟨b, o, none⟩ ∧ w.cell? ⟨b, o, none⟩ = some (.int .u8 x) := by
  rcases h.adr with ⟨rfl, rfl⟩ | ⟨b, o, rfl⟩
  · have := h.cap; simp at this
  · obtain ⟨_, _, hr⟩ := Kd.reads_of_C (enc := Value.int .u8) (d := (0 : Int)) (h1 := fun _ => rfl) h.C
    obtain ⟨ad, had, hc⟩ := hr (by simp)
    obtain rfl := Option.some.inj had
    have hci := hc 0 (by simp)
    exact ⟨b, o, rfl, by simpa [Addr.add] using hci⟩
theorem LS.fin {w0 W : World} {rb sb bb : Nat} {A : Option Addr} {c : Nat} {xs : List Int} {k d n : Int} {v : Value} {l : List S50} (h : LS w0 W rb sb bb A c xs k d n v l) (a b u : Value) :
    Kd.R k50 50 (((W.setCell ⟨rb, 0, none⟩ a).setCell ⟨rb, 1, none⟩ b).setCell ⟨rb, 2, none⟩ u) w0.heap.size (fun _ => True) v l ∧ Below w0.heap.size w0 (((W.setCell ⟨rb, 0, none⟩ a).setCell ⟨rb, 1, none⟩ b).setCell ⟨rb, 2, none⟩ u) := by
  have b1 := blk_set h.res 0 a
  have b2 := blk_set b1 1 b
  have r1 := Kd.R_set h.row h.res (by decide) 0 a
  have r2 := Kd.R_set r1 b1 (by decide) 1 b
  exact ⟨Kd.R_set r2 b2 (by decide) 2 u, below_set (below_set (below_set h.inn.bel h.rge) h.rge) h.rge⟩
theorem errW_fin {w0 w W : World} {sb rb : Nat} {k : Int} (h : ErrW w0 w sb k W) (hr : w0.heap.size ≤ rb) (a b u : Value) : Below w0.heap.size w0 (((W.setCell ⟨rb, 0, none⟩ a).setCell ⟨rb, 1, none⟩ b).setCell ⟨rb, 2, none⟩ u) := below_set (below_set (below_set h.bel hr) hr) hr
set_option maxRecDepth 100000 in
set_option maxHeartbeats 4000000 in
theorem read_body (A : Option Addr) (c : Nat) (xs r : List Int) (d n : Int) (RES : Except (Int × Int) (List S50)) (w : World) (h : At w A c xs) (HT : C.Tab w) (hx : headP xs = some ((d, n), r)) (hR : loopP 10001 r 1 [] = RES) :
    Calls Tryd.prog 39 #[.slice A xs.length c] w (readPost w (RES.map fun l => ((d, n), l))) := by
  obtain ⟨⟨hel, her⟩, hS⟩ := header_suc (begun_in h HT) hx
  have HE := Lib.hid hS
  have HIN := Lib.hid (begun_in h HT)
  have HEL := Lib.hid hel
  have HER := Lib.hid her
  have HRS := Lib.hid hR
  have HRB := Lib.hid (begun_res w A xs.length c)
  have HZ := Lib.hid (begun_size w A xs.length c)
  clear h hx hS hel her hR
  have hlen := Lib.hid (rfl : xs.length = xs.length)
  go_enter Tryd.func39, Tryd.ntmps39
  go_wp2_with (first | (refine HE.out.mono ?_; rintro e w' ⟨rfl, hb⟩; have HI := Lib.hid (In.left HIN.out HEL.out HER.out hb); have HW := Lib.hid hb; clear hb; have s1_ := HI.out.s1; have z1_ := blk_frozen HI.out.blk 1; have lt_ : w.heap.size + 1 < w'.heap.size := HI.out.lt; have ne_ : ¬ w.heap.size + 1 = w'.heap.size := Nat.ne_of_lt lt_))
  have hrb : w'.heap[w.heap.size]? = some (.cells #[.int .i64 0, .int .i64 0, .slice none 0 0] 32 (0, 0)) := blk_below (blk_far HRB.out (Nat.ne_of_lt (Nat.lt_succ_self _)) _) HW.out
  have HL0 := Lib.hid (start_LS d n HI.out hrb (Nat.ne_of_lt (Nat.lt_succ_self _)) (Nat.le_refl _))
  clear hrb
  go_loopg [7, 8] 10001 (fun kq v7 v8 W => ∃ (A1 : Option Addr) (c1 : Nat) (ys : List Int) (k : Nat) (v : Value) (l : List S50), Aside0 (LS w W w.heap.size (w.heap.size + 1) w'.heap.size A1 c1 ys k d n v l) ∧ Aside0 (loopP kq ys k l = RES) ∧ Aside0 (kq + k = 10002 ∧ 1 ≤ k ∧ k ≤ 10000 ∧ l.length + 1 = k))
  case atStart => exact ⟨_, _, r, 1, _, [], ⟨HL0.out⟩, ⟨HRS.out⟩, ⟨by omega, by omega, by omega, rfl⟩⟩
  case round =>
    obtain ⟨A1, c1, ys, k, v, l, HL, HP, HN⟩ := hrel
    clear HL0 HI HW s1_ z1_ HE HIN HEL HER HRS HRB HZ hlen
    have hk1 : 1 ≤ (k : Int) := by have := HN.out; omega
    have hk2 : (k : Int) ≤ 10000 := by have := HN.out; omega
    have s1_ : wr.cell? ⟨w.heap.size + 1, 1, none⟩ = some (.int .i64 k) := HL.out.inn.s1
    have s0_ : wr.cell? ⟨w.heap.size + 1, 0, none⟩ = some (.slice A1 ys.length c1) := HL.out.inn.s0
    go_upto_region 7 with (fail)
    go_cut [63] (fun v63 W => v63 = .bool (brk ys k) ∧ Aside0 (LS w W w.heap.size (w.heap.size + 1) w'.heap.size A1 c1 ys k d n v l))
    case first =>
      by_cases h9 : 9999 < (k : Int)
      · have b1 : decide (9999 < (k : Int)) = true := decide_eq_true h9
        have hbr : brk ys k = true := by simp [brk, b1]
        have HBR := Lib.hid hbr
        clear hbr h9
        go_wp2
        go_meet
        case rel => exact ⟨by rw [HBR.out], HL⟩
      · have b1 : decide (9999 < (k : Int)) = false := decide_eq_false h9
        by_cases h1 : 1 < (k : Int)
        · have b2 : decide (1 < (k : Int)) = true := decide_eq_true h1
          cases ys with
          | nil =>
            have HBR := Lib.hid (show brk [] k = false by simp [brk, b1])
            simp only [List.length_nil] at s0_
            clear h9 h1
            go_wp2
            go_meet
            case rel => exact ⟨by rw [HBR.out], HL⟩
          | cons x0 ys =>
            obtain ⟨fb, fo, rfl, hx0⟩ := HL.out.inn.here.first
            have hl0 : 0 < (x0 :: ys).length := by simp
            have b3 : decide (0 < ((x0 :: ys).length : Int)) = true := decide_eq_true (by omega)
            have hb4 : brk (x0 :: ys) k = (x0 == 84) := by simp [brk, b1, b2]
            have p0 : (0 < (x0 :: ys).length) = True := eq_true hl0
            by_cases h84 : x0 = 84
            · have b5 : (x0 == 84) = true := by simp [h84]
              rw [b5] at hb4
              have HBR := Lib.hid hb4
              clear hb4 h9 h1 h84
              generalize (x0 :: ys).length = yl at *
              go_wp2
              go_meet
              case rel => exact ⟨by rw [HBR.out], HL⟩
            · have b5 : (x0 == 84) = false := by simp [h84]
              rw [b5] at hb4
              have HBR := Lib.hid hb4
              clear hb4 h9 h1 h84
              generalize (x0 :: ys).length = yl at *
              go_wp2
              go_meet
              case rel => exact ⟨by rw [HBR.out], HL⟩
        · have b2 : decide (1 < (k : Int)) = false := decide_eq_false h1
          have HBR := Lib.hid (show brk ys k = false by simp [brk, b1, b2])
          clear h9 h1
          go_wp2
          go_meet
          case rel => exact ⟨by rw [HBR.out], HL⟩
    case rest =>
      obtain ⟨rfl, HL⟩ := hcut
      cases gk with
      | zero => have := HN.out; omega
      | succ gk =>
        have H := HP.out
        clear HP
        simp only [loopP] at H
        cases hb : brk ys k with
        | true =>
          rw [hb, if_pos rfl] at H
          obtain ⟨Ai, ci, rfl, hci, hC⟩ := Kd.R_reads HL.out.row
          have c2_ : wc.cell? ⟨w'.heap.size, 2, none⟩ = some (.slice Ai l.length ci) := blk_cell HL.out.bat 2
          have hI : ∀ r, Kd.C k50 (Reader.left (w.heap.size + 1) A1 c1 ys r wc) Ai l.length l := fun r => (Kd.R_reads' (Kd.R_set HL.out.row HL.out.inn.blk (by decide) 0 _)).2.2
          have hil : l.length ≤ 100000 := by have := HN.out; omega
          cases ht : trlP ys l with
          | error q =>
            simp only [endP, ht] at H
            subst H
            have HE := Lib.hid (trailer_err HL.out.inn hI hci hil ht)
            clear hI ht hC hb hil hci
            generalize l.length = ln at *
            go_wp2_with (first | (refine HE.out.mono ?_; rintro e we ⟨rfl, hw⟩; have HW := Aside0.mk hw; clear hw; have BK := Aside0.mk ((HW.out.bes w.heap.size (blk_lt HL.out.res) (by omega)).trans HL.out.res); have g0_ : we.cell? ⟨w.heap.size, 0, none⟩ = some (.int .i64 0) := blk_cell BK.out 0; have g1_ : we.cell? ⟨w.heap.size, 1, none⟩ = some (.int .i64 0) := blk_cell BK.out 1; have g2_ : we.cell? ⟨w.heap.size, 2, none⟩ = some (.slice none 0 0) := blk_cell BK.out 2; have z0_ := blk_frozen BK.out 0; have z1_ := blk_frozen BK.out 1; have z2_ := blk_frozen BK.out 2; have lt2_ : w.heap.size < we.heap.size := blk_lt BK.out; have ne2_ : ¬ w.heap.size = we.heap.size := Nat.ne_of_lt lt2_; have l0_ := HW.out.lin; have lt3_ : w.heap.size + 1 < we.heap.size := World.block_lt_of_cell? we _ l0_; have ne3_ : ¬ w.heap.size + 1 = we.heap.size := Nat.ne_of_lt lt3_))
            go_region
            go_wp2
            exact bodyPost_ret (v := .tuple #[.agg #[.int .i64 0, .int .i64 0, .slice none 0 0], .iface 72 (.pointer (some ⟨we.heap.size, 0, none⟩))]) (by simp [results, Tryd.results39, go_sem, g0_, g1_, g2_, lt2_, ne2_]) rfl
              (readPost_err we.heap.size rfl (blk_drew (blk_new' _ _ _ (by simp [setCell_size]))) (by omega) (Below.drew (below_alloc (errW_fin HW.out (Nat.le_refl _) _ _ _) _)))
          | ok r2 =>
            simp only [endP, ht] at H
            obtain ⟨⟨he, hr⟩, hS⟩ := trailer_suc HL.out.inn hI hci hil ht
            have HE := Lib.hid hS
            have HEL := Lib.hid he
            have HER := Lib.hid hr
            clear hI ht hC hb hil hci hS he hr
            by_cases hr2 : r2 = []
            · subst hr2
              rw [if_pos rfl] at H
              subst H
              generalize l.length = ln at *
              go_wp2_with (first | (refine HE.out.mono ?_; rintro e we ⟨rfl, hw⟩; have HW := Lib.hid (HL.out.taken HEL.out HER.out hw); clear hw; have BK := Aside0.mk HW.out.res; have g0_ : we.cell? ⟨w.heap.size, 0, none⟩ = some (.int .i64 0) := blk_cell BK.out 0; have g1_ : we.cell? ⟨w.heap.size, 1, none⟩ = some (.int .i64 0) := blk_cell BK.out 1; have g2_ : we.cell? ⟨w.heap.size, 2, none⟩ = some (.slice none 0 0) := blk_cell BK.out 2; have z0_ := blk_frozen BK.out 0; have z1_ := blk_frozen BK.out 1; have z2_ := blk_frozen BK.out 2; have lt2_ : w.heap.size < we.heap.size := blk_lt BK.out; have ne2_ : ¬ w.heap.size = we.heap.size := Nat.ne_of_lt lt2_; have l0_ := HW.out.inn.s0; have lt3_ : w.heap.size + 1 < we.heap.size := HW.out.inn.lt; have k0_ := blk_cell HW.out.bat 0; have k1_ := blk_cell HW.out.bat 1; have k2_ := blk_cell HW.out.bat 2; simp only [List.getElem?_toArray, List.getElem?_cons_zero, List.getElem?_cons_succ] at k0_ k1_ k2_; simp only [List.length_nil] at l0_))
              exact bodyPost_ret (v := .tuple #[.agg #[.int .i64 d, .int .i64 n, .slice Ai ln ci], .nilIface]) (by simp [results, Tryd.results39, go_sem, g0_, g1_, g2_, lt2_, ne2_]) rfl
                (readPost_ok _ rfl (HW.out.fin _ _ _).1 (HW.out.fin _ _ _).2)
            · rw [if_neg hr2] at H
              subst H
              have hr3 : 0 < r2.length := List.length_pos_iff.2 hr2
              have b3 : decide (0 < (r2.length : Int)) = true := decide_eq_true (by omega)
              clear hr2
              generalize l.length = ln at *
              go_wp2_with (first | (refine HE.out.mono ?_; rintro e we ⟨rfl, hw⟩; have HW := Lib.hid (HL.out.taken HEL.out HER.out hw); clear hw; have BK := Aside0.mk HW.out.res; have g0_ : we.cell? ⟨w.heap.size, 0, none⟩ = some (.int .i64 0) := blk_cell BK.out 0; have g1_ : we.cell? ⟨w.heap.size, 1, none⟩ = some (.int .i64 0) := blk_cell BK.out 1; have g2_ : we.cell? ⟨w.heap.size, 2, none⟩ = some (.slice none 0 0) := blk_cell BK.out 2; have z0_ := blk_frozen BK.out 0; have z1_ := blk_frozen BK.out 1; have z2_ := blk_frozen BK.out 2; have lt2_ : w.heap.size < we.heap.size := blk_lt BK.out; have ne2_ : ¬ w.heap.size = we.heap.size := Nat.ne_of_lt lt2_; have l0_ := HW.out.inn.s0; have l1_ := HW.out.inn.s1; have lt3_ : w.heap.size + 1 < we.heap.size := HW.out.inn.lt; have ne3_ : ¬ w.heap.size + 1 = we.heap.size := Nat.ne_of_lt lt3_))
              go_region
              go_wp2
              exact bodyPost_ret (v := .tuple #[.agg #[.int .i64 0, .int .i64 0, .slice none 0 0], .iface 72 (.pointer (some ⟨we.heap.size, 0, none⟩))]) (by simp [results, Tryd.results39, go_sem, g0_, g1_, g2_, lt2_, ne2_]) rfl
                (readPost_err we.heap.size rfl (blk_drew (blk_new' _ _ _ (by simp [setCell_size]))) (by omega) (Below.drew (below_alloc (HW.out.fin _ _ _).2 _)))
        | false =>
          rw [hb, if_neg (by decide)] at H
          cases ht : detP ys k with
          | error q =>
            simp only [ht] at H
            subst H
            have HE := Lib.hid (detail_err HL.out.inn ht)
            clear ht hb
            go_wp2_with (first | (refine HE.out.mono ?_; rintro e we ⟨rfl, hw⟩; have HW := Aside0.mk hw; clear hw; have BK := Aside0.mk ((HW.out.bes w.heap.size (blk_lt HL.out.res) (by omega)).trans HL.out.res); have g0_ : we.cell? ⟨w.heap.size, 0, none⟩ = some (.int .i64 0) := blk_cell BK.out 0; have g1_ : we.cell? ⟨w.heap.size, 1, none⟩ = some (.int .i64 0) := blk_cell BK.out 1; have g2_ : we.cell? ⟨w.heap.size, 2, none⟩ = some (.slice none 0 0) := blk_cell BK.out 2; have z0_ := blk_frozen BK.out 0; have z1_ := blk_frozen BK.out 1; have z2_ := blk_frozen BK.out 2; have lt2_ : w.heap.size < we.heap.size := blk_lt BK.out; have ne2_ : ¬ w.heap.size = we.heap.size := Nat.ne_of_lt lt2_; have l0_ := HW.out.lin; have lt3_ : w.heap.size + 1 < we.heap.size := World.block_lt_of_cell? we _ l0_; have ne3_ : ¬ w.heap.size + 1 = we.heap.size := Nat.ne_of_lt lt3_))
            go_region
            go_wp2
            exact bodyPost_ret (v := .tuple #[.agg #[.int .i64 0, .int .i64 0, .slice none 0 0], .iface 72 (.pointer (some ⟨we.heap.size + 1, 0, none⟩))]) (by simp [results, Tryd.results39, go_sem, g0_, g1_, g2_, lt2_, ne2_]) rfl
              (readPost_err (we.heap.size + 1) rfl (blk_drew (blk_new' _ _ _ (by simp [setCell_size]))) (by omega) (Below.drew (below_alloc (below_alloc (errW_fin HW.out (Nat.le_refl _) _ _ _) _) _)))
          | ok xr =>
            obtain ⟨x, r2⟩ := xr
            simp only [ht] at H
            obtain ⟨⟨he, hr⟩, hS⟩ := detail_suc HL.out.inn ht
            have HE := Lib.hid hS
            have HEL := Lib.hid he
            have HER := Lib.hid hr
            have HQ := Lib.hid H
            clear ht hS he hr H
            have hil : l.length ≤ 100000 := by have := HN.out; omega
            have HK9 := Lib.hid (show (k : Int) ≤ 9999 by
              simp only [brk, Bool.or_eq_false_iff, decide_eq_false_iff_not] at hb
              omega)
            clear hb
            go_wp2_with (first
              | (refine HE.out.mono ?_; rintro e we ⟨rfl, hw⟩; have HW := Lib.hid (HL.out.taken HEL.out HER.out hw); clear hw; have k2_ : we.cell? ⟨w'.heap.size, 2, none⟩ = some v := blk_cell HW.out.bat 2; have lt4_ : w'.heap.size < we.heap.size := blk_lt HW.out.bat; have ne4_ : ¬ w'.heap.size = we.heap.size := Nat.ne_of_lt lt4_)
              | (at_builtin; have HA := Lib.hid (HW.out.alloc (.cells #[.int .i64 x.f0, .int .i64 x.f1] 50)); refine Kd.R_append k50 (w0 := w) w.heap.size rfl (.tmp 81) (.tmp 83) 30 50 (.agg #[(.int .i64 0), (.int .i64 0)]) 16 rfl Tryd.underlying30 info50 rfl (by decide) (by omega) v l x [.int .i64 x.f0, .int .i64 x.f1] (fun _ => True) (fun _ => False) rfl (by first | (go_simp; done) | (go_simp; rfl)) (k50_mkM _ _ _ x) (fun _ hk => hk.elim) (fun _ _ => trivial) HA.out.row HA.out.inn.bel HA.out.inn.bel.size (by omega) ?_; intro v1 w1 hR hB hg hat; obtain ⟨l1, hl1⟩ : ∃ l1, l1 = l ++ [x] := ⟨_, rfl⟩; rw [← hl1] at hR; have HL1 := Lib.hid hl1; clear hl1; obtain ⟨Av, cv, rfl⟩ := Kd.R_slice hR; have HF := Lib.hid ((HA.out.app hR hB hg).line ((k : Int) + 1)); have e2_ : w1.cell? ⟨w'.heap.size, 2, none⟩ = some v := blk_cell (blk_grown HA.out.bat hg (Kd.R_ne HA.out.row HA.out.bat (by decide))) 2; have f2_ : w1.frozen? ⟨w'.heap.size, 2, none⟩ = false := blk_frozen (blk_grown HA.out.bat hg (Kd.R_ne HA.out.row HA.out.bat (by decide))) 2; have e1_ : w1.cell? ⟨w.heap.size + 1, 1, none⟩ = some (.int .i64 k) := blk_cell (blk_grown HA.out.inn.blk hg (Kd.R_ne HA.out.row HA.out.inn.blk (by decide))) 1; have f1_ : w1.frozen? ⟨w.heap.size + 1, 1, none⟩ = false := blk_frozen (blk_grown HA.out.inn.blk hg (Kd.R_ne HA.out.row HA.out.inn.blk (by decide))) 1; have ne5_ : ¬ w'.heap.size = w.heap.size + 1 := (by omega); clear hR hB hg hat))
            go_roundg gk
            case measure => omega
            case rel => exact ⟨_, _, r2, k + 1, _, l1, ⟨HF.out⟩, ⟨by rw [HL1.out, Int.natCast_add]; exact HQ.out⟩, ⟨by have := HN.out; omega, by omega, by have := HN.out; have := HK9.out; omega, by have := HN.out; rw [HL1.out]; simp; omega⟩⟩
end Go.Proofs.YtkjdmbbaacjpmaaDoor.Reader
end
section
namespace Go.Proofs.YtkjdmbbaacjpmaaDoor.As
open Go.RowKit Go.Extern.Stop Go.Stop Go.Extern
set_option linter.unusedVariables false
set_option linter.unusedSimpArgs false
theorem as_nil (t : Value) (w : World) :
    Calls Tryd.prog 40 #[.nilIface, t] w fun e w' => e = .returned (.bool false) ∧ w' = w := by
  go_enter Tryd.func40, Tryd.ntmps40
  go_wp2
  go_ret
  exact ⟨rfl, rfl⟩
theorem valueOf75 (t : Addr) (w : World) : (ReflectliteValue.unpack (.iface 75 (.pointer (some t)))).run Tryd.prog w
    = .ok (.agg #[.pointer (some ⟨8, 75, none⟩), .pointer (some ⟨w.heap.size, 0, none⟩), .int .u64 150]) (w.alloc (.cells #[.pointer (some t)] 75)) := by kernel_rfl
theorem valueOf76 (t : Addr) (w : World) : (ReflectliteValue.unpack (.iface 76 (.pointer (some t)))).run Tryd.prog w
    = .ok (.agg #[.pointer (some ⟨8, 76, none⟩), .pointer (some ⟨w.heap.size, 0, none⟩), .int .u64 150]) (w.alloc (.cells #[.pointer (some t)] 76)) := by kernel_rfl
theorem valueOf72 (t : Addr) (w : World) : (ReflectliteValue.unpack (.iface 72 (.pointer (some t)))).run Tryd.prog w
    = .ok (.agg #[.pointer (some ⟨8, 72, none⟩), .pointer (some ⟨w.heap.size, 0, none⟩), .int .u64 150]) (w.alloc (.cells #[.pointer (some t)] 72)) := by kernel_rfl
theorem valueOf73 (n : Int) (w : World) : (ReflectliteValue.unpack (.iface 73 (.int .i64 n))).run Tryd.prog w
    = .ok (.agg #[.pointer (some ⟨8, 73, none⟩), .pointer (some ⟨w.heap.size, 0, none⟩), .int .u64 130]) (w.alloc (.cells #[.int .i64 n] 73)) := by kernel_rfl
theorem type75 (a : Addr) (w : World) : (ReflectliteValue.methodAny (ReflectliteValue.valueError "reflectlite.Value.Type" 0) (fun t _ _ _ => ReflectliteType.toType t) #[.agg #[.pointer (some ⟨8, 75, none⟩), .pointer (some a), .int .u64 150]]).run Tryd.prog w
    = .ok (.iface 119 (.agg #[.pointer (some ⟨8, 75, none⟩)])) w := by kernel_rfl
theorem type76 (a : Addr) (w : World) : (ReflectliteValue.methodAny (ReflectliteValue.valueError "reflectlite.Value.Type" 0) (fun t _ _ _ => ReflectliteType.toType t) #[.agg #[.pointer (some ⟨8, 76, none⟩), .pointer (some a), .int .u64 150]]).run Tryd.prog w
    = .ok (.iface 119 (.agg #[.pointer (some ⟨8, 76, none⟩)])) w := by kernel_rfl
theorem methodKind (h : Value) (w : World) : (Go.method 294 119 (.agg #[h]) "Kind").run Tryd.prog w = .ok (111, h) w := by kernel_rfl
theorem kindOf75 (w : World) : ((ReflectliteType.abiMethod fun t => (fun a : Nat => Value.int IntKind.u8 (a : Int)) <$> Rtype.kind t) #[.pointer (some ⟨8, 75, none⟩)]).run Tryd.prog w = .ok (.int .u8 22) w := by kernel_rfl
theorem kindOf76 (w : World) : ((ReflectliteType.abiMethod fun t => (fun a : Nat => Value.int IntKind.u8 (a : Int)) <$> Rtype.kind t) #[.pointer (some ⟨8, 76, none⟩)]).run Tryd.prog w = .ok (.int .u8 22) w := by kernel_rfl
theorem kindOf72 (w : World) : ((ReflectliteType.abiMethod fun t => (fun a : Nat => Value.int IntKind.u8 (a : Int)) <$> Rtype.kind t) #[.pointer (some ⟨8, 72, none⟩)]).run Tryd.prog w = .ok (.int .u8 22) w := by kernel_rfl
theorem kindOf73 (w : World) : ((ReflectliteType.abiMethod fun t => (fun a : Nat => Value.int IntKind.u8 (a : Int)) <$> Rtype.kind t) #[.pointer (some ⟨8, 73, none⟩)]).run Tryd.prog w = .ok (.int .u8 2) w := by kernel_rfl
theorem methodElem (h : Value) (w : World) : (Go.method 294 119 (.agg #[h]) "Elem").run Tryd.prog w = .ok (123, .agg #[h]) w := by kernel_rfl
theorem methodImplements (h : Value) (w : World) : (Go.method 294 119 (.agg #[h]) "Implements").run Tryd.prog w = .ok (124, .agg #[h]) w := by kernel_rfl
theorem methodAssignableTo (h : Value) (w : World) : (Go.method 294 119 (.agg #[h]) "AssignableTo").run Tryd.prog w = .ok (121, .agg #[h]) w := by kernel_rfl
theorem elemOf75 (w : World) : (ReflectliteType.method ReflectliteType.elem #[.agg #[.pointer (some ⟨8, 75, none⟩)]]).run Tryd.prog w = .ok (.iface 119 (.agg #[.pointer (some ⟨8, 72, none⟩)])) w := by kernel_rfl
theorem elemOf76 (w : World) : (ReflectliteType.method ReflectliteType.elem #[.agg #[.pointer (some ⟨8, 76, none⟩)]]).run Tryd.prog w = .ok (.iface 119 (.agg #[.pointer (some ⟨8, 73, none⟩)])) w := by kernel_rfl
theorem implements72 (w : World) : (ReflectliteType.relation "Implements" ReflectliteType.implements_ #[.agg #[.pointer (some ⟨8, 72, none⟩)], .iface 119 (.agg #[.pointer (some ⟨8, 69, none⟩)])]).run Tryd.prog w = .ok (.bool true) w := by kernel_rfl
theorem implements73 (w : World) : (ReflectliteType.relation "Implements" ReflectliteType.implements_ #[.agg #[.pointer (some ⟨8, 73, none⟩)], .iface 119 (.agg #[.pointer (some ⟨8, 69, none⟩)])]).run Tryd.prog w = .ok (.bool true) w := by kernel_rfl
theorem typeOf72 (v : Value) (w : World) : (ReflectliteType.typeOf #[.iface 72 v]).run Tryd.prog w = .ok (.iface 119 (.agg #[.pointer (some ⟨8, 72, none⟩)])) w := by kernel_rfl
theorem typeOf73 (v : Value) (w : World) : (ReflectliteType.typeOf #[.iface 73 v]).run Tryd.prog w = .ok (.iface 119 (.agg #[.pointer (some ⟨8, 73, none⟩)])) w := by kernel_rfl
theorem assignable72 (w : World) : (ReflectliteType.relation "AssignableTo" ReflectliteType.assignableTo #[.agg #[.pointer (some ⟨8, 72, none⟩)], .iface 119 (.agg #[.pointer (some ⟨8, 72, none⟩)])]).run Tryd.prog w = .ok (.bool true) w := by kernel_rfl
theorem assignable7273 (w : World) : (ReflectliteType.relation "AssignableTo" ReflectliteType.assignableTo #[.agg #[.pointer (some ⟨8, 72, none⟩)], .iface 119 (.agg #[.pointer (some ⟨8, 73, none⟩)])]).run Tryd.prog w = .ok (.bool false) w := by kernel_rfl
theorem assignable73 (w : World) : (ReflectliteType.relation "AssignableTo" ReflectliteType.assignableTo #[.agg #[.pointer (some ⟨8, 73, none⟩)], .iface 119 (.agg #[.pointer (some ⟨8, 73, none⟩)])]).run Tryd.prog w = .ok (.bool true) w := by kernel_rfl
theorem methodUnwrap (h : Value) (w : World) : (Go.method 294 72 h "Unwrap").run Tryd.prog w = .ok (115, h) w := by kernel_rfl
theorem rlm (z : Sem Value) (f : TypeId → Addr → Nat → Nat → Sem Value) (v : Value) :
    ReflectliteValue.method z f #[v] = (do match ← ReflectliteValue.parts v with | none => z | some (t, a, fl) => f t a fl (fl % 32)) := rfl
theorem parts75 (a : Addr) (w : World) : (ReflectliteValue.parts (.agg #[.pointer (some ⟨8, 75, none⟩), .pointer (some a), .int .u64 150])).run Tryd.prog w = .ok (some (75, a, 150)) w := by kernel_rfl
theorem parts76 (a : Addr) (w : World) : (ReflectliteValue.parts (.agg #[.pointer (some ⟨8, 76, none⟩), .pointer (some a), .int .u64 150])).run Tryd.prog w = .ok (some (76, a, 150)) w := by kernel_rfl
theorem isNil75 (a p : Addr) (W : World) (ha : W.cell? a = some (.pointer (some p))) :
    (ReflectliteValue.method (ReflectliteValue.valueError "reflectlite.Value.IsNil" 0) ReflectliteValue.isNil #[.agg #[.pointer (some ⟨8, 75, none⟩), .pointer (some a), .int .u64 150]]).run Tryd.prog W = .ok (.bool false) W := by
  rw [rlm]
  simp only [Sem.run_bind, parts75, Result.andThen]
  simp [ReflectliteValue.isNil, loadVar, isAgg, underlying, Tryd.underlying75, ha, Result.andThen]
theorem isNil76 (a p : Addr) (W : World) (ha : W.cell? a = some (.pointer (some p))) :
    (ReflectliteValue.method (ReflectliteValue.valueError "reflectlite.Value.IsNil" 0) ReflectliteValue.isNil #[.agg #[.pointer (some ⟨8, 76, none⟩), .pointer (some a), .int .u64 150]]).run Tryd.prog W = .ok (.bool false) W := by
  rw [rlm]
  simp only [Sem.run_bind, parts76, Result.andThen]
  simp [ReflectliteValue.isNil, loadVar, isAgg, underlying, Tryd.underlying76, ha, Result.andThen]
theorem elemT75 (w : World) : (Rtype.elem? 75).run Tryd.prog w = .ok (some 72) w := by kernel_rfl
theorem elemT76 (w : World) : (Rtype.elem? 76).run Tryd.prog w = .ok (some 73) w := by kernel_rfl
theorem mk72 (p : Addr) (w : World) : (ReflectliteValue.mk 72 p ReflectliteValue.flagAddr).run Tryd.prog w = .ok (.agg #[.pointer (some ⟨8, 72, none⟩), .pointer (some p), .int .u64 406]) w := by kernel_rfl
theorem mk73 (p : Addr) (w : World) : (ReflectliteValue.mk 73 p ReflectliteValue.flagAddr).run Tryd.prog w = .ok (.agg #[.pointer (some ⟨8, 73, none⟩), .pointer (some p), .int .u64 386]) w := by kernel_rfl
theorem elemV75 (a p : Addr) (W : World) (ha : W.cell? a = some (.pointer (some p))) :
    (ReflectliteValue.method (ReflectliteValue.valueError "reflectlite.Value.Elem" 0) ReflectliteValue.elem #[.agg #[.pointer (some ⟨8, 75, none⟩), .pointer (some a), .int .u64 150]]).run Tryd.prog W
      = .ok (.agg #[.pointer (some ⟨8, 72, none⟩), .pointer (some p), .int .u64 406]) W := by
  rw [rlm]
  simp only [Sem.run_bind, parts75, Result.andThen]
  simp [ReflectliteValue.elem, loadVar, isAgg, underlying, Tryd.underlying75, ha, Result.andThen, elemT75, mk72]
theorem elemV76 (a p : Addr) (W : World) (ha : W.cell? a = some (.pointer (some p))) :
    (ReflectliteValue.method (ReflectliteValue.valueError "reflectlite.Value.Elem" 0) ReflectliteValue.elem #[.agg #[.pointer (some ⟨8, 76, none⟩), .pointer (some a), .int .u64 150]]).run Tryd.prog W
      = .ok (.agg #[.pointer (some ⟨8, 73, none⟩), .pointer (some p), .int .u64 386]) W := by
  rw [rlm]
  simp only [Sem.run_bind, parts76, Result.andThen]
  simp [ReflectliteValue.elem, loadVar, isAgg, underlying, Tryd.underlying76, ha, Result.andThen, elemT76, mk73]
theorem rls (v x : Value) : ReflectliteValue.set #[v, x] = (do
    let (some (dst, a, fl), some (src, b, _)) := (← ReflectliteValue.parts v, ← ReflectliteValue.parts x)
      | unsupported (.noEntry "extern/(internal/reflectlite.Value).Set.zeroValue")
    if fl / ReflectliteValue.flagAddr % 2 == 0 then unsupported (.noEntry "extern/(internal/reflectlite.Value).Set.unaddressable")
    let val ← loadVar src b
    if ← Rtype.directlyAssignable dst src then storeVar dst a val
    else if ← Rtype.implements dst src then
      if (← Rtype.kind src) == 20 then
        match val with
        | .nilIface => unsupported (.noEntry "extern/reflectlite: a nil value of one interface type handed on as a value of another")
        | _ => storeVar dst a val
      else storeVar dst a (.iface src val)
    else panicString ("reflectlite.Set: value of type " ++ (← Rtype.spelt src) ++ " is not assignable to type " ++ (← Rtype.spelt dst))
    pure (.tuple #[])) := rfl
theorem parts72a (a : Addr) (w : World) : (ReflectliteValue.parts (.agg #[.pointer (some ⟨8, 72, none⟩), .pointer (some a), .int .u64 406])).run Tryd.prog w = .ok (some (72, a, 406)) w := by kernel_rfl
theorem parts72 (a : Addr) (w : World) : (ReflectliteValue.parts (.agg #[.pointer (some ⟨8, 72, none⟩), .pointer (some a), .int .u64 150])).run Tryd.prog w = .ok (some (72, a, 150)) w := by kernel_rfl
theorem parts73a (a : Addr) (w : World) : (ReflectliteValue.parts (.agg #[.pointer (some ⟨8, 73, none⟩), .pointer (some a), .int .u64 386])).run Tryd.prog w = .ok (some (73, a, 386)) w := by kernel_rfl
theorem parts73 (a : Addr) (w : World) : (ReflectliteValue.parts (.agg #[.pointer (some ⟨8, 73, none⟩), .pointer (some a), .int .u64 130])).run Tryd.prog w = .ok (some (73, a, 130)) w := by kernel_rfl
theorem direct72 (w : World) : (Rtype.directlyAssignable 72 72).run Tryd.prog w = .ok true w := by kernel_rfl
theorem direct73 (w : World) : (Rtype.directlyAssignable 73 73).run Tryd.prog w = .ok true w := by kernel_rfl
theorem set72 (ta b e : Addr) (old : Value) (W : World) (hb : W.cell? b = some (.pointer (some e))) (ht : W.cell? ta = some old) (hf : W.frozen? ta = false) :
    (ReflectliteValue.set #[.agg #[.pointer (some ⟨8, 72, none⟩), .pointer (some ta), .int .u64 406], .agg #[.pointer (some ⟨8, 72, none⟩), .pointer (some b), .int .u64 150]]).run Tryd.prog W
      = .ok (.tuple #[]) (W.setCell ta (.pointer (some e))) := by
  rw [rls]
  simp only [Sem.run_bind, parts72a, parts72, Result.andThen]
  simp [ReflectliteValue.flagAddr, loadVar, isAgg, underlying, Tryd.underlying72, hb, Result.andThen, direct72, storeVar, Value.cells, storeCells, Addr.add]
  rw [run_store Tryd.prog W ta _ _ (by rfl)]
  simp [ht, hf]
theorem set73 (ta b : Addr) (n : Int) (old : Value) (W : World) (hb : W.cell? b = some (.int .i64 n)) (ht : W.cell? ta = some old) (hf : W.frozen? ta = false) :
    (ReflectliteValue.set #[.agg #[.pointer (some ⟨8, 73, none⟩), .pointer (some ta), .int .u64 386], .agg #[.pointer (some ⟨8, 73, none⟩), .pointer (some b), .int .u64 130]]).run Tryd.prog W
      = .ok (.tuple #[]) (W.setCell ta (.int .i64 n)) := by
  rw [rls]
  simp only [Sem.run_bind, parts73a, parts73, Result.andThen]
  simp [ReflectliteValue.flagAddr, loadVar, isAgg, underlying, Tryd.underlying73, hb, Result.andThen, direct73, storeVar, Value.cells, storeCells, Addr.add]
  rw [run_store Tryd.prog W ta _ _ (by rfl)]
  simp [ht, hf]
end Go.Proofs.YtkjdmbbaacjpmaaDoor.As
end
section
namespace Go.Proofs.YtkjdmbbaacjpmaaDoor.As
open Go.RowKit Go.Extern.Stop Go.Stop Go.Extern
set_option linter.unusedVariables false
set_option linter.unusedSimpArgs false
theorem ta124 (v : Value) (w : World) : (Instr.typeAssert (.iface 72 v) 69 124 true).run Tryd.prog w = .ok (.tuple #[.nilIface, .bool false]) w := run_typeAssert_lacksB Tryd.underlying124 (by kernel_rfl) (by kernel_rfl) v 69 w
theorem unwrap (eb eo : Nat) (v : Value) (w : World) (h : w.cell? ⟨eb, eo + 1, none⟩ = some v) : Calls Tryd.prog 115 #[.pointer (some ⟨eb, eo, none⟩)] w fun e w' => e = .returned v ∧ w' = w := by
  go_enter Tryd.func115, Tryd.ntmps115
  go_wp2
  go_ret
  exact ⟨rfl, rfl⟩
theorem ta127 (v : Value) (w : World) : (Instr.typeAssert (.iface 72 v) 69 127 true).run Tryd.prog w = .ok (.tuple #[.iface 72 v, .bool true]) w := by kernel_rfl
set_option maxRecDepth 100000 in
set_option maxHeartbeats 4000000 in
theorem as_at (e t : Addr) (old : Value) (w : World) (hg : w.cell? ⟨0, 0, none⟩ = some (.iface 119 (.agg #[.pointer (some ⟨8, 69, none⟩)]))) (ht0 : w.cell? t = some old) (hf0 : w.frozen? t = false) :
    Calls Tryd.prog 40 #[.iface 72 (.pointer (some e)), .iface 75 (.pointer (some t))] w fun ev w' => ev = .returned (.bool true) ∧ w' = ((((w.alloc (.cells #[.pointer (some t)] 75)).alloc (.cells #[.pointer (some ⟨8, 75, none⟩), .pointer (some ⟨w.heap.size, 0, none⟩), .int .u64 150] 101)).alloc (.cells #[.pointer (some ⟨8, 75, none⟩), .pointer (some ⟨w.heap.size, 0, none⟩), .int .u64 150] 101)).alloc (.cells #[.pointer (some e)] 72)).setCell t (.pointer (some e)) := by
  have h6 := @run_callFunc_extern Tryd.prog 54 _ (fun args => ReflectliteValue.unpack (args.getD 0 (.tuple #[]))) Tryd.func54 (by kernel_rfl) (by kernel_rfl) (by kernel_rfl) (by kernel_rfl)
  have h7 := @run_callFunc_extern Tryd.prog 55 _ (ReflectliteValue.methodAny (ReflectliteValue.valueError "reflectlite.Value.Type" 0) (fun t _ _ _ => ReflectliteType.toType t)) Tryd.func55 (by kernel_rfl) (by kernel_rfl) (by kernel_rfl) (by kernel_rfl)
  have h8 := @run_callFunc_extern Tryd.prog 56 _ (ReflectliteValue.method (ReflectliteValue.valueError "reflectlite.Value.IsNil" 0) ReflectliteValue.isNil) Tryd.func56 (by kernel_rfl) (by kernel_rfl) (by kernel_rfl) (by kernel_rfl)
  have h27 := @run_callFunc_extern Tryd.prog 111 _ (ReflectliteType.abiMethod fun t => do pure (.int .u8 (← Rtype.kind t))) Tryd.func111 (by kernel_rfl) (by kernel_rfl) (by kernel_rfl) (by kernel_rfl)
  have h37 := @run_callFunc_extern Tryd.prog 123 _ (ReflectliteType.method ReflectliteType.elem) Tryd.func123 (by kernel_rfl) (by kernel_rfl) (by kernel_rfl) (by kernel_rfl)
  have h38 := @run_callFunc_extern Tryd.prog 124 _ (ReflectliteType.relation "Implements" ReflectliteType.implements_) Tryd.func124 (by kernel_rfl) (by kernel_rfl) (by kernel_rfl) (by kernel_rfl)
  have h10 := @run_callFunc_extern Tryd.prog 67 _ ReflectliteType.typeOf Tryd.func67 (by kernel_rfl) (by kernel_rfl) (by kernel_rfl) (by kernel_rfl)
  have h35 := @run_callFunc_extern Tryd.prog 121 _ (ReflectliteType.relation "AssignableTo" ReflectliteType.assignableTo) Tryd.func121 (by kernel_rfl) (by kernel_rfl) (by kernel_rfl) (by kernel_rfl)
  have h11 := @run_callFunc_extern Tryd.prog 68 _ (ReflectliteValue.method (ReflectliteValue.valueError "reflectlite.Value.Elem" 0) ReflectliteValue.elem) Tryd.func68 (by kernel_rfl) (by kernel_rfl) (by kernel_rfl) (by kernel_rfl)
  have h12 := @run_callFunc_extern Tryd.prog 69 _ ReflectliteValue.set Tryd.func69 (by kernel_rfl) (by kernel_rfl) (by kernel_rfl) (by kernel_rfl)
  have tO := typeOf72
  have mA := methodAssignableTo
  have a25 := assignable72
  have v25 := valueOf72
  have f6 := valueOf75
  have f7 := type75
  have mK := methodKind
  have mE := methodElem
  have mI := methodImplements
  have k27 := kindOf75
  have k25 := kindOf72
  have e27 := elemOf75
  have i25 := implements72
  have n8 := isNil75 ⟨w.heap.size, 0, none⟩ t ((w.alloc (.cells #[.pointer (some t)] 75)).alloc (.cells #[.pointer (some ⟨8, 75, none⟩), .pointer (some ⟨w.heap.size, 0, none⟩), .int .u64 150] 101)) (by simp)
  have hlt : 0 < w.heap.size := by
    rcases Nat.eq_zero_or_pos w.heap.size with h0 | h
    · simp [World.cell?, h0] at hg
    · exact h
  have hg2 : ((w.alloc (.cells #[.pointer (some t)] 75)).alloc (.cells #[.pointer (some ⟨8, 75, none⟩), .pointer (some ⟨w.heap.size, 0, none⟩), .int .u64 150] 101)).cell? ⟨0, 0, none⟩ = some (.iface 119 (.agg #[.pointer (some ⟨8, 69, none⟩)])) := by
    rw [World.cell?_alloc_lt _ _ ⟨0, 0, none⟩ (by simp), World.cell?_alloc_lt _ _ ⟨0, 0, none⟩ hlt]; exact hg
  have htl : t.block < w.heap.size := by
    rcases Nat.lt_or_ge t.block w.heap.size with h | h
    · exact h
    · simp [World.cell?, Array.getElem?_eq_none h] at ht0
  have el := elemV75 ⟨w.heap.size, 0, none⟩ t (((w.alloc (.cells #[.pointer (some t)] 75)).alloc (.cells #[.pointer (some ⟨8, 75, none⟩), .pointer (some ⟨w.heap.size, 0, none⟩), .int .u64 150] 101)).alloc (.cells #[.pointer (some ⟨8, 75, none⟩), .pointer (some ⟨w.heap.size, 0, none⟩), .int .u64 150] 101)) (by rw [World.cell?_alloc_lt _ _ ⟨w.heap.size, 0, none⟩ (by simp; omega)]; simp)
  have st := set72 t ⟨w.heap.size + 1 + 1 + 1, 0, none⟩ e old ((((w.alloc (.cells #[.pointer (some t)] 75)).alloc (.cells #[.pointer (some ⟨8, 75, none⟩), .pointer (some ⟨w.heap.size, 0, none⟩), .int .u64 150] 101)).alloc (.cells #[.pointer (some ⟨8, 75, none⟩), .pointer (some ⟨w.heap.size, 0, none⟩), .int .u64 150] 101)).alloc (.cells #[.pointer (some e)] 72))
    (by rw [World.cell?_alloc_at _ _ _ _ (by simp)]; rfl)
    (by rw [World.cell?_alloc_lt _ _ t (by simp; omega), World.cell?_alloc_lt _ _ t (by simp; omega), World.cell?_alloc_lt _ _ t (by simp; omega), World.cell?_alloc_lt _ _ t htl]; exact ht0)
    (by rw [World.frozen?_alloc_old _ _ t (by simp; omega), World.frozen?_alloc_old _ _ t (by simp; omega), World.frozen?_alloc_old _ _ t (by simp; omega), World.frozen?_alloc_old _ _ t (Nat.ne_of_lt htl)]; exact hf0)
  go_enter Tryd.func40, Tryd.ntmps40
  go_wp2
  refine wp_loop_rounds 1 ?_
  rw [rounds_succ]
  go_wp2
  go_ret
  exact ⟨rfl, rfl⟩
set_option maxRecDepth 100000 in
set_option maxHeartbeats 4000000 in
theorem as_fault (e t : Addr) (line n : Int) (old : Value) (w : World) (hg : w.cell? ⟨0, 0, none⟩ = some (.iface 119 (.agg #[.pointer (some ⟨8, 69, none⟩)]))) (ht0 : w.cell? t = some old) (hf0 : w.frozen? t = false) (heb : e.spot = none) (he1 : w.cell? ⟨e.block, e.off + 1, none⟩ = some (.iface 73 (.int .i64 n))) :
    Calls Tryd.prog 40 #[.iface 72 (.pointer (some e)), .iface 76 (.pointer (some t))] w fun ev w' => ev = .returned (.bool true) ∧ w' = ((((w.alloc (.cells #[.pointer (some t)] 76)).alloc (.cells #[.pointer (some ⟨8, 76, none⟩), .pointer (some ⟨w.heap.size, 0, none⟩), .int .u64 150] 101)).alloc (.cells #[.pointer (some ⟨8, 76, none⟩), .pointer (some ⟨w.heap.size, 0, none⟩), .int .u64 150] 101)).alloc (.cells #[.int .i64 n] 73)).setCell t (.int .i64 n) := by
  have h6 := @run_callFunc_extern Tryd.prog 54 _ (fun args => ReflectliteValue.unpack (args.getD 0 (.tuple #[]))) Tryd.func54 (by kernel_rfl) (by kernel_rfl) (by kernel_rfl) (by kernel_rfl)
  have h7 := @run_callFunc_extern Tryd.prog 55 _ (ReflectliteValue.methodAny (ReflectliteValue.valueError "reflectlite.Value.Type" 0) (fun t _ _ _ => ReflectliteType.toType t)) Tryd.func55 (by kernel_rfl) (by kernel_rfl) (by kernel_rfl) (by kernel_rfl)
  have h8 := @run_callFunc_extern Tryd.prog 56 _ (ReflectliteValue.method (ReflectliteValue.valueError "reflectlite.Value.IsNil" 0) ReflectliteValue.isNil) Tryd.func56 (by kernel_rfl) (by kernel_rfl) (by kernel_rfl) (by kernel_rfl)
  have h27 := @run_callFunc_extern Tryd.prog 111 _ (ReflectliteType.abiMethod fun t => do pure (.int .u8 (← Rtype.kind t))) Tryd.func111 (by kernel_rfl) (by kernel_rfl) (by kernel_rfl) (by kernel_rfl)
  have h37 := @run_callFunc_extern Tryd.prog 123 _ (ReflectliteType.method ReflectliteType.elem) Tryd.func123 (by kernel_rfl) (by kernel_rfl) (by kernel_rfl) (by kernel_rfl)
  have h38 := @run_callFunc_extern Tryd.prog 124 _ (ReflectliteType.relation "Implements" ReflectliteType.implements_) Tryd.func124 (by kernel_rfl) (by kernel_rfl) (by kernel_rfl) (by kernel_rfl)
  have h10 := @run_callFunc_extern Tryd.prog 67 _ ReflectliteType.typeOf Tryd.func67 (by kernel_rfl) (by kernel_rfl) (by kernel_rfl) (by kernel_rfl)
  have h35 := @run_callFunc_extern Tryd.prog 121 _ (ReflectliteType.relation "AssignableTo" ReflectliteType.assignableTo) Tryd.func121 (by kernel_rfl) (by kernel_rfl) (by kernel_rfl) (by kernel_rfl)
  have h11 := @run_callFunc_extern Tryd.prog 68 _ (ReflectliteValue.method (ReflectliteValue.valueError "reflectlite.Value.Elem" 0) ReflectliteValue.elem) Tryd.func68 (by kernel_rfl) (by kernel_rfl) (by kernel_rfl) (by kernel_rfl)
  have h12 := @run_callFunc_extern Tryd.prog 69 _ ReflectliteValue.set Tryd.func69 (by kernel_rfl) (by kernel_rfl) (by kernel_rfl) (by kernel_rfl)
  have tO := typeOf72
  have tO3 := typeOf73
  have mA := methodAssignableTo
  have a25 := assignable7273
  have a26 := assignable73
  have v25 := valueOf73
  have f6 := valueOf76
  have f7 := type76
  have mU := methodUnwrap
  have tA := ta124
  have tB := ta127
  have hU : ∀ (args : Array Value) (w : World), (callFunc 115 args).run Tryd.prog w = .ok (.enter 115 args) w := fun _ _ => by kernel_rfl
  have mK := methodKind
  have mE := methodElem
  have mI := methodImplements
  have k27 := kindOf76
  have k25 := kindOf73
  have e27 := elemOf76
  have i25 := implements73
  have n8 := isNil76 ⟨w.heap.size, 0, none⟩ t ((w.alloc (.cells #[.pointer (some t)] 76)).alloc (.cells #[.pointer (some ⟨8, 76, none⟩), .pointer (some ⟨w.heap.size, 0, none⟩), .int .u64 150] 101)) (by simp)
  have hlt : 0 < w.heap.size := by
    rcases Nat.eq_zero_or_pos w.heap.size with h0 | h
    · simp [World.cell?, h0] at hg
    · exact h
  have hg2 : ((w.alloc (.cells #[.pointer (some t)] 76)).alloc (.cells #[.pointer (some ⟨8, 76, none⟩), .pointer (some ⟨w.heap.size, 0, none⟩), .int .u64 150] 101)).cell? ⟨0, 0, none⟩ = some (.iface 119 (.agg #[.pointer (some ⟨8, 69, none⟩)])) := by
    rw [World.cell?_alloc_lt _ _ ⟨0, 0, none⟩ (by simp), World.cell?_alloc_lt _ _ ⟨0, 0, none⟩ hlt]; exact hg
  have htl : t.block < w.heap.size := by
    rcases Nat.lt_or_ge t.block w.heap.size with h | h
    · exact h
    · simp [World.cell?, Array.getElem?_eq_none h] at ht0
  have el := elemV76 ⟨w.heap.size, 0, none⟩ t (((w.alloc (.cells #[.pointer (some t)] 76)).alloc (.cells #[.pointer (some ⟨8, 76, none⟩), .pointer (some ⟨w.heap.size, 0, none⟩), .int .u64 150] 101)).alloc (.cells #[.pointer (some ⟨8, 76, none⟩), .pointer (some ⟨w.heap.size, 0, none⟩), .int .u64 150] 101)) (by rw [World.cell?_alloc_lt _ _ ⟨w.heap.size, 0, none⟩ (by simp; omega)]; simp)
  have st := set73 t ⟨w.heap.size + 1 + 1 + 1, 0, none⟩ n old ((((w.alloc (.cells #[.pointer (some t)] 76)).alloc (.cells #[.pointer (some ⟨8, 76, none⟩), .pointer (some ⟨w.heap.size, 0, none⟩), .int .u64 150] 101)).alloc (.cells #[.pointer (some ⟨8, 76, none⟩), .pointer (some ⟨w.heap.size, 0, none⟩), .int .u64 150] 101)).alloc (.cells #[.int .i64 n] 73))
    (by rw [World.cell?_alloc_at _ _ _ _ (by simp)]; rfl)
    (by rw [World.cell?_alloc_lt _ _ t (by simp; omega), World.cell?_alloc_lt _ _ t (by simp; omega), World.cell?_alloc_lt _ _ t (by simp; omega), World.cell?_alloc_lt _ _ t htl]; exact ht0)
    (by rw [World.frozen?_alloc_old _ _ t (by simp; omega), World.frozen?_alloc_old _ _ t (by simp; omega), World.frozen?_alloc_old _ _ t (by simp; omega), World.frozen?_alloc_old _ _ t (Nat.ne_of_lt htl)]; exact hf0)
  have hel : e.block < w.heap.size := World.block_lt_of_cell? w ⟨e.block, e.off + 1, none⟩ he1
  have he3 : (((w.alloc (.cells #[.pointer (some t)] 76)).alloc (.cells #[.pointer (some ⟨8, 76, none⟩), .pointer (some ⟨w.heap.size, 0, none⟩), .int .u64 150] 101)).alloc (.cells #[.pointer (some ⟨8, 76, none⟩), .pointer (some ⟨w.heap.size, 0, none⟩), .int .u64 150] 101)).cell? ⟨e.block, e.off + 1, none⟩ = some (.iface 73 (.int .i64 n)) := by
    rw [World.cell?_alloc_lt _ _ ⟨e.block, e.off + 1, none⟩ (by simp; omega), World.cell?_alloc_lt _ _ ⟨e.block, e.off + 1, none⟩ (by simp; omega), World.cell?_alloc_lt _ _ ⟨e.block, e.off + 1, none⟩ hel]; exact he1
  obtain ⟨eb, eo, es⟩ := e
  simp only at heb
  subst heb
  simp only at he1 he3 hel
  have HU := Lib.hid (unwrap eb eo _ _ he3)
  go_enter Tryd.func40, Tryd.ntmps40
  go_wp2
  refine wp_loop_rounds 2 ?_
  rw [rounds_succ]
  go_wp2_with (first | (refine HU.out.mono ?_; rintro e w' ⟨rfl, rfl⟩))
  rw [rounds_succ]
  go_wp2
  go_ret
  exact ⟨rfl, rfl⟩
end Go.Proofs.YtkjdmbbaacjpmaaDoor.As
end
section
namespace Go.Proofs.YtkjdmbbaacjpmaaDoor.Reader
open Go.RowKit Go.Proofs.YtkjdmbbaacjpmaaDoor.Scan Go.Proofs.YtkjdmbbaacjpmaaDoorW.PrintWords Go.Proofs.YtkjdmbbaacjpmaaDoorW.PrintLast Go.Proofs.YtkjdmbbaacjpmaaDoor.R
set_option linter.unusedVariables false
set_option linter.unusedSimpArgs false
theorem read_calls (A : Option Addr) (c : Nat) (xs : List Int) (w : World) (h : At w A c xs) (HT : C.Tab w) :
    Calls Tryd.prog 39 #[.slice A xs.length c] w (readPost w (readP xs)) := by
  unfold readP
  cases hx : headP xs with
  | none => exact read_head A c xs w h HT hx
  | some p =>
    obtain ⟨⟨d, n⟩, r⟩ := p
    exact read_body A c xs r d n _ w h HT hx rfl
def parseP (xs : List Int) : Int × Int × List S50 × Int × Int :=
  match readP xs with
  | .ok ((d, n), l) => (d, n, l, 0, 0)
  | .error (c, k) => (0, 0, [], c, k)
def Ety (w : World) : Prop := w.cell? ⟨0, 0, none⟩ = some (.iface 119 (.agg #[.pointer (some ⟨8, 69, none⟩)]))
theorem Ety.below {w W : World} (h : Ety w) (hb : Below w.heap.size w W) : Ety W := (hb.cell (p := ⟨0, 0, none⟩) (World.block_lt_of_cell? w _ h)).trans h
theorem as_at' (eb tb : Nat) (old : Value) (w : World) (hg : Ety w) (ht : w.heap[tb]? = some (.cells #[old] 72 (0, 0))) :
    Calls Tryd.prog 40 #[.iface 72 (.pointer (some ⟨eb, 0, none⟩)), .iface 75 (.pointer (some ⟨tb, 0, none⟩))] w fun ev w' => ev = .returned (.bool true) ∧ Below (w.setCell ⟨tb, 0, none⟩ (.pointer (some ⟨eb, 0, none⟩))).heap.size (w.setCell ⟨tb, 0, none⟩ (.pointer (some ⟨eb, 0, none⟩))) w' := by
  refine (As.as_at ⟨eb, 0, none⟩ ⟨tb, 0, none⟩ old w hg (blk_cell ht 0) (blk_frozen ht 0)).mono ?_
  rintro ev w' ⟨rfl, rfl⟩
  exact ⟨rfl, below_swap (by repeat (first | exact Below.refl _ _ | apply below_alloc)) _ _⟩
theorem as_fault' (eb tb : Nat) (k n : Int) (old : Value) (w : World) (hg : Ety w) (ht : w.heap[tb]? = some (.cells #[old] 73 (0, 0))) (he : w.heap[eb]? = some (.cells #[.int .i64 k, .iface 73 (.int .i64 n)] 78 (0, 0))) :
    Calls Tryd.prog 40 #[.iface 72 (.pointer (some ⟨eb, 0, none⟩)), .iface 76 (.pointer (some ⟨tb, 0, none⟩))] w fun ev w' => ev = .returned (.bool true) ∧ Below (w.setCell ⟨tb, 0, none⟩ (.int .i64 n)).heap.size (w.setCell ⟨tb, 0, none⟩ (.int .i64 n)) w' := by
  refine (As.as_fault ⟨eb, 0, none⟩ ⟨tb, 0, none⟩ k n old w hg (blk_cell ht 0) (blk_frozen ht 0) rfl (blk_cell he 1)).mono ?_
  rintro ev w' ⟨rfl, rfl⟩
  exact ⟨rfl, below_swap (by repeat (first | exact Below.refl _ _ | apply below_alloc)) _ _⟩
def parsePost (w : World) (p : Int × Int × List S50 × Int × Int) (e : Ending) (w' : World) : Prop :=
  ∃ v, e = .returned (.tuple #[.agg #[.int .i64 p.1, .int .i64 p.2.1, v], .int .i64 p.2.2.2.1, .int .i64 p.2.2.2.2]) ∧ Kd.R k50 50 w' w.heap.size (fun _ => True) v p.2.2.1 ∧ Below w.heap.size w w'
theorem readPost_ok' {w w' : World} {e : Ending} {d n : Int} {l : List S50} (h : readPost w (.ok ((d, n), l)) e w') : ∃ Av cv, e = .returned (.tuple #[.agg #[.int .i64 d, .int .i64 n, .slice Av l.length cv], .nilIface]) ∧ Kd.R k50 50 w' w.heap.size (fun _ => True) (.slice Av l.length cv) l ∧ Below w.heap.size w w' := by
  obtain ⟨v, he, hR, hb⟩ := h
  obtain ⟨Av, cv, rfl⟩ := Kd.R_slice hR
  exact ⟨Av, cv, he, hR, hb⟩
theorem R_fin {W : World} {base rb : Nat} {v : Value} {l : List S50} {cs : Array Value} (h : Kd.R k50 50 W base (fun _ => True) v l) (hb : W.heap[rb]? = some (.cells cs 32 (0, 0))) (a b u : Value) :
    Kd.R k50 50 (((W.setCell ⟨rb, 0, none⟩ a).setCell ⟨rb, 1, none⟩ b).setCell ⟨rb, 2, none⟩ u) base (fun _ => True) v l :=
  Kd.R_set (Kd.R_set (Kd.R_set h hb (by decide) 0 a) (blk_set hb 0 a) (by decide) 1 b) (blk_set (blk_set hb 0 a) 1 b) (by decide) 2 u
set_option maxRecDepth 100000 in
theorem parse_ok (A : Option Addr) (c : Nat) (xs : List Int) (d n : Int) (l : List S50) (w : World) (h : At w A c xs) (HT : C.Tab w) (hx : readP xs = .ok ((d, n), l)) :
    Calls Tryd.prog 24 #[.slice A xs.length c] w (parsePost w (d, n, l, 0, 0)) := by
  have hr := read_calls A c xs
  have HC : Aside0 (∀ W, Below w.heap.size w W → Calls Tryd.prog 39 #[.slice A xs.length c] W (readPost W (.ok ((d, n), l)))) := ⟨fun W hb => hx ▸ hr W (h.frame hb) (C.tab_below HT hb)⟩
  clear hr h hx HT
  generalize xs.length = yn at *
  go_enter Tryd.func24, Tryd.ntmps24
  go_wp2_with (first
    | (refine (HC.out _ ?_).mono ?_; (repeat (first | exact Below.refl _ _ | apply pw_below_drewN | apply below_alloc)); intro e w1 hP; obtain ⟨Av, cv, rfl, hR, hb⟩ := readPost_ok' hP; clear hP; have BK := Aside0.mk (blk_below (blk_new _ _) hb); have HR := Lib.hid (Kd.R_lower hR (show w.heap.size ≤ _ by simp)); clear hR; have HB := Lib.hid (below_step (below_alloc (Below.refl _ _) _) hb); clear hb; have g0_ : w1.cell? ⟨w.heap.size, 0, none⟩ = some (.int .i64 0) := blk_cell BK.out 0; have g1_ : w1.cell? ⟨w.heap.size, 1, none⟩ = some (.int .i64 0) := blk_cell BK.out 1; have g2_ : w1.cell? ⟨w.heap.size, 2, none⟩ = some (.slice none 0 0) := blk_cell BK.out 2; have z0_ := blk_frozen BK.out 0; have z1_ := blk_frozen BK.out 1; have z2_ := blk_frozen BK.out 2; have lt2_ : w.heap.size < w1.heap.size := blk_lt BK.out; have ne2_ : ¬ w.heap.size = w1.heap.size := Nat.ne_of_lt lt2_; have lta_ : w.heap.size < w1.heap.size + 1 := (by omega); have ltb_ : w.heap.size < w1.heap.size + 1 + 1 := (by omega); have nea_ : ¬ w.heap.size = w1.heap.size + 1 := (by omega); have neb_ : ¬ w.heap.size = w1.heap.size + 1 + 1 := (by omega))
    | (go_at_call 40; refine (As.as_nil _ _).mono ?_; rintro e w' ⟨rfl, rfl⟩))
  exact bodyPost_ret (v := .tuple #[.agg #[.int .i64 d, .int .i64 n, .slice Av l.length cv], .int .i64 0, .int .i64 0]) (by simp [results, Tryd.results24, go_sem, g0_, g1_, g2_, lt2_, ne2_, lta_, ltb_, nea_, neb_]) rfl
    ⟨.slice Av l.length cv, rfl, (by (with_reducible repeat (first | apply Kd.R_alloc | apply Kd.R_drewN | apply Kd.R_drew)); exact R_fin HR.out BK.out _ _ _), (by repeat (first | exact HB.out | apply below_alloc | apply pw_below_drewN | refine below_set ?_ (Nat.le_refl _)))⟩
structure PS (w W : World) (t7 t8 eb : Nat) (v7 v8 : Value) (k q : Int) : Prop where
  bel : Below w.heap.size w W
  res : W.heap[w.heap.size]? = some (.cells #[.int .i64 0, .int .i64 0, .slice none 0 0] 32 (0, 0))
  b7 : W.heap[t7]? = some (.cells #[v7] 72 (0, 0))
  b8 : W.heap[t8]? = some (.cells #[v8] 73 (0, 0))
  be : W.heap[eb]? = some (.cells #[.int .i64 k, .iface 73 (.int .i64 q)] 78 (0, 0))
  ety : Ety W
  g7 : w.heap.size < t7
  g8 : w.heap.size < t8
theorem PS.start {w w1 : World} {eb : Nat} {k q : Int} (b : Obj) (hb : Below w.heap.size w w1) (hr : w1.heap[w.heap.size]? = some (.cells #[.int .i64 0, .int .i64 0, .slice none 0 0] 32 (0, 0))) (he : w1.heap[eb]? = some (.cells #[.int .i64 k, .iface 73 (.int .i64 q)] 78 (0, 0))) (hg : Ety w) :
    PS w (((w1.alloc b).alloc (.cells #[.pointer none] 72)).alloc (.cells #[.int .i64 0] 73)) (w1.heap.size + 1) (w1.heap.size + 1 + 1) eb (.pointer none) (.int .i64 0) k q := by
  have hlt := blk_lt hr
  refine ⟨below_alloc (below_alloc (below_alloc hb _) _) _, blk_alloc (blk_alloc (blk_alloc hr _) _) _, blk_alloc (blk_new' _ _ _ (by simp)) _, blk_new' _ _ _ (by simp), blk_alloc (blk_alloc (blk_alloc he _) _) _, hg.below (below_alloc (below_alloc (below_alloc hb _) _) _), by omega, by omega⟩
theorem PS.set7 {w W W2 : World} {t7 t8 eb : Nat} {v7 v8 : Value} {k q : Int} (h : PS w W t7 t8 eb v7 v8 k q) (u : Value) (hb : Below (W.setCell ⟨t7, 0, none⟩ u).heap.size (W.setCell ⟨t7, 0, none⟩ u) W2) : PS w W2 t7 t8 eb u v8 k q := by
  have e0 : Ety (W.setCell ⟨t7, 0, none⟩ u) := by
    have := h.ety
    unfold Ety at this ⊢
    rw [World.cell?_setCell_far _ _ _ _ (show t7 ≠ 0 by have := h.g7; omega)]
    exact this
  exact ⟨below_step (below_set h.bel (Nat.le_of_lt h.g7)) hb, blk_below (blk_far h.res (Nat.ne_of_lt h.g7) _) hb, blk_below (blk_put h.b7 0 _ rfl) hb, blk_below (blk_far h.b8 (blk_ne h.b8 h.b7 (by decide)) _) hb, blk_below (blk_far h.be (blk_ne h.be h.b7 (by decide)) _) hb, e0.below hb, h.g7, h.g8⟩
theorem PS.set8 {w W W2 : World} {t7 t8 eb : Nat} {v7 v8 : Value} {k q : Int} (h : PS w W t7 t8 eb v7 v8 k q) (u : Value) (hb : Below (W.setCell ⟨t8, 0, none⟩ u).heap.size (W.setCell ⟨t8, 0, none⟩ u) W2) : PS w W2 t7 t8 eb v7 u k q := by
  have e0 : Ety (W.setCell ⟨t8, 0, none⟩ u) := by
    have := h.ety
    unfold Ety at this ⊢
    rw [World.cell?_setCell_far _ _ _ _ (show t8 ≠ 0 by have := h.g8; omega)]
    exact this
  exact ⟨below_step (below_set h.bel (Nat.le_of_lt h.g8)) hb, blk_below (blk_far h.res (Nat.ne_of_lt h.g8) _) hb, blk_below (blk_far h.b7 (blk_ne h.b7 h.b8 (by decide)) _) hb, blk_below (blk_put h.b8 0 _ rfl) hb, blk_below (blk_far h.be (blk_ne h.be h.b8 (by decide)) _) hb, e0.below hb, h.g7, h.g8⟩
set_option maxRecDepth 100000 in
theorem parse_err (A : Option Addr) (c : Nat) (xs : List Int) (q k : Int) (w : World) (h : At w A c xs) (HT : C.Tab w) (HG : Ety w) (hx : readP xs = .error (q, k)) :
    Calls Tryd.prog 24 #[.slice A xs.length c] w (parsePost w (0, 0, [], q, k)) := by
  have hr := read_calls A c xs
  have HC : Aside0 (∀ W, Below w.heap.size w W → Calls Tryd.prog 39 #[.slice A xs.length c] W (readPost W (.error (q, k)))) := ⟨fun W hb => hx ▸ hr W (h.frame hb) (C.tab_below HT hb)⟩
  have HE := Lib.hid HG
  clear hr h hx HT HG
  generalize xs.length = yn at *
  go_enter Tryd.func24, Tryd.ntmps24
  go_wp2_with (first
    | (go_at_call 39; (with_reducible refine (HC.out _ ?_).mono ?_); (repeat (first | exact Below.refl _ _ | apply pw_below_drewN | apply below_alloc)); intro e w1 hP; obtain ⟨eb, rfl, he, hge, hb⟩ := hP; have HS := Lib.hid (PS.start (.cells #[.int .i64 0, .int .i64 0, .slice none 0 0] 32) (below_step (below_alloc (Below.refl _ _) _) hb) (blk_below (blk_new _ _) hb) he HE.out); clear he hge hb)
    | (go_at_call 40; (with_reducible refine (as_at' eb (w1.heap.size + 1) _ _ HS.out.ety HS.out.b7).mono ?_); rintro e w2 ⟨rfl, hb⟩; have HS2 := Lib.hid (HS.out.set7 _ hb); clear hb)
    | (go_at_call 40; (with_reducible refine (as_fault' eb (w1.heap.size + 1 + 1) _ _ _ _ HS2.out.ety HS2.out.b8 HS2.out.be).mono ?_); rintro e w3 ⟨rfl, hb⟩; have HS3 := Lib.hid (HS2.out.set8 _ hb); clear hb; have BK := Aside0.mk HS3.out.res; have g0_ : w3.cell? ⟨w.heap.size, 0, none⟩ = some (.int .i64 0) := blk_cell BK.out 0; have g1_ : w3.cell? ⟨w.heap.size, 1, none⟩ = some (.int .i64 0) := blk_cell BK.out 1; have g2_ : w3.cell? ⟨w.heap.size, 2, none⟩ = some (.slice none 0 0) := blk_cell BK.out 2; have z0_ := blk_frozen BK.out 0; have z1_ := blk_frozen BK.out 1; have z2_ := blk_frozen BK.out 2; have lt2_ : w.heap.size < w3.heap.size := blk_lt BK.out; have ne2_ : ¬ w.heap.size = w3.heap.size := Nat.ne_of_lt lt2_; have nea_ := Nat.ne_of_lt HS3.out.g7; have neb_ := Nat.ne_of_lt HS3.out.g8; have nec_ := blk_ne HS3.out.res HS3.out.be (by decide); have nea2_ := Ne.symm nea_; have neb2_ := Ne.symm neb_; have nec2_ := Ne.symm nec_; have t7_ := blk_cell HS3.out.b7 0; have t8_ := blk_cell HS3.out.b8 0; have te_ := blk_cell HS3.out.be 0; simp only [List.getElem?_toArray, List.getElem?_cons_zero] at t7_ t8_ te_))
  go_region
  go_wp2
  exact bodyPost_ret (v := .tuple #[.agg #[.int .i64 0, .int .i64 0, .slice none 0 0], .int .i64 q, .int .i64 k]) (by simp [results, Tryd.results24, go_sem, g0_, g1_, g2_, lt2_, ne2_]) rfl
    ⟨.slice none 0 0, rfl, Kd.R_nil _ _ _ _ _, (by repeat (first | exact HS3.out.bel | apply Below.drew | apply below_alloc | apply pw_below_drewN | refine below_set ?_ (Nat.le_refl _)))⟩
theorem parse_calls (A : Option Addr) (c : Nat) (xs : List Int) (w : World) (h : At w A c xs) (HT : C.Tab w) (HG : Ety w) :
    Calls Tryd.prog 24 #[.slice A xs.length c] w (parsePost w (parseP xs)) := by
  unfold parseP
  cases hx : readP xs with
  | ok p =>
    obtain ⟨⟨d, n⟩, l⟩ := p
    exact parse_ok A c xs d n l w h HT hx
  | error p =>
    obtain ⟨q, k⟩ := p
    exact parse_err A c xs q k w h HT HG hx
end Go.Proofs.YtkjdmbbaacjpmaaDoor.Reader
end
section
namespace Go.Proofs.YtkjdmbbaacjpmaaDoor.Reads
open Go.RowKit Go.Proofs.YtkjdmbbaacjpmaaDoor.R Go.Proofs.YtkjdmbbaacjpmaaDoor.Scan Go.Proofs.YtkjdmbbaacjpmaaDoor.Reader Go.Proofs.YtkjdmbbaacjpmaaDoor.Num Go.Proofs.YtkjdmbbaacjpmaaDoor.DDigits Go.Proofs.YtkjdmbbaacjpmaaDoorW.PrintWords
set_option linter.unusedVariables false
set_option linter.unusedSimpArgs false
def Dg (x : Int) : Prop := 0 ≤ x ∧ x ≤ 9
theorem valid7 {a0 a1 a2 a3 a4 a5 a6 : Int} (h0 : Dg a0) (h1 : Dg a1) (h2 : Dg a2) (h3 : Dg a3) (h4 : Dg a4) (h5 : Dg a5) (h6 : Dg a6) :
    validB (strOfNums [48 + a0, 48 + a1, 48 + a2, 48 + a3, 48 + a4, 48 + a5, 48 + a6]) = ((a0 + dbl a1 + a2 + dbl a3 + a4 + dbl a5 + a6) % 10 == 0) := by
  unfold Dg at *
  have hb : bytesOf (strOfNums [48 + a0, 48 + a1, 48 + a2, 48 + a3, 48 + a4, 48 + a5, 48 + a6]) = [48 + a0, 48 + a1, 48 + a2, 48 + a3, 48 + a4, 48 + a5, 48 + a6] := by
    refine bytesOf_str _ fun x hx => ?_
    simp only [List.mem_cons, List.not_mem_nil, or_false] at hx
    rcases hx with rfl | rfl | rfl | rfl | rfl | rfl | rfl <;> omega
  have hd : digitsB (strOfNums [48 + a0, 48 + a1, 48 + a2, 48 + a3, 48 + a4, 48 + a5, 48 + a6]) = true := by
    unfold digitsB
    rw [hb, List.all_eq_true]
    intro x hx
    simp only [List.mem_cons, List.not_mem_nil, or_false] at hx
    rw [decide_eq_true_eq]
    rcases hx with rfl | rfl | rfl | rfl | rfl | rfl | rfl <;> omega
  have hl : behind [48 + a0, 48 + a1, 48 + a2, 48 + a3, 48 + a4, 48 + a5, 48 + a6] = [a6, a5, a4, a3, a2, a1, a0] := by
    simp only [behind, List.map_cons, List.map_nil, List.reverse_cons, List.reverse_nil, List.nil_append, List.cons_append]
    have e : ∀ x : Int, 48 + x - 48 = x := fun x => by omega
    simp only [e]
  unfold validB
  rw [hd, hb, hl, strOfNums_size]
  simp only [List.length_cons, List.length_nil, Bool.and_true, lsum, Bool.not_false, Bool.not_true, if_true, Bool.false_eq_true, if_false]
  rw [decide_eq_true (by omega), Bool.true_and]
  rw [show a6 + (dbl a5 + (a4 + (dbl a3 + (a2 + (dbl a1 + (a0 + 0)))))) = a0 + dbl a1 + a2 + dbl a3 + a4 + dbl a5 + a6 by omega]
theorem seven_of {l : List Int} (h : l.length = 7) : ∃ a b c d e f g, l = [a, b, c, d, e, f, g] := by
  match l, h with
  | [a, b, c, d, e, f, g], _ => exact ⟨a, b, c, d, e, f, g, rfl⟩
theorem valid_check {t : List Int} (hl : 12 ≤ t.length) (hd : ((t.drop 5).take 7).all isDig = true) :
    validB (strOfNums ((t.drop 5).take 7)) = (fieldP t 11 1 == digitOf (fieldP t 5 6)) := by
  have h7 : ((t.drop 5).take 7).length = 7 := by rw [List.length_take, List.length_drop]; omega
  have e6 : (t.drop 5).take 6 = ((t.drop 5).take 7).take 6 := by rw [List.take_take]; rfl
  have e1 : (t.drop 11).take 1 = ((t.drop 5).take 7).drop 6 := by rw [List.drop_take, List.drop_drop]
  unfold fieldP
  rw [e6, e1]
  obtain ⟨c0, c1, c2, c3, c4, c5, c6, hc⟩ := seven_of h7
  rw [hc] at hd ⊢
  clear hc e6 e1 h7 hl
  simp only [List.all_cons, List.all_nil, Bool.and_true, Bool.and_eq_true, isDig, decide_eq_true_eq] at hd
  obtain ⟨d0, d1, d2, d3, d4, d5, d6⟩ := hd
  obtain ⟨a0, rfl⟩ : ∃ a : Nat, c0 = 48 + (a : Int) := ⟨(c0 - 48).toNat, by omega⟩
  obtain ⟨a1, rfl⟩ : ∃ a : Nat, c1 = 48 + (a : Int) := ⟨(c1 - 48).toNat, by omega⟩
  obtain ⟨a2, rfl⟩ : ∃ a : Nat, c2 = 48 + (a : Int) := ⟨(c2 - 48).toNat, by omega⟩
  obtain ⟨a3, rfl⟩ : ∃ a : Nat, c3 = 48 + (a : Int) := ⟨(c3 - 48).toNat, by omega⟩
  obtain ⟨a4, rfl⟩ : ∃ a : Nat, c4 = 48 + (a : Int) := ⟨(c4 - 48).toNat, by omega⟩
  obtain ⟨a5, rfl⟩ : ∃ a : Nat, c5 = 48 + (a : Int) := ⟨(c5 - 48).toNat, by omega⟩
  obtain ⟨a6, rfl⟩ : ∃ a : Nat, c6 = 48 + (a : Int) := ⟨(c6 - 48).toNat, by omega⟩
  rw [valid7 ⟨by omega, by omega⟩ ⟨by omega, by omega⟩ ⟨by omega, by omega⟩ ⟨by omega, by omega⟩ ⟨by omega, by omega⟩ ⟨by omega, by omega⟩ ⟨by omega, by omega⟩]
  simp only [List.take_succ_cons, List.take_zero, List.drop_succ_cons, List.drop_zero, valFrom]
  obtain ⟨n, hn⟩ : ∃ n : Nat, n = 100000 * a0 + 10000 * a1 + 1000 * a2 + 100 * a3 + 10 * a4 + a5 := ⟨_, rfl⟩
  have hv : (10 * (10 * (10 * (10 * (10 * (10 * 0 + (48 + (a0 : Int) - 48)) + (48 + (a1 : Int) - 48)) + (48 + (a2 : Int) - 48)) + (48 + (a3 : Int) - 48)) + (48 + (a4 : Int) - 48)) + (48 + (a5 : Int) - 48)) = (n : Int) := by omega
  rw [hv]
  have hr : rdig 6 n = [(a5 : Int), a4, a3, a2, a1, a0] := by
    simp only [rdig]
    have x0 : n % 10 = a5 := by omega
    have x1 : n / 10 % 10 = a4 := by omega
    have x2 : n / 10 / 10 % 10 = a3 := by omega
    have x3 : n / 10 / 10 / 10 % 10 = a2 := by omega
    have x4 : n / 10 / 10 / 10 / 10 % 10 = a1 := by omega
    have x5 : n / 10 / 10 / 10 / 10 / 10 % 10 = a0 := by omega
    rw [x0, x1, x2, x3, x4, x5]
  have hok : okN (n : Int) = true := by unfold okN; rw [decide_eq_true_eq]; omega
  have hdg : digitOf (n : Int) = chk n := by unfold digitOf; rw [if_pos hok]
  rw [hdg]
  unfold chk
  rw [Int.toNat_natCast, hr]
  simp only [lsum, Bool.not_true, Bool.not_false, if_true, Bool.false_eq_true, if_false]
  have b1 := dbl_range (d := (a1 : Int)) (by omega) (by omega)
  have b3 := dbl_range (d := (a3 : Int)) (by omega) (by omega)
  have b5 := dbl_range (d := (a5 : Int)) (by omega) (by omega)
  generalize dbl (a1 : Int) = q1 at *
  generalize dbl (a3 : Int) = q3 at *
  generalize dbl (a5 : Int) = q5 at *
  clear hv hr hok hdg hn
  rw [Bool.eq_iff_iff, beq_iff_eq, beq_iff_eq]
  omega
end Go.Proofs.YtkjdmbbaacjpmaaDoor.Reads
end
section
namespace Go.Proofs.YtkjdmbbaacjpmaaDoor.FmtR
open Go.RowKit Go.Proofs.YtkjdmbbaacjpmaaDoor.R Go.Proofs.YtkjdmbbaacjpmaaDoor.Scan Go.Proofs.YtkjdmbbaacjpmaaDoor.Reader Go.Proofs.YtkjdmbbaacjpmaaDoor.Reads Go.Proofs.YtkjdmbbaacjpmaaDoor.Num Go.Proofs.YtkjdmbbaacjpmaaDoor.Cal Go.Proofs.YtkjdmbbaacjpmaaDoorW.PrintWords
set_option linter.unusedVariables false
set_option linter.unusedSimpArgs false
theorem dec_dig : ∀ (k : Nat) (x : Int), (dec k x).all isDig = true
  | 0, _ => rfl
  | k + 1, x => by
    rw [dec, List.all_append, dec_dig k]
    simp [isDig]; omega
theorem val_dec : ∀ (k : Nat) (x : Int), 0 ≤ x → x < 10 ^ k → valFrom 0 (dec k x) = x
  | 0, x, h0, h => by simp at h; simp [dec, valFrom]; omega
  | k + 1, x, h0, h => by
    rw [Int.pow_succ] at h
    rw [dec, valFrom_append, val_dec k (x / 10) (by omega) (by omega)]
    omega
theorem dec_val : ∀ (k : Nat) (ds : List Int), ds.length = k → ds.all isDig = true → dec k (valFrom 0 ds) = ds
  | 0, ds, h, _ => by rw [List.eq_nil_of_length_eq_zero h]; rfl
  | k + 1, ds, h, hd => by
    have hne : ds ≠ [] := by intro h2; rw [h2] at h; simp at h
    obtain ⟨l, c, rfl⟩ : ∃ l c, ds = l ++ [c] := ⟨ds.dropLast, ds.getLast hne, (List.dropLast_concat_getLast hne).symm⟩
    rw [List.all_append, Bool.and_eq_true] at hd
    have hc : 48 ≤ c ∧ c ≤ 57 := by have := hd.2; simpa [isDig] using this
    have hl : l.length = k := by simpa using h
    have hv := valFrom_range l 0 (by omega) hd.1
    have e := dec_val k l hl hd.1
    rw [valFrom_append, dec, show (10 * valFrom 0 l + (c - 48)) / 10 = valFrom 0 l by omega, e, show 48 + (10 * valFrom 0 l + (c - 48)) % 10 = c by omega]
theorem dig_ne {l : List Int} (h : l.all isDig = true) : ∀ c ∈ l, c ≠ 10 := by
  intro c hc
  rw [List.all_eq_true] at h
  have := h c hc
  simp [isDig] at this; omega
theorem eol_app : ∀ (t r : List Int), (∀ c ∈ t, c ≠ 10) → eol (t ++ 10 :: r) = t.length
  | [], r, _ => by simp [eol]
  | x :: t, r, h => by
    have hx : x ≠ 10 := h x (by simp)
    rw [List.cons_append, eol, if_neg hx, eol_app t r (fun c hc => h c (by simp [hc])), List.length_cons]
theorem eol_split : ∀ (xs : List Int), eol xs < xs.length → xs = xs.take (eol xs) ++ 10 :: xs.drop (eol xs + 1)
  | [], h => by simp at h
  | x :: t, h => by
    by_cases hx : x = 10
    · have e : eol (x :: t) = 0 := by simp [eol, hx]
      rw [e]; simp [hx]
    · have e : eol (x :: t) = eol t + 1 := by simp [eol, hx]
      rw [e] at h ⊢
      have := eol_split t (by simpa using h)
      rw [List.take_succ_cons, List.cons_append, List.drop_succ_cons]
      rw [← this]
theorem nextP_app {t r : List Int} {letter : Int} {n : Nat} (hl : lineOk t letter n = true) (h : ∀ c ∈ t, c ≠ 10) : nextP (t ++ 10 :: r) letter n = some (t, r) := by
  have he := eol_app t r h
  unfold nextP
  have ht : (t ++ 10 :: r).take t.length = t := List.take_left
  have hd : (t ++ 10 :: r).drop (t.length + 1) = r := by
    rw [← List.drop_drop, List.drop_left]; rfl
  rw [he, ht, hd, if_pos ⟨by simp, hl⟩]
theorem cut3 (t p q r : List Int) (a n : Nat) (ht : t = p ++ q ++ r) (h1 : p.length = a) (h2 : q.length = n) : (t.drop a).take n = q := by
  subst h1 h2 ht
  rw [List.append_assoc, List.drop_left, List.take_left]
theorem take_more (t : List Int) (a n : Nat) : t.drop a = (t.drop a).take n ++ t.drop (a + n) := by
  rw [← List.drop_drop, List.take_append_drop]
def itm (i : Nat) (x : S50) : List Int := [68] ++ dec 4 ((i + 1 : Nat) : Int) ++ dec 6 x.f0 ++ dec 1 (DDigits.digitOf x.f0) ++ dec 12 x.f1
def trm (l : List S50) : List Int := [84] ++ dec 4 (l.length : Int) ++ dec 16 (tot l 0 0).1 ++ dec 10 (tot l 0 0).2
def hdm (d n : Int) : List Int := [72] ++ dec 4 (CivilPure.civ d).1 ++ dec 2 (CivilPure.civ d).2.1 ++ dec 2 (CivilPure.civ d).2.2 ++ dec 6 n
theorem line_ok (letter : Int) (s : List Int) (n : Nat) (hn : s.length = n) (hd : s.all isDig = true) : lineOk (letter :: s) letter n = true := by
  simp [lineOk, hn]
  simpa [List.all_eq_true] using hd
theorem line_ne (letter : Int) (hl : letter ≠ 10) (s : List Int) (hd : s.all isDig = true) : ∀ c ∈ letter :: s, c ≠ 10 := by
  intro c hc
  rcases List.mem_cons.1 hc with rfl | hc
  · exact hl
  · exact dig_ne hd c hc
theorem tot_totF : ∀ (l : List S50) (s h : Int), l.all goodB = true → 0 ≤ s → s + 999999999999 * l.length ≤ 9999999999990000 → 0 ≤ h → h < 10000000000 → totF (s, h) l = tot l s h
  | [], s, h, _, _, _, _, _ => rfl
  | x :: t, s, h, hg, h0, h1, h2, h3 => by
    rw [List.all_cons, Bool.and_eq_true] at hg
    have hx : 1 ≤ x.f0 ∧ x.f0 ≤ 999999 ∧ 1 ≤ x.f1 ∧ x.f1 ≤ 999999999999 := of_decide_eq_true hg.1
    simp only [List.length_cons] at h1
    have e1 : wrap64 (s + x.f1) = s + x.f1 := Reads.wrI (by omega) (by omega)
    have e2 : wrap64 (h + x.f0) = h + x.f0 := Reads.wrI (by omega) (by omega)
    have e3 : Int.tmod (h + x.f0) 10000000000 = (h + x.f0) % 10000000000 := Int.tmod_eq_emod_of_nonneg (by omega)
    have ih := tot_totF t (s + x.f1) ((h + x.f0) % 10000000000) hg.2 (by omega) (by omega) (by omega) (by omega)
    simp only [totF, tot]
    rw [e1, e2, e3, ih]
theorem totP_tot (l : List S50) (hg : l.all goodB = true) (hl : l.length ≤ 9999) : totP l = tot l 0 0 := tot_totF l 0 0 hg (by omega) (by omega) (by omega) (by omega)
theorem trl_read (l : List S50) (hg : l.all goodB = true) (hl : l.length ≤ 9999) : trlP (trl l) l = .ok [] := by
  have hr := tot_range l 0 0 hg (by omega) (by omega) (by omega)
  have hs : trl l = trm l ++ 10 :: [] := rfl
  have ed : (dec 4 (l.length : Int) ++ dec 16 (tot l 0 0).1 ++ dec 10 (tot l 0 0).2).all isDig = true := by simp only [List.all_append, dec_dig, Bool.and_self]
  have en : (dec 4 (l.length : Int) ++ dec 16 (tot l 0 0).1 ++ dec 10 (tot l 0 0).2).length = 30 := by simp [dec_length]
  have ec : trm l = 84 :: (dec 4 (l.length : Int) ++ dec 16 (tot l 0 0).1 ++ dec 10 (tot l 0 0).2) := rfl
  have hk : lineOk (trm l) 84 30 = true := by rw [ec]; exact line_ok 84 _ 30 en ed
  have hn : ∀ c ∈ trm l, c ≠ 10 := by rw [ec]; exact line_ne 84 (by decide) _ ed
  unfold trlP
  rw [hs, nextP_app hk hn]
  have f1 : fieldP (trm l) 1 4 = l.length := by
    unfold fieldP
    rw [cut3 (trm l) [84] (dec 4 (l.length : Int)) (dec 16 (tot l 0 0).1 ++ dec 10 (tot l 0 0).2) 1 4 (by simp [trm]) rfl (dec_length _ _)]
    exact val_dec 4 _ (by omega) (by have : (10 : Int) ^ 4 = 10000 := by decide
                                     omega)
  have f2 : fieldP (trm l) 5 16 = (tot l 0 0).1 := by
    unfold fieldP
    rw [cut3 (trm l) ([84] ++ dec 4 (l.length : Int)) (dec 16 (tot l 0 0).1) (dec 10 (tot l 0 0).2) 5 16 (by simp [trm]) (by simp [dec_length]) (dec_length _ _)]
    exact val_dec 16 _ (by omega) (by have : (10 : Int) ^ 16 = 10000000000000000 := by decide
                                      omega)
  have f3 : fieldP (trm l) 21 10 = (tot l 0 0).2 := by
    unfold fieldP
    rw [cut3 (trm l) ([84] ++ dec 4 (l.length : Int) ++ dec 16 (tot l 0 0).1) (dec 10 (tot l 0 0).2) [] 21 10 (by simp [trm]) (by simp [dec_length]) (dec_length _ _)]
    exact val_dec 10 _ (by omega) (by have : (10 : Int) ^ 10 = 10000000000 := by decide
                                      omega)
  simp only
  rw [totP_tot l hg hl, if_pos ⟨f1, f2.symm, f3.symm⟩]
theorem itl_read (i : Nat) (x : S50) (r : List Int) (hx : goodB x = true) (hi : i < 9999) : detP (itl i x ++ r) ((i + 1 : Nat) : Int) = .ok (x, r) := by
  have hg : 1 ≤ x.f0 ∧ x.f0 ≤ 999999 ∧ 1 ≤ x.f1 ∧ x.f1 ≤ 999999999999 := of_decide_eq_true hx
  have hc := digit_range x.f0
  have hs : itl i x ++ r = itm i x ++ 10 :: r := by unfold itl itm; simp
  have ed : (dec 4 ((i + 1 : Nat) : Int) ++ dec 6 x.f0 ++ dec 1 (DDigits.digitOf x.f0) ++ dec 12 x.f1).all isDig = true := by simp only [List.all_append, dec_dig, Bool.and_self]
  have en : (dec 4 ((i + 1 : Nat) : Int) ++ dec 6 x.f0 ++ dec 1 (DDigits.digitOf x.f0) ++ dec 12 x.f1).length = 23 := by simp [dec_length]
  have ec : itm i x = 68 :: (dec 4 ((i + 1 : Nat) : Int) ++ dec 6 x.f0 ++ dec 1 (DDigits.digitOf x.f0) ++ dec 12 x.f1) := rfl
  have hk : lineOk (itm i x) 68 23 = true := by rw [ec]; exact line_ok 68 _ 23 en ed
  have hn : ∀ c ∈ itm i x, c ≠ 10 := by rw [ec]; exact line_ne 68 (by decide) _ ed
  have f1 : fieldP (itm i x) 1 4 = ((i + 1 : Nat) : Int) := by
    unfold fieldP
    rw [cut3 (itm i x) [68] (dec 4 ((i + 1 : Nat) : Int)) (dec 6 x.f0 ++ dec 1 (DDigits.digitOf x.f0) ++ dec 12 x.f1) 1 4 (by simp [itm]) rfl (dec_length _ _)]
    exact val_dec 4 _ (by omega) (by have : (10 : Int) ^ 4 = 10000 := by decide
                                     omega)
  have f2 : fieldP (itm i x) 5 6 = x.f0 := by
    unfold fieldP
    rw [cut3 (itm i x) ([68] ++ dec 4 ((i + 1 : Nat) : Int)) (dec 6 x.f0) (dec 1 (DDigits.digitOf x.f0) ++ dec 12 x.f1) 5 6 (by simp [itm]) (by simp [dec_length]) (dec_length _ _)]
    exact val_dec 6 _ (by omega) (by have : (10 : Int) ^ 6 = 1000000 := by decide
                                     omega)
  have f3 : fieldP (itm i x) 11 1 = DDigits.digitOf x.f0 := by
    unfold fieldP
    rw [cut3 (itm i x) ([68] ++ dec 4 ((i + 1 : Nat) : Int) ++ dec 6 x.f0) (dec 1 (DDigits.digitOf x.f0)) (dec 12 x.f1) 11 1 (by simp [itm]) (by simp [dec_length]) (dec_length _ _)]
    exact val_dec 1 _ (by omega) (by have : (10 : Int) ^ 1 = 10 := by decide
                                     omega)
  have f4 : fieldP (itm i x) 12 12 = x.f1 := by
    unfold fieldP
    rw [cut3 (itm i x) ([68] ++ dec 4 ((i + 1 : Nat) : Int) ++ dec 6 x.f0 ++ dec 1 (DDigits.digitOf x.f0)) (dec 12 x.f1) [] 12 12 (by simp [itm]) (by simp [dec_length]) (dec_length _ _)]
    exact val_dec 12 _ (by omega) (by have : (10 : Int) ^ 12 = 1000000000000 := by decide
                                      omega)
  have htl : (itm i x).length = 24 := by simp [itm, dec_length]
  have hv := valid_check (t := itm i x) (by omega) ((lineOk_dig hk).2 5 7 (by omega))
  rw [f2, f3, beq_self_eq_true] at hv
  unfold detP
  rw [hs, nextP_app hk hn]
  simp only
  rw [f1, f2, f4, hv, if_neg (by omega), if_neg (by simp), if_neg (fun h => h rfl)]
theorem items_read (L : List S50) (hL : L.length ≤ 9999) (hL1 : 1 ≤ L.length) (hg : L.all goodB = true) : ∀ (l : List S50) (f : Nat) (acc : List S50), acc ++ l = L → l.length < f →
    loopP f (itls acc.length l ++ trl L) ((acc.length + 1 : Nat) : Int) acc = .ok L := by
  intro l
  induction l with
  | nil =>
    intro f acc hacc hf
    obtain ⟨f, rfl⟩ : ∃ m, f = m + 1 := ⟨f - 1, by omega⟩
    have e : acc = L := by simpa using hacc
    subst e
    have hb : brk (itls acc.length [] ++ trl acc) ((acc.length + 1 : Nat) : Int) = true := by
      have h1 : decide (1 < ((acc.length + 1 : Nat) : Int)) = true := decide_eq_true (by omega)
      unfold brk
      rw [h1]
      simp [itls, trl]
    rw [loopP, if_pos hb]
    unfold endP
    have : itls acc.length [] ++ trl acc = trl acc := rfl
    rw [this, trl_read acc hg hL]
    simp
  | cons x t ih =>
    intro f acc hacc hf
    obtain ⟨f, rfl⟩ : ∃ m, f = m + 1 := ⟨f - 1, by simp at hf; omega⟩
    have hlen : acc.length + (t.length + 1) = L.length := by rw [← hacc]; simp
    have hgx : goodB x = true := by
      rw [← hacc] at hg
      simp only [List.all_append, List.all_cons, Bool.and_eq_true] at hg
      exact hg.2.1
    have hb : brk (itls acc.length (x :: t) ++ trl L) ((acc.length + 1 : Nat) : Int) = false := by
      have h9 : decide (9999 < ((acc.length + 1 : Nat) : Int)) = false := decide_eq_false (by omega)
      unfold brk
      rw [h9]
      simp [itls, itl]
    have hsp : itls acc.length (x :: t) ++ trl L = itl acc.length x ++ (itls (acc.length + 1) t ++ trl L) := by rw [itls, List.append_assoc]
    rw [loopP, hb, if_neg (by simp), hsp, itl_read acc.length x _ hgx (by omega)]
    simp only
    have e := ih f (acc ++ [x]) (by rw [List.append_assoc]; exact hacc) (by simp at hf; omega)
    rw [List.length_append, List.length_singleton] at e
    have ek : (((acc.length + 1 : Nat) : Int) + 1) = ((acc.length + 1 + 1 : Nat) : Int) := by omega
    rw [ek]
    exact e
theorem head_read (d n : Int) (r : List Int) (hd : 1 ≤ d ∧ d ≤ 3652059) (hn : 1 ≤ n ∧ n ≤ 999999) : headP (hdl d n ++ r) = some ((d, n), r) := by
  have hI := CivilPure.civ_date hd
  have hy1 := hI.y1
  have hy2 := hI.y2
  have hm1 := hI.m1
  have hm2 := hI.m2
  have hd1 := hI.d1
  have hd2 := hI.d2
  have hnum := hI.num
  have hml := mlen_range (CivilPure.civ d).1 (CivilPure.civ d).2.1
  have hs : hdl d n ++ r = hdm d n ++ 10 :: r := by unfold hdl hdm; simp
  have ed : (dec 4 (CivilPure.civ d).1 ++ dec 2 (CivilPure.civ d).2.1 ++ dec 2 (CivilPure.civ d).2.2 ++ dec 6 n).all isDig = true := by simp only [List.all_append, dec_dig, Bool.and_self]
  have en : (dec 4 (CivilPure.civ d).1 ++ dec 2 (CivilPure.civ d).2.1 ++ dec 2 (CivilPure.civ d).2.2 ++ dec 6 n).length = 14 := by simp [dec_length]
  have ec : hdm d n = 72 :: (dec 4 (CivilPure.civ d).1 ++ dec 2 (CivilPure.civ d).2.1 ++ dec 2 (CivilPure.civ d).2.2 ++ dec 6 n) := rfl
  have hk : lineOk (hdm d n) 72 14 = true := by rw [ec]; exact line_ok 72 _ 14 en ed
  have hne : ∀ c ∈ hdm d n, c ≠ 10 := by rw [ec]; exact line_ne 72 (by decide) _ ed
  have p4 : (10 : Int) ^ 4 = 10000 := by decide
  have p2 : (10 : Int) ^ 2 = 100 := by decide
  have p6 : (10 : Int) ^ 6 = 1000000 := by decide
  have f1 : fieldP (hdm d n) 1 4 = (CivilPure.civ d).1 := by
    unfold fieldP
    rw [cut3 (hdm d n) [72] (dec 4 (CivilPure.civ d).1) (dec 2 (CivilPure.civ d).2.1 ++ dec 2 (CivilPure.civ d).2.2 ++ dec 6 n) 1 4 (by simp [hdm]) rfl (dec_length _ _)]
    exact val_dec 4 _ (by omega) (by omega)
  have f2 : fieldP (hdm d n) 5 2 = (CivilPure.civ d).2.1 := by
    unfold fieldP
    rw [cut3 (hdm d n) ([72] ++ dec 4 (CivilPure.civ d).1) (dec 2 (CivilPure.civ d).2.1) (dec 2 (CivilPure.civ d).2.2 ++ dec 6 n) 5 2 (by simp [hdm]) (by simp [dec_length]) (dec_length _ _)]
    exact val_dec 2 _ (by omega) (by omega)
  have f3 : fieldP (hdm d n) 7 2 = (CivilPure.civ d).2.2 := by
    unfold fieldP
    rw [cut3 (hdm d n) ([72] ++ dec 4 (CivilPure.civ d).1 ++ dec 2 (CivilPure.civ d).2.1) (dec 2 (CivilPure.civ d).2.2) (dec 6 n) 7 2 (by simp [hdm]) (by simp [dec_length]) (dec_length _ _)]
    exact val_dec 2 _ (by omega) (by omega)
  have f4 : fieldP (hdm d n) 9 6 = n := by
    unfold fieldP
    rw [cut3 (hdm d n) ([72] ++ dec 4 (CivilPure.civ d).1 ++ dec 2 (CivilPure.civ d).2.1 ++ dec 2 (CivilPure.civ d).2.2) (dec 6 n) [] 9 6 (by simp [hdm]) (by simp [dec_length]) (dec_length _ _)]
    exact val_dec 6 _ (by omega) (by omega)
  have hh : headD (hdm d n) = (d, true) := by
    unfold headD
    rw [f1, f2, f3]
    unfold numberR
    rw [monthLen_in hy1 hy2 hm1 hm2, if_pos ⟨hd1, hd2⟩, numberOf_eq hy1 hy2 hm1 hm2, hnum]
  unfold headP
  rw [hs, nextP_app hk hne]
  simp only [Option.bind_some]
  rw [hh, f4, if_pos ⟨rfl, by omega⟩]
theorem parse_fmt (d n : Int) (l : List S50) (h : hasB d n l = true) : parseP (fmt d n l) = (d, n, l, 0, 0) := by
  have hh := h
  unfold hasB at h
  rw [Bool.and_eq_true, decide_eq_true_eq] at h
  obtain ⟨⟨d1, d2, n1, n2, l1, l2⟩, hg⟩ := h
  have hi := items_read l l2 l1 hg l 10001 [] rfl (by omega)
  unfold parseP readP fmt
  rw [hh, if_pos rfl, List.append_assoc, head_read d n _ ⟨d1, d2⟩ ⟨n1, n2⟩]
  simp only
  have e : loopP 10001 (itls 0 l ++ trl l) 1 [] = .ok l := hi
  rw [e]
  rfl
end Go.Proofs.YtkjdmbbaacjpmaaDoor.FmtR
end
section
namespace Go.Proofs.YtkjdmbbaacjpmaaDoor.FmtR
open Go.RowKit Go.Proofs.YtkjdmbbaacjpmaaDoor.R Go.Proofs.YtkjdmbbaacjpmaaDoor.Scan Go.Proofs.YtkjdmbbaacjpmaaDoor.Reader Go.Proofs.YtkjdmbbaacjpmaaDoor.Reads Go.Proofs.YtkjdmbbaacjpmaaDoor.Num Go.Proofs.YtkjdmbbaacjpmaaDoor.Cal Go.Proofs.YtkjdmbbaacjpmaaDoorW.PrintWords
set_option linter.unusedVariables false
set_option linter.unusedSimpArgs false
theorem nextP_split {xs t r : List Int} {letter : Int} {n : Nat} (h : nextP xs letter n = some (t, r)) : xs = t ++ 10 :: r ∧ lineOk t letter n = true ∧ ∃ s, t = letter :: s := by
  unfold nextP at h
  split at h
  case isFalse => cases h
  case isTrue hc =>
    simp only [Option.some.injEq, Prod.mk.injEq] at h
    obtain ⟨rfl, rfl⟩ := h
    refine ⟨eol_split xs hc.1, hc.2, ?_⟩
    have h2 := hc.2
    simp only [lineOk, Bool.and_eq_true, decide_eq_true_eq, beq_iff_eq] at h2
    cases hx : xs.take (eol xs) with
    | nil => rw [hx] at h2; simp at h2
    | cons a s => rw [hx] at h2; simp at h2; exact ⟨s, by rw [h2.1.2]⟩
theorem field_dec {t : List Int} {letter : Int} {n : Nat} (h : lineOk t letter n = true) (a k : Nat) (ha : 1 ≤ a) (hk : a + k ≤ n + 1) : (t.drop a).take k = dec k (fieldP t a k) := by
  obtain ⟨hl, hd⟩ := lineOk_dig h
  exact (dec_val k _ (by rw [List.length_take, List.length_drop]; omega) (hd a k ha)).symm
theorem trl_back {xs : List Int} {l : List S50} (h : trlP xs l = .ok []) (hg : l.all goodB = true) (hl : l.length ≤ 9999) : xs = trl l := by
  unfold trlP at h
  cases hn : nextP xs 84 30 with
  | none => rw [hn] at h; cases h
  | some tr =>
    obtain ⟨t, r⟩ := tr
    rw [hn] at h
    simp only at h
    split at h
    · next hc =>
      simp only [Except.ok.injEq] at h
      subst h
      obtain ⟨hx, hk, s, hs⟩ := nextP_split hn
      rw [totP_tot l hg hl] at hc
      have e1 := field_dec hk 1 4 (by omega) (by omega)
      have e2 := field_dec hk 5 16 (by omega) (by omega)
      have e3 := field_dec hk 21 10 (by omega) (by omega)
      rw [hc.1] at e1
      rw [← hc.2.1] at e2
      rw [← hc.2.2] at e3
      have hlen := (lineOk_dig hk).1
      have h0 : t = [84] ++ t.drop 1 := by rw [hs]; rfl
      have h31 : t.drop 31 = [] := List.drop_eq_nil_of_le (by omega)
      have ht : t = trm l := by
        rw [h0, take_more t 1 4, take_more t (1 + 4) 16, take_more t (1 + 4 + 16) 10]
        show [84] ++ ((t.drop 1).take 4 ++ ((t.drop 5).take 16 ++ ((t.drop 21).take 10 ++ t.drop 31))) = _
        rw [e1, e2, e3, h31]
        simp [trm]
      rw [hx, ht]
      rfl
    · cases h
theorem itl_back {xs r : List Int} {i : Nat} {x : S50} (h : detP xs ((i + 1 : Nat) : Int) = .ok (x, r)) : xs = itl i x ++ r ∧ goodB x = true := by
  unfold detP at h
  cases hn : nextP xs 68 23 with
  | none => rw [hn] at h; cases h
  | some tr =>
    obtain ⟨t, r'⟩ := tr
    rw [hn] at h
    simp only at h
    split at h
    · cases h
    · next hz =>
      split at h
      · cases h
      · next hv =>
        split at h
        · cases h
        · next hp =>
          simp only [Except.ok.injEq, Prod.mk.injEq] at h
          obtain ⟨rfl, rfl⟩ := h
          obtain ⟨hx, hk, s, hs⟩ := nextP_split hn
          obtain ⟨hlen, hd⟩ := lineOk_dig hk
          have e1 := field_dec hk 1 4 (by omega) (by omega)
          have e2 := field_dec hk 5 6 (by omega) (by omega)
          have e3 := field_dec hk 11 1 (by omega) (by omega)
          have e4 := field_dec hk 12 12 (by omega) (by omega)
          have hv2 := valid_check (t := t) (by omega) (hd 5 7 (by omega))
          have hv3 : fieldP t 11 1 = DDigits.digitOf (fieldP t 5 6) := by
            rw [hv2] at hv
            simpa using hv
          rw [Classical.not_not.1 hp] at e1
          rw [hv3] at e3
          simp only [not_or] at hz
          have r2 := field_range (hd 5 6 (by omega))
          have r4 := field_range (hd 12 12 (by omega))
          have p6 : (10 : Int) ^ 6 = 1000000 := by decide
          have p12 : (10 : Int) ^ 12 = 1000000000000 := by decide
          rw [p6] at r2
          rw [p12] at r4
          refine ⟨?_, decide_eq_true (show 1 ≤ fieldP t 5 6 ∧ fieldP t 5 6 ≤ 999999 ∧ 1 ≤ fieldP t 12 12 ∧ fieldP t 12 12 ≤ 999999999999 from ⟨by omega, by omega, by omega, by omega⟩)⟩
          have h0 : t = [68] ++ t.drop 1 := by rw [hs]; rfl
          have h24 : t.drop 24 = [] := List.drop_eq_nil_of_le (by omega)
          have ht : t = itm i ⟨fieldP t 5 6, fieldP t 12 12⟩ := by
            have hsplit : t = [68] ++ ((t.drop 1).take 4 ++ ((t.drop 5).take 6 ++ ((t.drop 11).take 1 ++ ((t.drop 12).take 12 ++ t.drop 24)))) := by
              conv => lhs; rw [h0, take_more t 1 4, take_more t (1 + 4) 6, take_more t (1 + 4 + 6) 1, take_more t (1 + 4 + 6 + 1) 12]
            rw [e1, e2, e3, e4, h24] at hsplit
            exact hsplit.trans (by simp [itm])
          rw [hx]
          have e5 : itl i ⟨fieldP t 5 6, fieldP t 12 12⟩ = itm i ⟨fieldP t 5 6, fieldP t 12 12⟩ ++ [10] := rfl
          rw [e5, ← ht]
          simp
theorem loop_back (f : Nat) : ∀ (xs : List Int) (acc L : List S50), acc.all goodB = true → acc.length ≤ 9999 → loopP f xs ((acc.length + 1 : Nat) : Int) acc = .ok L →
    ∃ l, L = acc ++ l ∧ xs = itls acc.length l ++ trl L ∧ L.all goodB = true ∧ 1 ≤ L.length ∧ L.length ≤ 9999 := by
  induction f with
  | zero => intro xs acc L _ _ h; simp [loopP] at h
  | succ f ih =>
    intro xs acc L hg hl h
    rw [loopP] at h
    split at h
    · next hb =>
      unfold endP at h
      split at h
      · cases h
      · next r hr =>
        split at h
        · next hr0 =>
          simp only [Except.ok.injEq] at h
          subst h
          subst hr0
          refine ⟨[], by simp, trl_back hr hg hl, hg, ?_, hl⟩
          unfold brk at hb
          simp only [Bool.or_eq_true, Bool.and_eq_true, decide_eq_true_eq] at hb
          omega
        · cases h
    · next hb =>
      split at h
      · cases h
      · next x r hr =>
        obtain ⟨hx, hgx⟩ := itl_back hr
        have hk : acc.length + 1 ≤ 9999 := by
          simp only [brk, Bool.not_eq_true, Bool.or_eq_false_iff, decide_eq_false_iff_not] at hb
          omega
        have ek : (((acc.length + 1 : Nat) : Int) + 1) = (((acc ++ [x]).length + 1 : Nat) : Int) := by simp
        rw [ek] at h
        obtain ⟨l, h1, h2, h3, h4, h5⟩ := ih r (acc ++ [x]) L (by rw [List.all_append, hg]; simp [hgx]) (by simp; omega) h
        refine ⟨x :: l, by rw [h1]; simp, ?_, h3, h4, h5⟩
        rw [hx, h2, itls, List.length_append, List.length_singleton, List.append_assoc]
theorem head_back {xs r : List Int} {d n : Int} (h : headP xs = some ((d, n), r)) : xs = hdl d n ++ r ∧ (1 ≤ d ∧ d ≤ 3652059) ∧ (1 ≤ n ∧ n ≤ 999999) := by
  unfold headP at h
  cases hn : nextP xs 72 14 with
  | none => rw [hn] at h; simp at h
  | some tr =>
    obtain ⟨t, r'⟩ := tr
    rw [hn] at h
    simp only [Option.bind_some] at h
    split at h
    · next hc =>
      simp only [Option.some.injEq, Prod.mk.injEq] at h
      obtain ⟨⟨hd, hnn⟩, rfl⟩ := h
      obtain ⟨hx, hk, s, hs⟩ := nextP_split hn
      obtain ⟨hlen, hdg⟩ := lineOk_dig hk
      have e1 := field_dec hk 1 4 (by omega) (by omega)
      have e2 := field_dec hk 5 2 (by omega) (by omega)
      have e3 := field_dec hk 7 2 (by omega) (by omega)
      have e4 := field_dec hk 9 6 (by omega) (by omega)
      have r1 := field_range (hdg 1 4 (by omega))
      have r4 := field_range (hdg 9 6 (by omega))
      have p4 : (10 : Int) ^ 4 = 10000 := by decide
      have p6 : (10 : Int) ^ 6 = 1000000 := by decide
      rw [p4] at r1
      rw [p6] at r4
      obtain ⟨hc1, hc2⟩ := hc
      unfold headD numberR at hc1 hd
      by_cases hok : 1 ≤ fieldP t 7 2 ∧ fieldP t 7 2 ≤ monthLen (fieldP t 1 4) (fieldP t 5 2)
      · rw [if_pos hok] at hd
        simp only at hd
        have hr : 1 ≤ fieldP t 1 4 ∧ fieldP t 1 4 ≤ 9999 ∧ 1 ≤ fieldP t 5 2 ∧ fieldP t 5 2 ≤ 12 := by
          apply Classical.byContradiction
          intro hnn2
          have : monthLen (fieldP t 1 4) (fieldP t 5 2) = 0 := by unfold monthLen; rw [if_neg hnn2]
          omega
        obtain ⟨a1, a2, a3, a4⟩ := hr
        rw [numberOf_eq a1 a2 a3 a4] at hd
        rw [monthLen_in a1 a2 a3 a4] at hok
        have hI : IsDate d (fieldP t 1 4) (fieldP t 5 2) (fieldP t 7 2) := ⟨a1, a2, a3, a4, hok.1, hok.2, hd⟩
        have hin := hI.inyear
        have hdb : 0 ≤ dby (fieldP t 1 4) := by unfold dby; omega
        have hdb2 : dby (fieldP t 1 4 + 1) ≤ 3652059 := by unfold dby; omega
        have hciv := CivilPure.civ_of hI (by omega) (by omega)
        refine ⟨?_, ⟨by omega, by omega⟩, by omega, by omega⟩
        have h15 : t.drop 15 = [] := List.drop_eq_nil_of_le (by omega)
        have h0 : t = [72] ++ t.drop 1 := by rw [hs]; rfl
        have hsplit : t = [72] ++ ((t.drop 1).take 4 ++ ((t.drop 5).take 2 ++ ((t.drop 7).take 2 ++ ((t.drop 9).take 6 ++ t.drop 15)))) := by
          conv => lhs; rw [h0, take_more t 1 4, take_more t (1 + 4) 2, take_more t (1 + 4 + 2) 2, take_more t (1 + 4 + 2 + 2) 6]
        rw [e1, e2, e3, e4, h15, hnn] at hsplit
        have ht : t = hdm d n := by
          unfold hdm
          rw [hciv]
          exact hsplit.trans (by simp)
        have e5 : hdl d n = hdm d n ++ [10] := rfl
        rw [hx, e5, ← ht]
        simp
      · rw [if_neg hok] at hc1
        cases hc1
    · cases h
theorem trl_err {xs : List Int} {l : List S50} {c : Int} (h : trlP xs l = .error c) : c ≠ 0 := by
  unfold trlP at h
  split at h
  · simp only [Except.error.injEq] at h; omega
  · split at h
    · cases h
    · simp only [Except.error.injEq] at h; omega
theorem det_err {xs : List Int} {k c : Int} (h : detP xs k = .error c) : c ≠ 0 := by
  unfold detP at h
  split at h
  · simp only [Except.error.injEq] at h; omega
  · split at h
    · simp only [Except.error.injEq] at h; omega
    · split at h
      · simp only [Except.error.injEq] at h; omega
      · split at h
        · simp only [Except.error.injEq] at h; omega
        · cases h
theorem loop_err (f : Nat) : ∀ (xs : List Int) (k : Nat) (l : List S50) (c k' : Int), f + k ≥ 10002 → k ≤ 10000 → loopP f xs k l = .error (c, k') → c ≠ 0 := by
  induction f with
  | zero => intro xs k l c k' h1 h2; omega
  | succ f ih =>
    intro xs k l c k' h1 h2 h
    rw [loopP] at h
    split at h
    · unfold endP at h
      split at h
      · next c' hc' =>
        simp only [Except.error.injEq, Prod.mk.injEq] at h
        obtain ⟨rfl, _⟩ := h
        exact trl_err hc'
      · split at h
        · cases h
        · simp only [Except.error.injEq, Prod.mk.injEq] at h; omega
    · next hb =>
      split at h
      · next c' hc' =>
        simp only [Except.error.injEq, Prod.mk.injEq] at h
        obtain ⟨rfl, _⟩ := h
        exact det_err hc'
      · next x r hr =>
        have hk : k ≤ 9999 := by
          simp only [brk, Bool.not_eq_true, Bool.or_eq_false_iff, decide_eq_false_iff_not] at hb
          omega
        exact ih r (k + 1) (l ++ [x]) c k' (by omega) (by omega) (by rw [Int.natCast_add]; exact h)
theorem parse_cases (xs : List Int) : (∃ d n l, parseP xs = (d, n, l, 0, 0) ∧ hasB d n l = true ∧ fmt d n l = xs) ∨ (∃ c k, parseP xs = (0, 0, [], c, k) ∧ c ≠ 0) := by
  unfold parseP readP
  cases hh : headP xs with
  | none => exact .inr ⟨200, 0, rfl, by decide⟩
  | some p =>
    obtain ⟨⟨d, n⟩, r⟩ := p
    simp only
    obtain ⟨hx, hd, hn⟩ := head_back hh
    cases hl : loopP 10001 r 1 [] with
    | error e =>
      obtain ⟨c, k⟩ := e
      exact .inr ⟨c, k, rfl, loop_err 10001 r 1 [] c k (by omega) (by omega) hl⟩
    | ok L =>
      obtain ⟨l, h1, h2, h3, h4, h5⟩ := loop_back 10001 r [] L rfl (by simp) hl
      have hLl : L = l := by simpa using h1
      subst hLl
      have hb : hasB d n L = true := by
        unfold hasB
        rw [h3, Bool.and_true, decide_eq_true_eq]
        exact ⟨hd.1, hd.2, hn.1, hn.2, h4, h5⟩
      refine .inl ⟨d, n, L, rfl, hb, ?_⟩
      unfold fmt
      rw [hb, if_pos rfl, hx, h2, List.append_assoc]
      rfl
theorem hdl_length (d n : Int) : (hdl d n).length = 16 := by simp [hdl, dec_length]
theorem trl_length (l : List S50) : (trl l).length = 32 := by simp [trl, dec_length]
theorem fmt_len {d n : Int} {l : List S50} (h : hasB d n l = true) : (fmt d n l).length = 48 + 25 * l.length := by
  unfold fmt
  rw [if_pos h]
  simp only [List.length_append, hdl_length, trl_length, itls_length]
  omega
end Go.Proofs.YtkjdmbbaacjpmaaDoor.FmtR
end
section
namespace Go.Proofs.YtkjdmbbaacjpmaaDoor.R
open Go.RowKit Go.Proofs.YtkjdmbbaacjpmaaDoorW.PrintWords Go.Proofs.YtkjdmbbaacjpmaaDoorW.PrintLast
set_option linter.unusedVariables false
def bytB (l : List Int) : Bool := l.all fun x => decide (0 ≤ x ∧ x ≤ 255)
def AdrOk (A : Option Addr) (c : Nat) : Prop := A = none ∧ c = 0 ∨ ∃ b o, A = some ⟨b, o, none⟩
theorem adr_of_R {W : World} {base : Nat} {ok : Nat → Prop} {A : Option Addr} {n c : Nat} {xs : List Int} (h : Aside0 (Kd.R (Kd.int .u8) 5 W base ok (.slice A n c) xs)) : AdrOk A c := by
  obtain ⟨inner, ho⟩ := Kd.R_own h.out
  rcases ho.2 with ⟨h1, _⟩ | ⟨g, cap, cur, h1, _⟩
  · injection h1 with h1 h2 h3
    exact .inl ⟨h1, h3⟩
  · injection h1 with h1 h2 h3
    exact .inr ⟨g, 0, h1⟩
def lockbox_Parse.f (l0 : List Int) : Option (Int × Int × List S50 × Int × Int) := if l0.length ≤ 140737488351232 ∧ bytB l0 = true then some (Reader.parseP l0) else none
theorem lockbox_Parse.calls (A0 : Option Addr) (c0 : Nat) (l0 : List Int) (r1 : Int) (r2 : Int) (r3 : List (S50)) (r4 : Int) (r5 : Int) (w : World) (hr0 : Kd.C (Kd.int .u8) w A0 l0.length l0) (hc0 : l0.length ≤ c0) (h : lockbox_Parse.f l0 = some (r1, r2, r3, r4, r5)) (HA : AdrOk A0 c0 := by exact adr_of_R (by assumption)) (HT : Aside0 (Tab w) := by first | assumption | exact tab_auto (by assumption) (by repeat (first | (with_reducible first | (with_reducible exact Aside0.out (by assumption)) | apply below_alloc | apply pw_below_drewN | apply below_drew1) | (refine below_set ?_ (Aside0.out (by assumption))))) | exact tab_drawn (by assumption) _) :
    Calls Tryd.prog 24 #[.slice A0 l0.length c0] w fun e w' => ∃ v2_ : Value, e = .returned (.tuple #[.agg #[.int .i64 r1, .int .i64 r2, v2_], .int .i64 r4, .int .i64 r5]) ∧ Kd.R k50 50 w' w.heap.size (fun _ => True) v2_ r3 ∧ Below w.heap.size w w' := by
  unfold lockbox_Parse.f at h
  split at h
  case isFalse => cases h
  case isTrue hc =>
    have hp := Option.some.inj h
    refine (Reader.parse_calls A0 c0 l0 w ⟨hc0, hc.1, fun x hx => ?_, hr0, HA⟩ HT.out.tab HT.out.ety).mono ?_
    · have := (List.all_eq_true.1 hc.2) x hx
      simpa using this
    · rintro e w' ⟨v, he, hR, hb⟩
      rw [hp] at he hR
      exact ⟨v, he, hR, hb⟩
end Go.Proofs.YtkjdmbbaacjpmaaDoor.R
end
section
namespace Go.Proofs.YtkjdmbbaacjpmaaDoor.R
open Go.RowKit Go.Proofs.YtkjdmbbaacjpmaaDoorW.PrintWords Go.Proofs.YtkjdmbbaacjpmaaDoorW.PrintLast Go.Proofs.YtkjdmbbaacjpmaaDoorW.PrintMore
attribute [local go_sem] max2_int min2_int max_two min_two max_three min_three max_four min_four
set_option linter.unusedVariables false
set_option linter.unusedSimpArgs false
def arrearslaw19_CopyBytes.l0 : Nat → List Int → List Int → Int → Option (List Int)
  | 0, _, _, _ => none
  | k + 1, x0, x3, x4 => if x4 < (x0.length : Int) then (if 0 ≤ x4 then (if x3.length < 140737488355328 then (arrearslaw19_CopyBytes.l0 k x0 (x3 ++ [rd x0 x4]) (wrap64 (x4 + 1))) else (none)) else (none)) else (some x3)
def arrearslaw19_CopyBytes.f (k : Nat) (l0 : List Int) : Option (List Int) := arrearslaw19_CopyBytes.l0 k l0 ([] : List Int) 0
theorem arrearslaw19_CopyBytes.mono_l : ∀ k, (∀ y0 y1 y2, LeO (arrearslaw19_CopyBytes.l0 k y0 y1 y2) (arrearslaw19_CopyBytes.l0 (k + 1) y0 y1 y2))
  | 0 => fun _ _ _ r h => by simp [arrearslaw19_CopyBytes.l0] at h
  | k + 1 => by
    have ih0 := arrearslaw19_CopyBytes.mono_l k
    · intro y0 y1 y2
      unfold arrearslaw19_CopyBytes.l0
      repeat' first
      | (with_reducible exact ih0 _ _ _)
      | (with_reducible exact LeO.refl _)
      | (with_reducible exact LeO.none _)
      | (with_reducible refine LeO.ite ?_ ?_)
      | (with_reducible refine LeO.bind ?_ (fun _ => ?_))
      | exact ih0 _ _ _
      | exact LeO.none _
      | refine LeO.ite ?_ ?_
      | refine LeO.bind ?_ (fun _ => ?_)
theorem arrearslaw19_CopyBytes.mono : ∀ a0 k, LeO (arrearslaw19_CopyBytes.f k a0) (arrearslaw19_CopyBytes.f (k + 1) a0) := by
  intro a0 k
  have ih0 := arrearslaw19_CopyBytes.mono_l k
  unfold arrearslaw19_CopyBytes.f
  repeat' first
      | (with_reducible exact ih0 _ _ _)
      | (with_reducible exact LeO.refl _)
      | (with_reducible exact LeO.none _)
      | (with_reducible refine LeO.ite ?_ ?_)
      | (with_reducible refine LeO.bind ?_ (fun _ => ?_))
      | exact ih0 _ _ _
      | exact LeO.none _
      | refine LeO.ite ?_ ?_
      | refine LeO.bind ?_ (fun _ => ?_)
set_option maxHeartbeats 8000000 in
set_option maxRecDepth 100000 in
theorem arrearslaw19_CopyBytes.calls (k : Nat) (A0 : Option Addr) (c0 : Nat) (l0 : List Int) (r : List Int) (w : World) (hr0 : Kd.C (Kd.int .u8) w A0 l0.length l0) (hc0 : l0.length ≤ c0) (h : arrearslaw19_CopyBytes.f k l0 = some r) :
    Calls Tryd.prog 14 #[.slice A0 l0.length c0] w fun e w' => ∃ v0_ : Value, e = .returned (v0_) ∧ Kd.R (Kd.int .u8) 5 w' w.heap.size (fun _ => True) v0_ r ∧ Below w.heap.size w w' := by
  have HR0 := Aside0.mk hr0
  have HC0 := Aside0.mk hc0
  clear hr0 hc0
  have HB := Aside0.mk (Below.refl w.heap.size w)
  have H : (arrearslaw19_CopyBytes.l0 k l0 ([] : List Int) 0) = some r := h
  clear h
  have H' := Aside0.mk H
  clear H
  go_enter Tryd.func14, Tryd.ntmps14
  go_wp2
  go_loopg [3, 4] k (fun kq v3 v4 w' => ∃ (x3_1 : List Int) (x4_1 : Int), v4 = .int .i64 x4_1 ∧ Aside0 (arrearslaw19_CopyBytes.l0 kq l0 x3_1 x4_1 = some r) ∧ Aside0 (kq ≤ k) ∧ Aside0 (Kd.R (Kd.int .u8) 5 w' w.heap.size (fun _ => True) v3 x3_1) ∧ Aside0 (Below w.heap.size w w'))
  case atStart => exact ⟨(([] : List Int)), (0), (by first | rfl | (simp; done) | (simp [*]; done)), H', ⟨Nat.le_refl _⟩, ⟨by first | exact Kd.R_nil _ _ _ _ _ | exact Kd.N_nil _ _ _ _ _ | exact Kd.V_nil _ _ _ _ _ | exact Kd.Q_nil _ _ _ _ _ | exact Kd.S_nil _ _ _ _ _⟩, ⟨by repeat (first | (with_reducible first | exact HB.out | apply below_alloc | apply pw_below_drewN | apply below_drew1) | exact HB.out)⟩⟩
  case round =>
    clear H'
    try clear c1
    obtain ⟨x3_1, x4_1, rfl, HA, HK1, HO_3, HB⟩ := hrel
    cases gk with
    | zero => exact absurd HA.out (by simp [arrearslaw19_CopyBytes.l0])
    | succ k1 =>
      have H := HA.out
      clear HA
      simp only [arrearslaw19_CopyBytes.l0] at H
      by_cases c2 : x4_1 < (l0.length : Int)
      · rw [if_pos c2] at H
        have c2b0 : decide (x4_1 < (l0.length : Int)) = true := decide_eq_true c2
        clear c2
        by_cases c3 : 0 ≤ x4_1
        · rw [if_pos c3] at H
          have c3b0 : decide (0 ≤ x4_1) = true := decide_eq_true c3
          clear c3
          by_cases c4 : x3_1.length < 140737488355328
          · rw [if_pos c4] at H
            have LMc4 := Aside0.mk c4
            clear c4
            obtain ⟨y102, hy102⟩ : ∃ y_ : List Int, y_ = (x3_1 ++ [rd l0 x4_1]) := ⟨_, rfl⟩
            replace H : (arrearslaw19_CopyBytes.l0 k1 l0 y102 (wrap64 (x4_1 + 1))) = some r := by first | (rw [hy102]; with_reducible exact H) | (have H2_ := (Option.bind_some _ _).symm.trans H; rw [hy102]; with_reducible exact H2_) | (have H2_ := (Option.bind_some _ _).symm.trans H; with_reducible exact H2_) | with_reducible exact H | (rw [hy102]; exact H) | exact H
            have Ny102 := Aside0.mk hy102
            clear hy102
            have H' := Aside0.mk H
            clear H
            have p101 : 0 ≤ (x4_1 : Int) := of_decide_eq_true (by first | (with_reducible assumption) | assumption)
            have q101 : x4_1 < (l0.length : Int) := of_decide_eq_true (by first | (with_reducible assumption) | assumption)
            obtain ⟨ad101, e101, hx101_0⟩ := Kd.at_int HR0.out x4_1 p101 q101
            cases e101
            replace hx101_0 := (HB.out.cell (World.block_lt_of_cell? w _ hx101_0)).trans hx101_0
            replace p101 := eq_true p101
            replace q101 := eq_true q101
            go_wp2_with (first | ((with_reducible refine gate_builtin (b := .append) (xs := #[.tmp 11, .tmp 16]) rfl ?_); at_builtin; refine Kd.R_append (Kd.int .u8) (w0 := w) w.heap.size rfl (.tmp 11) (.tmp 16) 26 5 (.int .u8 0) 1 rfl Tryd.underlying26 info5 rfl (by decide) (by omega) u3 x3_1 (rd l0 x4_1) [.int .u8 (rd l0 x4_1)] (fun _ => True) (fun _ => False) rfl rfl ?aP (fun _ hk => hk.elim) ?aF ?aO ?aB ?aS ?aL ?_; (case aP => exact rfl); (case aB => exact (by repeat (first | (with_reducible first | exact HB.out | apply below_alloc | apply pw_below_drewN | apply below_drew1) | exact HB.out))); (case aF => exact (fun _ _ => trivial)); (case aO => exact (by (with_reducible repeat (first | apply Kd.R_alloc | apply Kd.R_drewN | apply Kd.R_drew)); exact HO_3.out)); (case aS => exact (below_size (by repeat (first | (with_reducible first | exact HB.out | apply below_alloc | apply pw_below_drewN | apply below_drew1) | exact HB.out)))); (case aL => have := LMc4.out; omega); intro v103 w5 ho hb hg hat; rw [← Ny102.out] at ho; have n0_ := Aside0.mk (hb); have n1_ := Aside0.mk (ho); clear HB; clear HO_3; have HB := n0_; have HO104 := n1_; clear n0_ n1_; clear ho hb hg hat))
            go_roundg k1
            case measure => have := HK1.out; omega
            case rel => exact ⟨(y102), (wrap64 (x4_1 + 1)), (by first | rfl | (simp; done) | (simp [*]; done)), H', ⟨by have := HK1.out; omega⟩, ⟨by (with_reducible repeat (first | apply Kd.R_alloc | apply Kd.R_drewN | apply Kd.R_drew)); exact HO104.out⟩, ⟨by repeat (first | (with_reducible first | exact HB.out | apply below_alloc | apply pw_below_drewN | apply below_drew1) | exact HB.out)⟩⟩
          · rw [if_neg c4] at H
            exact absurd H (by simp)
        · rw [if_neg c3] at H
          exact absurd H (by simp)
      · rw [if_neg c2] at H
        have c2b0 : decide (x4_1 < (l0.length : Int)) = false := decide_eq_false c2
        clear c2
        obtain rfl := Option.some.inj H
        go_wp2
        go_ret
        exact ⟨_, by first | rfl | (simp [errW_none, errW_some] <;> rfl) | (simp [*, errW_none, errW_some] <;> rfl), by (with_reducible repeat (first | apply Kd.R_alloc | apply Kd.R_drewN | apply Kd.R_drew)); exact HO_3.out, by repeat (first | (with_reducible first | exact HB.out | apply below_alloc | apply pw_below_drewN | apply below_drew1) | exact HB.out)⟩
end Go.Proofs.YtkjdmbbaacjpmaaDoor.R
end
section
namespace Go.Proofs.YtkjdmbbaacjpmaaDoor.R
open Go.RowKit Go.Proofs.YtkjdmbbaacjpmaaDoorW.PrintWords Go.Proofs.YtkjdmbbaacjpmaaDoorW.PrintLast Go.Proofs.YtkjdmbbaacjpmaaDoorW.PrintMore
attribute [local go_sem] max2_int min2_int max_two min_two max_three min_three max_four min_four
set_option linter.unusedVariables false
set_option linter.unusedSimpArgs false
theorem eqA50 (d : Nat) (w : World) (x0 y0 : Int) (x1 y1 : Int) :
    (Op.equalIn (d + 2) 50 (.agg #[.int .i64 x0, .int .i64 x1]) (.agg #[.int .i64 y0, .int .i64 y1])).run Tryd.prog w = .ok (x0 == y0 && (x1 == y1)) w := by
  refine eqA_of Tryd.underlying50 (by kernel_rfl) ?_
  refine eqf_cons (by rfl) (by go_simp; rfl) (by go_simp; rfl) (by go_simp) ?_
  exact eqf_last (by rfl) (by go_simp; rfl) (by go_simp; rfl) (by go_simp)
end Go.Proofs.YtkjdmbbaacjpmaaDoor.R
end
