-- Texts of this claim, joined and cut down to what it uses (a program of this session).
import Derived.Test.YtkjdmbbaacjpmaaDoorY3
import Derived.Shelf.Strconv.Itoa0
import Derived.Shelf.Strconv.Itoa1
import Derived.Shelf.LaysM
import Derived.Shelf.Strconv.Itoa2
import Derived.Shelf.Strconv.Itoa3
import Derived.Shelf.Strconv.Itoa4
import Derived.Shelf.Strconv.ParseIntEmpty
import Derived.Shelf.Strconv.Clone
import Derived.Shelf.Strconv.SyntaxError
import Derived.Shelf.LaysC
import Derived.Shelf.Strconv.ToError
import Derived.Shelf.Strconv.Lower
import Derived.Shelf.Strconv.ParseUint10
import Derived.Shelf.Strconv.ParseUint10Empty
import Derived.Shelf.Strconv.ParseUint10Any
import Derived.Shelf.Strconv.ParseInt10
import Derived.Shelf.Strconv.RangeError
import Derived.Shelf.Strconv.ToErrorRange
import Derived.Shelf.Strconv.ParseUintEmpty
import Derived.Shelf.Strconv.ParseUint10b64
import Derived.Shelf.Strconv.ParseUint10b32
import Derived.Shelf.Strconv.ParseUint10b16
import Derived.Shelf.Strconv.ParseUint10b8
import Derived.Shelf.Strconv.ParseUint10At
import Derived.Shelf.Strconv.ParseInt10At64
import Derived.Shelf.Strconv.ParseInt10At32
import Derived.Shelf.Strconv.ParseInt10At16
import Derived.Shelf.Strconv.ParseInt10At8
import Derived.Shelf.Strconv.ParseInt10All
import Derived.Shelf.Strconv.ParseIntPublic10
import Derived.Shelf.Strconv.ErrVarParseInt
import Derived.Shelf.Bytes.IndexByte
import Derived.Test.YtkjdmbbaacjpmaaDoorProg
import Derived.Lib.Bytealg
import Derived.Lib.Bytes
import Derived.Lib.ParseIntB
import Derived.Deep.QuietTactic
import Derived.BigQuiet
section
namespace Go.Proofs.YtkjdmbbaacjpmaaDoor.R
open Go.RowKit Go.Proofs.YtkjdmbbaacjpmaaDoorW.PrintWords Go.Proofs.YtkjdmbbaacjpmaaDoorW.PrintLast Go.Proofs.YtkjdmbbaacjpmaaDoorW.PrintMore
attribute [local go_sem] max2_int min2_int max_two min_two max_three min_three max_four min_four
set_option linter.unusedVariables false
set_option linter.unusedSimpArgs false
mutual
def arrearsref20_Has.j0 : Nat → Bool → Int → Int → List (S50) → Option (Bool)
  | 0, _, _, _, _ => none
  | k + 1, x34, x394000, x394001, x394002 => if x34 = true then (some false) else (arrearsref20_Has.l0 k 0 x394000 x394001 x394002)
def arrearsref20_Has.l0 : Nat → Int → Int → Int → List (S50) → Option (Bool)
  | 0, _, _, _, _ => none
  | k + 1, x3, x394000, x394001, x394002 => if x3 < (x394002.length : Int) then (if 0 ≤ x3 then (if ((rd_T50 x394002 x3).f0) < 1 then (some false) else (if ((rd_T50 x394002 x3).f0) > 999999 then (some false) else (if ((rd_T50 x394002 x3).f1) < 1 then (some false) else (if ((rd_T50 x394002 x3).f1) > 999999999999 then (some false) else (arrearsref20_Has.l0 k (wrap64 (x3 + 1)) x394000 x394001 x394002))))) else (none)) else (some true)
end
def arrearsref20_Has.f (k : Nat) (a0_0 : Int) (a0_1 : Int) (l0_2 : List (S50)) : Option (Bool) := if a0_0 < 1 then (arrearsref20_Has.j0 k true a0_0 a0_1 l0_2) else (if a0_0 > 3652059 then (arrearsref20_Has.j0 k true a0_0 a0_1 l0_2) else (if a0_1 < 1 then (arrearsref20_Has.j0 k true a0_0 a0_1 l0_2) else (if a0_1 > 999999 then (arrearsref20_Has.j0 k true a0_0 a0_1 l0_2) else (if (l0_2.length : Int) < 1 then (arrearsref20_Has.j0 k true a0_0 a0_1 l0_2) else (arrearsref20_Has.j0 k (decide ((l0_2.length : Int) > 9999)) a0_0 a0_1 l0_2)))))
theorem arrearsref20_Has.mono_l : ∀ k, (∀ y0 y1 y2 y3, LeO (arrearsref20_Has.j0 k y0 y1 y2 y3) (arrearsref20_Has.j0 (k + 1) y0 y1 y2 y3)) ∧ (∀ y0 y1 y2 y3, LeO (arrearsref20_Has.l0 k y0 y1 y2 y3) (arrearsref20_Has.l0 (k + 1) y0 y1 y2 y3))
  | 0 => ⟨fun _ _ _ _ r h => by simp [arrearsref20_Has.j0] at h, fun _ _ _ _ r h => by simp [arrearsref20_Has.l0] at h⟩
  | k + 1 => by
    obtain ⟨ih0, ih1⟩ := arrearsref20_Has.mono_l k
    refine ⟨?_, ?_⟩
    · intro y0 y1 y2 y3
      unfold arrearsref20_Has.j0
      repeat' first
      | (with_reducible exact ih0 _ _ _ _)
      | (with_reducible exact ih1 _ _ _ _)
      | (with_reducible exact LeO.refl _)
      | (with_reducible exact LeO.none _)
      | (with_reducible refine LeO.ite ?_ ?_)
      | (with_reducible refine LeO.bind ?_ (fun _ => ?_))
      | exact ih0 _ _ _ _
      | exact ih1 _ _ _ _
      | exact LeO.none _
      | refine LeO.ite ?_ ?_
      | refine LeO.bind ?_ (fun _ => ?_)
    · intro y0 y1 y2 y3
      unfold arrearsref20_Has.l0
      repeat' first
      | (with_reducible exact ih0 _ _ _ _)
      | (with_reducible exact ih1 _ _ _ _)
      | (with_reducible exact LeO.refl _)
      | (with_reducible exact LeO.none _)
      | (with_reducible refine LeO.ite ?_ ?_)
      | (with_reducible refine LeO.bind ?_ (fun _ => ?_))
      | exact ih0 _ _ _ _
      | exact ih1 _ _ _ _
      | exact LeO.none _
      | refine LeO.ite ?_ ?_
      | refine LeO.bind ?_ (fun _ => ?_)
theorem arrearsref20_Has.mono : ∀ a0 a1 a2 k, LeO (arrearsref20_Has.f k a0 a1 a2) (arrearsref20_Has.f (k + 1) a0 a1 a2) := by
  intro a0 a1 a2 k
  obtain ⟨ih0, ih1⟩ := arrearsref20_Has.mono_l k
  unfold arrearsref20_Has.f
  repeat' first
      | (with_reducible exact ih0 _ _ _ _)
      | (with_reducible exact ih1 _ _ _ _)
      | (with_reducible exact LeO.refl _)
      | (with_reducible exact LeO.none _)
      | (with_reducible refine LeO.ite ?_ ?_)
      | (with_reducible refine LeO.bind ?_ (fun _ => ?_))
      | exact ih0 _ _ _ _
      | exact ih1 _ _ _ _
      | exact LeO.none _
      | refine LeO.ite ?_ ?_
      | refine LeO.bind ?_ (fun _ => ?_)
set_option maxHeartbeats 8000000 in
set_option maxRecDepth 100000 in
theorem arrearsref20_Has.calls (k : Nat) (a0_0 : Int) (a0_1 : Int) (A0_2 : Option Addr) (c0_2 : Nat) (l0_2 : List (S50)) (r : Bool) (w : World) (hr0_2 : Kd.C k50 w A0_2 l0_2.length l0_2) (hc0_2 : l0_2.length ≤ c0_2) (h : arrearsref20_Has.f k a0_0 a0_1 l0_2 = some r) :
    Calls Tryd.prog 26 #[.agg #[.int .i64 a0_0, .int .i64 a0_1, .slice A0_2 l0_2.length c0_2]] w fun e w' => e = .returned (.bool r) ∧ Below w.heap.size w w' := by
  have hu32 := Tryd.underlying32
  have hu50 := Tryd.underlying50
  have HR0_2 := Aside0.mk hr0_2
  have HC0_2 := Aside0.mk hc0_2
  clear hr0_2 hc0_2
  have HB := Aside0.mk (Below.refl w.heap.size w)
  have H : (if a0_0 < 1 then (arrearsref20_Has.j0 k true a0_0 a0_1 l0_2) else (if a0_0 > 3652059 then (arrearsref20_Has.j0 k true a0_0 a0_1 l0_2) else (if a0_1 < 1 then (arrearsref20_Has.j0 k true a0_0 a0_1 l0_2) else (if a0_1 > 999999 then (arrearsref20_Has.j0 k true a0_0 a0_1 l0_2) else (if (l0_2.length : Int) < 1 then (arrearsref20_Has.j0 k true a0_0 a0_1 l0_2) else (arrearsref20_Has.j0 k (decide ((l0_2.length : Int) > 9999)) a0_0 a0_1 l0_2)))))) = some r := h
  clear h
  have HC2 := Aside0.mk H
  clear H
  go_enter Tryd.func26, Tryd.ntmps26
  go_upto_region 1 with (first | ((with_reducible refine gate_dst (N := 1) rfl ?_); (try (refine gate_guard (by rfl) ?_; dsimp only)); refine box_event ?hg (N := 1) ?hd (cs := #[.int .i64 a0_0, .int .i64 a0_1, .slice A0_2 l0_2.length c0_2]) (t := 32) ?hr ?_; (case hd => rfl); (case hg => rfl); (case hr => first | (go_simp; done) | (go_simp; rfl)); intro gb393 hg w3 hbox hb; have n0_ := Aside0.mk (below_step (by repeat (first | (with_reducible first | exact HB.out | apply below_alloc | apply pw_below_drewN | apply below_drew1) | exact HB.out)) hb); have n1_ := Aside0.mk (hbox); have n2_ := Aside0.mk ((by rw [hg]; exact (below_size (by repeat (first | (with_reducible first | exact HB.out | apply below_alloc | apply pw_below_drewN | apply below_drew1) | exact HB.out))) : w.heap.size ≤ gb393)); have n3_ := Aside0.mk ((by rw [hg]; exact (below_size (by repeat (first | (with_reducible first | exact HB.out | apply below_alloc | apply pw_below_drewN | apply below_drew1) | exact HB.out))) : w.heap.size ≤ gb393)); clear HB; have HB := n0_; have BK393 := n1_; have GW393 := n2_; have GE393 := n3_; clear n0_ n1_ n2_ n3_; clear hb hbox hg))
  (try simp only [Act.put, List.setIfInBounds_toArray, List.set_cons_zero, List.set_cons_succ])
  go_cut [34] (fun v34 wc => ∃ (kq : Nat) (x34_1 : Bool), v34 = .bool x34_1 ∧ Aside0 (arrearsref20_Has.j0 kq x34_1 a0_0 a0_1 l0_2 = some r) ∧ Aside0 (kq ≤ k) ∧ Aside0 (wc.heap[gb393]? = some (.cells #[.int .i64 a0_0, .int .i64 a0_1, (.slice A0_2 l0_2.length c0_2)] 32 (0, 0))) ∧ Aside0 (Below w.heap.size w wc))
  case first =>
    have H := HC2.out
    clear HC2
    by_cases c4 : a0_0 < 1
    · rw [if_pos c4] at H
      have c4b0 : decide (a0_0 < 1) = true := decide_eq_true c4
      clear c4
      (first | rw [c4b0] | (simp only [i64_w, i32_w]; rw [c4b0]) | skip)
      have H' := Aside0.mk H
      clear H
      have hcz5_0 : w3.cell? ⟨gb393, 0, none⟩ = some (.int .i64 a0_0) := (blk_cell BK393.out 0).trans rfl
      have hcz5_1 : w3.cell? ⟨gb393, 1, none⟩ = some (.int .i64 a0_1) := (blk_cell BK393.out 1).trans rfl
      have hcz5_2 : w3.cell? ⟨gb393, 2, none⟩ = some (.slice A0_2 l0_2.length c0_2) := (blk_cell BK393.out 2).trans rfl
      have hfz5_0 := blk_frozen BK393.out 0
      have hfz5_1 := blk_frozen BK393.out 1
      have hfz5_2 := blk_frozen BK393.out 2
      go_wp2
      go_meet
      case rel => exact ⟨_, (true), (by first | rfl | (simp; done) | (simp [*]; done)), H', ⟨by first | omega | exact Nat.le_refl _⟩, ⟨by (with_reducible repeat (first | refine blk_drewN ?_ _ | refine blk_drew ?_ | refine blk_alloc ?_ _)); exact BK393.out⟩, ⟨by repeat (first | (with_reducible first | exact HB.out | apply below_alloc | apply pw_below_drewN | apply below_drew1 | refine below_set ?_ GE393.out) | exact HB.out)⟩⟩
    · rw [if_neg c4] at H
      have c4b0 : decide (a0_0 < 1) = false := decide_eq_false c4
      clear c4
      (first | rw [c4b0] | (simp only [i64_w, i32_w]; rw [c4b0]) | skip)
      by_cases c6 : a0_0 > 3652059
      · rw [if_pos c6] at H
        have c6b0 : decide (3652059 < a0_0) = true := decide_eq_true c6
        clear c6
        have H' := Aside0.mk H
        clear H
        have hcz7_0 : w3.cell? ⟨gb393, 0, none⟩ = some (.int .i64 a0_0) := (blk_cell BK393.out 0).trans rfl
        have hcz7_1 : w3.cell? ⟨gb393, 1, none⟩ = some (.int .i64 a0_1) := (blk_cell BK393.out 1).trans rfl
        have hcz7_2 : w3.cell? ⟨gb393, 2, none⟩ = some (.slice A0_2 l0_2.length c0_2) := (blk_cell BK393.out 2).trans rfl
        have hfz7_0 := blk_frozen BK393.out 0
        have hfz7_1 := blk_frozen BK393.out 1
        have hfz7_2 := blk_frozen BK393.out 2
        go_wp2
        go_meet
        case rel => exact ⟨_, (true), (by first | rfl | (simp; done) | (simp [*]; done)), H', ⟨by first | omega | exact Nat.le_refl _⟩, ⟨by (with_reducible repeat (first | refine blk_drewN ?_ _ | refine blk_drew ?_ | refine blk_alloc ?_ _)); exact BK393.out⟩, ⟨by repeat (first | (with_reducible first | exact HB.out | apply below_alloc | apply pw_below_drewN | apply below_drew1 | refine below_set ?_ GE393.out) | exact HB.out)⟩⟩
      · rw [if_neg c6] at H
        have c6b0 : decide (3652059 < a0_0) = false := decide_eq_false c6
        clear c6
        by_cases c8 : a0_1 < 1
        · rw [if_pos c8] at H
          have c8b0 : decide (a0_1 < 1) = true := decide_eq_true c8
          clear c8
          have H' := Aside0.mk H
          clear H
          have hcz9_0 : w3.cell? ⟨gb393, 0, none⟩ = some (.int .i64 a0_0) := (blk_cell BK393.out 0).trans rfl
          have hcz9_1 : w3.cell? ⟨gb393, 1, none⟩ = some (.int .i64 a0_1) := (blk_cell BK393.out 1).trans rfl
          have hcz9_2 : w3.cell? ⟨gb393, 2, none⟩ = some (.slice A0_2 l0_2.length c0_2) := (blk_cell BK393.out 2).trans rfl
          have hfz9_0 := blk_frozen BK393.out 0
          have hfz9_1 := blk_frozen BK393.out 1
          have hfz9_2 := blk_frozen BK393.out 2
          go_wp2
          go_meet
          case rel => exact ⟨_, (true), (by first | rfl | (simp; done) | (simp [*]; done)), H', ⟨by first | omega | exact Nat.le_refl _⟩, ⟨by (with_reducible repeat (first | refine blk_drewN ?_ _ | refine blk_drew ?_ | refine blk_alloc ?_ _)); exact BK393.out⟩, ⟨by repeat (first | (with_reducible first | exact HB.out | apply below_alloc | apply pw_below_drewN | apply below_drew1 | refine below_set ?_ GE393.out) | exact HB.out)⟩⟩
        · rw [if_neg c8] at H
          have c8b0 : decide (a0_1 < 1) = false := decide_eq_false c8
          clear c8
          by_cases c10 : a0_1 > 999999
          · rw [if_pos c10] at H
            have c10b0 : decide (999999 < a0_1) = true := decide_eq_true c10
            clear c10
            have H' := Aside0.mk H
            clear H
            have hcz11_0 : w3.cell? ⟨gb393, 0, none⟩ = some (.int .i64 a0_0) := (blk_cell BK393.out 0).trans rfl
            have hcz11_1 : w3.cell? ⟨gb393, 1, none⟩ = some (.int .i64 a0_1) := (blk_cell BK393.out 1).trans rfl
            have hcz11_2 : w3.cell? ⟨gb393, 2, none⟩ = some (.slice A0_2 l0_2.length c0_2) := (blk_cell BK393.out 2).trans rfl
            have hfz11_0 := blk_frozen BK393.out 0
            have hfz11_1 := blk_frozen BK393.out 1
            have hfz11_2 := blk_frozen BK393.out 2
            go_wp2
            go_meet
            case rel => exact ⟨_, (true), (by first | rfl | (simp; done) | (simp [*]; done)), H', ⟨by first | omega | exact Nat.le_refl _⟩, ⟨by (with_reducible repeat (first | refine blk_drewN ?_ _ | refine blk_drew ?_ | refine blk_alloc ?_ _)); exact BK393.out⟩, ⟨by repeat (first | (with_reducible first | exact HB.out | apply below_alloc | apply pw_below_drewN | apply below_drew1 | refine below_set ?_ GE393.out) | exact HB.out)⟩⟩
          · rw [if_neg c10] at H
            have c10b0 : decide (999999 < a0_1) = false := decide_eq_false c10
            clear c10
            by_cases c12 : (l0_2.length : Int) < 1
            · rw [if_pos c12] at H
              have c12b0 : decide ((l0_2.length : Int) < 1) = true := decide_eq_true c12
              have c12b1 : decide (l0_2.length < 1) = true := decide_eq_true (by omega)
              clear c12
              have H' := Aside0.mk H
              clear H
              have hcz13_0 : w3.cell? ⟨gb393, 0, none⟩ = some (.int .i64 a0_0) := (blk_cell BK393.out 0).trans rfl
              have hcz13_1 : w3.cell? ⟨gb393, 1, none⟩ = some (.int .i64 a0_1) := (blk_cell BK393.out 1).trans rfl
              have hcz13_2 : w3.cell? ⟨gb393, 2, none⟩ = some (.slice A0_2 l0_2.length c0_2) := (blk_cell BK393.out 2).trans rfl
              have hfz13_0 := blk_frozen BK393.out 0
              have hfz13_1 := blk_frozen BK393.out 1
              have hfz13_2 := blk_frozen BK393.out 2
              go_wp2
              go_meet
              case rel => exact ⟨_, (true), (by first | rfl | (simp; done) | (simp [*]; done)), H', ⟨by first | omega | exact Nat.le_refl _⟩, ⟨by (with_reducible repeat (first | refine blk_drewN ?_ _ | refine blk_drew ?_ | refine blk_alloc ?_ _)); exact BK393.out⟩, ⟨by repeat (first | (with_reducible first | exact HB.out | apply below_alloc | apply pw_below_drewN | apply below_drew1 | refine below_set ?_ GE393.out) | exact HB.out)⟩⟩
            · rw [if_neg c12] at H
              have c12b0 : decide ((l0_2.length : Int) < 1) = false := decide_eq_false c12
              have c12b1 : decide (l0_2.length < 1) = false := decide_eq_false (by omega)
              clear c12
              have H' := Aside0.mk H
              clear H
              have hcz14_0 : w3.cell? ⟨gb393, 0, none⟩ = some (.int .i64 a0_0) := (blk_cell BK393.out 0).trans rfl
              have hcz14_1 : w3.cell? ⟨gb393, 1, none⟩ = some (.int .i64 a0_1) := (blk_cell BK393.out 1).trans rfl
              have hcz14_2 : w3.cell? ⟨gb393, 2, none⟩ = some (.slice A0_2 l0_2.length c0_2) := (blk_cell BK393.out 2).trans rfl
              have hfz14_0 := blk_frozen BK393.out 0
              have hfz14_1 := blk_frozen BK393.out 1
              have hfz14_2 := blk_frozen BK393.out 2
              go_wp2
              go_meet
              case rel => exact ⟨_, (decide ((l0_2.length : Int) > 9999)), (by first | rfl | (simp; done) | (simp [*]; done)), H', ⟨by first | omega | exact Nat.le_refl _⟩, ⟨by (with_reducible repeat (first | refine blk_drewN ?_ _ | refine blk_drew ?_ | refine blk_alloc ?_ _)); exact BK393.out⟩, ⟨by repeat (first | (with_reducible first | exact HB.out | apply below_alloc | apply pw_below_drewN | apply below_drew1 | refine below_set ?_ GE393.out) | exact HB.out)⟩⟩
  case rest =>
    clear HC2
    try clear c1
    try clear c2
    try clear p2
    try clear c4
    try clear c4b0
    try clear c6
    try clear c6b0
    try clear c8
    try clear c8b0
    try clear c10
    try clear c10b0
    try clear c12
    try clear c12b0
    try clear c12b1
    try clear hcz11_0
    try clear hcz11_1
    try clear hcz11_2
    try clear hcz13_0
    try clear hcz13_1
    try clear hcz13_2
    try clear hcz14_0
    try clear hcz14_1
    try clear hcz14_2
    try clear hcz5_0
    try clear hcz5_1
    try clear hcz5_2
    try clear hcz7_0
    try clear hcz7_1
    try clear hcz7_2
    try clear hcz9_0
    try clear hcz9_1
    try clear hcz9_2
    try clear hfz11_0
    try clear hfz11_1
    try clear hfz11_2
    try clear hfz13_0
    try clear hfz13_1
    try clear hfz13_2
    try clear hfz14_0
    try clear hfz14_1
    try clear hfz14_2
    try clear hfz5_0
    try clear hfz5_1
    try clear hfz5_2
    try clear hfz7_0
    try clear hfz7_1
    try clear hfz7_2
    try clear hfz9_0
    try clear hfz9_1
    try clear hfz9_2
    obtain ⟨kq, x34_1, rfl, HA, HJ1, BK393, HB⟩ := hcut
    cases kq with
    | zero => exact absurd HA.out (by simp [arrearsref20_Has.j0])
    | succ kj1 =>
      have H := HA.out
      clear HA
      simp only [arrearsref20_Has.j0] at H
      by_cases c15 : x34_1 = true
      · subst c15
        have H1 : (some false) = some r := by rw [if_pos rfl] at H; exact H
        clear H
        have H := H1
        clear H1
        obtain rfl := Option.some.inj H
        go_wp2
        go_ret
        exact ⟨by first | rfl | (simp [errW_none, errW_some] <;> rfl) | (simp [*, errW_none, errW_some] <;> rfl), by repeat (first | (with_reducible first | exact HB.out | apply below_alloc | apply pw_below_drewN | apply below_drew1 | refine below_set ?_ GE393.out) | exact HB.out)⟩
      · replace c15 := Bool.eq_false_iff.mpr c15
        subst c15
        have H1 : (arrearsref20_Has.l0 kj1 0 a0_0 a0_1 l0_2) = some r := by rw [if_neg (show ¬ (false = true) by decide)] at H; exact H
        clear H
        have H := H1
        clear H1
        have H' := Aside0.mk H
        clear H
        go_wp2
        go_loopg [3] kj1 (fun kq v3 w' => ∃ (x3_2 : Int), v3 = .int .i64 x3_2 ∧ Aside0 (arrearsref20_Has.l0 kq x3_2 a0_0 a0_1 l0_2 = some r) ∧ Aside0 (kq ≤ kj1) ∧ Aside0 (w'.heap[gb393]? = some (.cells #[.int .i64 a0_0, .int .i64 a0_1, (.slice A0_2 l0_2.length c0_2)] 32 (0, 0))) ∧ Aside0 (Below w.heap.size w w'))
        case atStart => exact ⟨(0), (by first | rfl | (simp; done) | (simp [*]; done)), H', ⟨Nat.le_refl _⟩, ⟨by (with_reducible repeat (first | refine blk_drewN ?_ _ | refine blk_drew ?_ | refine blk_alloc ?_ _)); exact BK393.out⟩, ⟨by repeat (first | (with_reducible first | exact HB.out | apply below_alloc | apply pw_below_drewN | apply below_drew1 | refine below_set ?_ GE393.out) | exact HB.out)⟩⟩
        case round =>
          clear H'
          try clear c1
          try clear c2
          try clear p2
          try clear c4
          try clear c4b0
          try clear c6
          try clear c6b0
          try clear c8
          try clear c8b0
          try clear c10
          try clear c10b0
          try clear c12
          try clear c12b0
          try clear c12b1
          try clear c15
          try clear hcz11_0
          try clear hcz11_1
          try clear hcz11_2
          try clear hcz13_0
          try clear hcz13_1
          try clear hcz13_2
          try clear hcz14_0
          try clear hcz14_1
          try clear hcz14_2
          try clear hcz5_0
          try clear hcz5_1
          try clear hcz5_2
          try clear hcz7_0
          try clear hcz7_1
          try clear hcz7_2
          try clear hcz9_0
          try clear hcz9_1
          try clear hcz9_2
          try clear hfz11_0
          try clear hfz11_1
          try clear hfz11_2
          try clear hfz13_0
          try clear hfz13_1
          try clear hfz13_2
          try clear hfz14_0
          try clear hfz14_1
          try clear hfz14_2
          try clear hfz5_0
          try clear hfz5_1
          try clear hfz5_2
          try clear hfz7_0
          try clear hfz7_1
          try clear hfz7_2
          try clear hfz9_0
          try clear hfz9_1
          try clear hfz9_2
          try clear p2
          obtain ⟨x3_2, rfl, HA, HK2, BK393, HB⟩ := hrel
          cases gk with
          | zero => exact absurd HA.out (by simp [arrearsref20_Has.l0])
          | succ k2 =>
            have H := HA.out
            clear HA
            simp only [arrearsref20_Has.l0] at H
            by_cases c16 : x3_2 < (l0_2.length : Int)
            · rw [if_pos c16] at H
              have c16b0 : decide (x3_2 < (l0_2.length : Int)) = true := decide_eq_true c16
              clear c16
              by_cases c17 : 0 ≤ x3_2
              · rw [if_pos c17] at H
                have c17b0 : decide (0 ≤ x3_2) = true := decide_eq_true c17
                clear c17
                by_cases c18 : ((rd_T50 l0_2 x3_2).f0) < 1
                · rw [if_pos c18] at H
                  have c18b0 : decide (((rd_T50 l0_2 x3_2).f0) < 1) = true := decide_eq_true c18
                  clear c18
                  obtain rfl := Option.some.inj H
                  have hcz19_0 : wr.cell? ⟨gb393, 0, none⟩ = some (.int .i64 a0_0) := (blk_cell BK393.out 0).trans rfl
                  have hcz19_1 : wr.cell? ⟨gb393, 1, none⟩ = some (.int .i64 a0_1) := (blk_cell BK393.out 1).trans rfl
                  have hcz19_2 : wr.cell? ⟨gb393, 2, none⟩ = some (.slice A0_2 l0_2.length c0_2) := (blk_cell BK393.out 2).trans rfl
                  have hfz19_0 := blk_frozen BK393.out 0
                  have hfz19_1 := blk_frozen BK393.out 1
                  have hfz19_2 := blk_frozen BK393.out 2
                  have p394 : 0 ≤ (x3_2 : Int) := of_decide_eq_true (by first | (with_reducible assumption) | assumption)
                  have q394 : x3_2 < (l0_2.length : Int) := of_decide_eq_true (by first | (with_reducible assumption) | assumption)
                  obtain ⟨ad394, e394, hx394_0, hx394_1⟩ := at_T50 HR0_2.out x3_2 p394 q394
                  cases e394
                  replace hx394_0 := (HB.out.cell (World.block_lt_of_cell? w _ hx394_0)).trans hx394_0
                  replace hx394_1 := (HB.out.cell (World.block_lt_of_cell? w _ hx394_1)).trans hx394_1
                  replace p394 := eq_true p394
                  replace q394 := eq_true q394
                  go_wp2_with (first | ((with_reducible refine gate_dst (N := 4) rfl ?_); (try (refine gate_guard (by rfl) ?_; dsimp only)); refine box_event ?hg (N := 4) ?hd (cs := #[.int .i64 0, .int .i64 0]) (t := 50) ?hr ?_; (case hd => rfl); (case hg => rfl); (case hr => first | (go_simp; done) | (go_simp; rfl)); intro gb395 hg w20 hbox hb; have n0_ := Aside0.mk (blk_below (g := gb393) (o := .cells #[.int .i64 a0_0, .int .i64 a0_1, .slice (some ad394) l0_2.length c0_2] 32 (0, 0)) (by (with_reducible repeat (first | refine blk_drewN ?_ _ | refine blk_drew ?_ | refine blk_alloc ?_ _)); exact BK393.out) hb); have n1_ := Aside0.mk (below_step (by repeat (first | (with_reducible first | exact HB.out | apply below_alloc | apply pw_below_drewN | apply below_drew1 | refine below_set ?_ GE393.out) | exact HB.out)) hb); have n2_ := Aside0.mk (hbox); have n3_ := Aside0.mk ((by rw [hg]; exact (below_size (by repeat (first | (with_reducible first | exact HB.out | apply below_alloc | apply pw_below_drewN | apply below_drew1 | refine below_set ?_ GE393.out) | exact HB.out))) : w.heap.size ≤ gb395)); have n4_ := Aside0.mk ((by rw [hg]; exact (below_size (by repeat (first | (with_reducible first | exact HB.out | apply below_alloc | apply pw_below_drewN | apply below_drew1 | refine below_set ?_ GE393.out) | exact HB.out))) : w.heap.size ≤ gb395)); have n5_ := Aside0.mk ((by rw [hg]; exact Nat.ne_of_lt (blk_lt (g := gb393) (o := .cells #[.int .i64 a0_0, .int .i64 a0_1, .slice (some ad394) l0_2.length c0_2] 32 (0, 0)) (by (with_reducible repeat (first | refine blk_drewN ?_ _ | refine blk_drew ?_ | refine blk_alloc ?_ _)); exact BK393.out)) : gb393 ≠ gb395)); have n6_ := Aside0.mk ((by rw [hg]; exact Nat.ne_of_gt (blk_lt (g := gb393) (o := .cells #[.int .i64 a0_0, .int .i64 a0_1, .slice (some ad394) l0_2.length c0_2] 32 (0, 0)) (by (with_reducible repeat (first | refine blk_drewN ?_ _ | refine blk_drew ?_ | refine blk_alloc ?_ _)); exact BK393.out)) : gb395 ≠ gb393)); clear BK393; clear HB; have BK393 := n0_; have HB := n1_; have BK395 := n2_; have GW395 := n3_; have GE395 := n4_; have NB393_395 := n5_; have NB395_393 := n6_; clear n0_ n1_ n2_ n3_ n4_ n5_ n6_; clear hb hbox hg; have hnb21 := NB395_393.out; have hnc21 := NB393_395.out; have hcz22_0 : w20.cell? ⟨gb395, 0, none⟩ = some (.int .i64 0) := (blk_cell BK395.out 0).trans rfl; have hcz22_1 : w20.cell? ⟨gb395, 1, none⟩ = some (.int .i64 0) := (blk_cell BK395.out 1).trans rfl; have hfz22_0 := blk_frozen BK395.out 0; have hfz22_1 := blk_frozen BK395.out 1))
                  go_ret
                  exact ⟨by first | rfl | (simp [errW_none, errW_some] <;> rfl) | (simp [*, errW_none, errW_some] <;> rfl), by repeat (first | (with_reducible first | exact HB.out | apply below_alloc | apply pw_below_drewN | apply below_drew1 | refine below_set ?_ GE393.out | refine below_set ?_ GE395.out) | exact HB.out)⟩
                · rw [if_neg c18] at H
                  have c18b0 : decide (((rd_T50 l0_2 x3_2).f0) < 1) = false := decide_eq_false c18
                  clear c18
                  by_cases c23 : ((rd_T50 l0_2 x3_2).f0) > 999999
                  · rw [if_pos c23] at H
                    have c23b0 : decide (999999 < ((rd_T50 l0_2 x3_2).f0)) = true := decide_eq_true c23
                    clear c23
                    obtain rfl := Option.some.inj H
                    have hcz24_0 : wr.cell? ⟨gb393, 0, none⟩ = some (.int .i64 a0_0) := (blk_cell BK393.out 0).trans rfl
                    have hcz24_1 : wr.cell? ⟨gb393, 1, none⟩ = some (.int .i64 a0_1) := (blk_cell BK393.out 1).trans rfl
                    have hcz24_2 : wr.cell? ⟨gb393, 2, none⟩ = some (.slice A0_2 l0_2.length c0_2) := (blk_cell BK393.out 2).trans rfl
                    have hfz24_0 := blk_frozen BK393.out 0
                    have hfz24_1 := blk_frozen BK393.out 1
                    have hfz24_2 := blk_frozen BK393.out 2
                    have p394 : 0 ≤ (x3_2 : Int) := of_decide_eq_true (by first | (with_reducible assumption) | assumption)
                    have q394 : x3_2 < (l0_2.length : Int) := of_decide_eq_true (by first | (with_reducible assumption) | assumption)
                    obtain ⟨ad394, e394, hx394_0, hx394_1⟩ := at_T50 HR0_2.out x3_2 p394 q394
                    cases e394
                    replace hx394_0 := (HB.out.cell (World.block_lt_of_cell? w _ hx394_0)).trans hx394_0
                    replace hx394_1 := (HB.out.cell (World.block_lt_of_cell? w _ hx394_1)).trans hx394_1
                    replace p394 := eq_true p394
                    replace q394 := eq_true q394
                    go_wp2_with (first | ((with_reducible refine gate_dst (N := 4) rfl ?_); (try (refine gate_guard (by rfl) ?_; dsimp only)); refine box_event ?hg (N := 4) ?hd (cs := #[.int .i64 0, .int .i64 0]) (t := 50) ?hr ?_; (case hd => rfl); (case hg => rfl); (case hr => first | (go_simp; done) | (go_simp; rfl)); intro gb395 hg w25 hbox hb; have n0_ := Aside0.mk (blk_below (g := gb393) (o := .cells #[.int .i64 a0_0, .int .i64 a0_1, .slice (some ad394) l0_2.length c0_2] 32 (0, 0)) (by (with_reducible repeat (first | refine blk_drewN ?_ _ | refine blk_drew ?_ | refine blk_alloc ?_ _)); exact BK393.out) hb); have n1_ := Aside0.mk (below_step (by repeat (first | (with_reducible first | exact HB.out | apply below_alloc | apply pw_below_drewN | apply below_drew1 | refine below_set ?_ GE393.out) | exact HB.out)) hb); have n2_ := Aside0.mk (hbox); have n3_ := Aside0.mk ((by rw [hg]; exact (below_size (by repeat (first | (with_reducible first | exact HB.out | apply below_alloc | apply pw_below_drewN | apply below_drew1 | refine below_set ?_ GE393.out) | exact HB.out))) : w.heap.size ≤ gb395)); have n4_ := Aside0.mk ((by rw [hg]; exact (below_size (by repeat (first | (with_reducible first | exact HB.out | apply below_alloc | apply pw_below_drewN | apply below_drew1 | refine below_set ?_ GE393.out) | exact HB.out))) : w.heap.size ≤ gb395)); have n5_ := Aside0.mk ((by rw [hg]; exact Nat.ne_of_lt (blk_lt (g := gb393) (o := .cells #[.int .i64 a0_0, .int .i64 a0_1, .slice (some ad394) l0_2.length c0_2] 32 (0, 0)) (by (with_reducible repeat (first | refine blk_drewN ?_ _ | refine blk_drew ?_ | refine blk_alloc ?_ _)); exact BK393.out)) : gb393 ≠ gb395)); have n6_ := Aside0.mk ((by rw [hg]; exact Nat.ne_of_gt (blk_lt (g := gb393) (o := .cells #[.int .i64 a0_0, .int .i64 a0_1, .slice (some ad394) l0_2.length c0_2] 32 (0, 0)) (by (with_reducible repeat (first | refine blk_drewN ?_ _ | refine blk_drew ?_ | refine blk_alloc ?_ _)); exact BK393.out)) : gb395 ≠ gb393)); clear BK393; clear HB; have BK393 := n0_; have HB := n1_; have BK395 := n2_; have GW395 := n3_; have GE395 := n4_; have NB393_395 := n5_; have NB395_393 := n6_; clear n0_ n1_ n2_ n3_ n4_ n5_ n6_; clear hb hbox hg; have hnb26 := NB395_393.out; have hnc26 := NB393_395.out; have hcz27_0 : w25.cell? ⟨gb395, 0, none⟩ = some (.int .i64 0) := (blk_cell BK395.out 0).trans rfl; have hcz27_1 : w25.cell? ⟨gb395, 1, none⟩ = some (.int .i64 0) := (blk_cell BK395.out 1).trans rfl; have hfz27_0 := blk_frozen BK395.out 0; have hfz27_1 := blk_frozen BK395.out 1))
                    go_ret
                    exact ⟨by first | rfl | (simp [errW_none, errW_some] <;> rfl) | (simp [*, errW_none, errW_some] <;> rfl), by repeat (first | (with_reducible first | exact HB.out | apply below_alloc | apply pw_below_drewN | apply below_drew1 | refine below_set ?_ GE393.out | refine below_set ?_ GE395.out) | exact HB.out)⟩
                  · rw [if_neg c23] at H
                    have c23b0 : decide (999999 < ((rd_T50 l0_2 x3_2).f0)) = false := decide_eq_false c23
                    clear c23
                    by_cases c28 : ((rd_T50 l0_2 x3_2).f1) < 1
                    · rw [if_pos c28] at H
                      have c28b0 : decide (((rd_T50 l0_2 x3_2).f1) < 1) = true := decide_eq_true c28
                      clear c28
                      obtain rfl := Option.some.inj H
                      have hcz29_0 : wr.cell? ⟨gb393, 0, none⟩ = some (.int .i64 a0_0) := (blk_cell BK393.out 0).trans rfl
                      have hcz29_1 : wr.cell? ⟨gb393, 1, none⟩ = some (.int .i64 a0_1) := (blk_cell BK393.out 1).trans rfl
                      have hcz29_2 : wr.cell? ⟨gb393, 2, none⟩ = some (.slice A0_2 l0_2.length c0_2) := (blk_cell BK393.out 2).trans rfl
                      have hfz29_0 := blk_frozen BK393.out 0
                      have hfz29_1 := blk_frozen BK393.out 1
                      have hfz29_2 := blk_frozen BK393.out 2
                      have p394 : 0 ≤ (x3_2 : Int) := of_decide_eq_true (by first | (with_reducible assumption) | assumption)
                      have q394 : x3_2 < (l0_2.length : Int) := of_decide_eq_true (by first | (with_reducible assumption) | assumption)
                      obtain ⟨ad394, e394, hx394_0, hx394_1⟩ := at_T50 HR0_2.out x3_2 p394 q394
                      cases e394
                      replace hx394_0 := (HB.out.cell (World.block_lt_of_cell? w _ hx394_0)).trans hx394_0
                      replace hx394_1 := (HB.out.cell (World.block_lt_of_cell? w _ hx394_1)).trans hx394_1
                      replace p394 := eq_true p394
                      replace q394 := eq_true q394
                      go_wp2_with (first | ((with_reducible refine gate_dst (N := 4) rfl ?_); (try (refine gate_guard (by rfl) ?_; dsimp only)); refine box_event ?hg (N := 4) ?hd (cs := #[.int .i64 0, .int .i64 0]) (t := 50) ?hr ?_; (case hd => rfl); (case hg => rfl); (case hr => first | (go_simp; done) | (go_simp; rfl)); intro gb395 hg w30 hbox hb; have n0_ := Aside0.mk (blk_below (g := gb393) (o := .cells #[.int .i64 a0_0, .int .i64 a0_1, .slice (some ad394) l0_2.length c0_2] 32 (0, 0)) (by (with_reducible repeat (first | refine blk_drewN ?_ _ | refine blk_drew ?_ | refine blk_alloc ?_ _)); exact BK393.out) hb); have n1_ := Aside0.mk (below_step (by repeat (first | (with_reducible first | exact HB.out | apply below_alloc | apply pw_below_drewN | apply below_drew1 | refine below_set ?_ GE393.out) | exact HB.out)) hb); have n2_ := Aside0.mk (hbox); have n3_ := Aside0.mk ((by rw [hg]; exact (below_size (by repeat (first | (with_reducible first | exact HB.out | apply below_alloc | apply pw_below_drewN | apply below_drew1 | refine below_set ?_ GE393.out) | exact HB.out))) : w.heap.size ≤ gb395)); have n4_ := Aside0.mk ((by rw [hg]; exact (below_size (by repeat (first | (with_reducible first | exact HB.out | apply below_alloc | apply pw_below_drewN | apply below_drew1 | refine below_set ?_ GE393.out) | exact HB.out))) : w.heap.size ≤ gb395)); have n5_ := Aside0.mk ((by rw [hg]; exact Nat.ne_of_lt (blk_lt (g := gb393) (o := .cells #[.int .i64 a0_0, .int .i64 a0_1, .slice (some ad394) l0_2.length c0_2] 32 (0, 0)) (by (with_reducible repeat (first | refine blk_drewN ?_ _ | refine blk_drew ?_ | refine blk_alloc ?_ _)); exact BK393.out)) : gb393 ≠ gb395)); have n6_ := Aside0.mk ((by rw [hg]; exact Nat.ne_of_gt (blk_lt (g := gb393) (o := .cells #[.int .i64 a0_0, .int .i64 a0_1, .slice (some ad394) l0_2.length c0_2] 32 (0, 0)) (by (with_reducible repeat (first | refine blk_drewN ?_ _ | refine blk_drew ?_ | refine blk_alloc ?_ _)); exact BK393.out)) : gb395 ≠ gb393)); clear BK393; clear HB; have BK393 := n0_; have HB := n1_; have BK395 := n2_; have GW395 := n3_; have GE395 := n4_; have NB393_395 := n5_; have NB395_393 := n6_; clear n0_ n1_ n2_ n3_ n4_ n5_ n6_; clear hb hbox hg; have hnb31 := NB395_393.out; have hnc31 := NB393_395.out; have hcz32_0 : w30.cell? ⟨gb395, 0, none⟩ = some (.int .i64 0) := (blk_cell BK395.out 0).trans rfl; have hcz32_1 : w30.cell? ⟨gb395, 1, none⟩ = some (.int .i64 0) := (blk_cell BK395.out 1).trans rfl; have hfz32_0 := blk_frozen BK395.out 0; have hfz32_1 := blk_frozen BK395.out 1))
                      go_ret
                      exact ⟨by first | rfl | (simp [errW_none, errW_some] <;> rfl) | (simp [*, errW_none, errW_some] <;> rfl), by repeat (first | (with_reducible first | exact HB.out | apply below_alloc | apply pw_below_drewN | apply below_drew1 | refine below_set ?_ GE393.out | refine below_set ?_ GE395.out) | exact HB.out)⟩
                    · rw [if_neg c28] at H
                      have c28b0 : decide (((rd_T50 l0_2 x3_2).f1) < 1) = false := decide_eq_false c28
                      clear c28
                      by_cases c33 : ((rd_T50 l0_2 x3_2).f1) > 999999999999
                      · rw [if_pos c33] at H
                        have c33b0 : decide (999999999999 < ((rd_T50 l0_2 x3_2).f1)) = true := decide_eq_true c33
                        clear c33
                        obtain rfl := Option.some.inj H
                        have hcz34_0 : wr.cell? ⟨gb393, 0, none⟩ = some (.int .i64 a0_0) := (blk_cell BK393.out 0).trans rfl
                        have hcz34_1 : wr.cell? ⟨gb393, 1, none⟩ = some (.int .i64 a0_1) := (blk_cell BK393.out 1).trans rfl
                        have hcz34_2 : wr.cell? ⟨gb393, 2, none⟩ = some (.slice A0_2 l0_2.length c0_2) := (blk_cell BK393.out 2).trans rfl
                        have hfz34_0 := blk_frozen BK393.out 0
                        have hfz34_1 := blk_frozen BK393.out 1
                        have hfz34_2 := blk_frozen BK393.out 2
                        have p394 : 0 ≤ (x3_2 : Int) := of_decide_eq_true (by first | (with_reducible assumption) | assumption)
                        have q394 : x3_2 < (l0_2.length : Int) := of_decide_eq_true (by first | (with_reducible assumption) | assumption)
                        obtain ⟨ad394, e394, hx394_0, hx394_1⟩ := at_T50 HR0_2.out x3_2 p394 q394
                        cases e394
                        replace hx394_0 := (HB.out.cell (World.block_lt_of_cell? w _ hx394_0)).trans hx394_0
                        replace hx394_1 := (HB.out.cell (World.block_lt_of_cell? w _ hx394_1)).trans hx394_1
                        replace p394 := eq_true p394
                        replace q394 := eq_true q394
                        go_wp2_with (first | ((with_reducible refine gate_dst (N := 4) rfl ?_); (try (refine gate_guard (by rfl) ?_; dsimp only)); refine box_event ?hg (N := 4) ?hd (cs := #[.int .i64 0, .int .i64 0]) (t := 50) ?hr ?_; (case hd => rfl); (case hg => rfl); (case hr => first | (go_simp; done) | (go_simp; rfl)); intro gb395 hg w35 hbox hb; have n0_ := Aside0.mk (blk_below (g := gb393) (o := .cells #[.int .i64 a0_0, .int .i64 a0_1, .slice (some ad394) l0_2.length c0_2] 32 (0, 0)) (by (with_reducible repeat (first | refine blk_drewN ?_ _ | refine blk_drew ?_ | refine blk_alloc ?_ _)); exact BK393.out) hb); have n1_ := Aside0.mk (below_step (by repeat (first | (with_reducible first | exact HB.out | apply below_alloc | apply pw_below_drewN | apply below_drew1 | refine below_set ?_ GE393.out) | exact HB.out)) hb); have n2_ := Aside0.mk (hbox); have n3_ := Aside0.mk ((by rw [hg]; exact (below_size (by repeat (first | (with_reducible first | exact HB.out | apply below_alloc | apply pw_below_drewN | apply below_drew1 | refine below_set ?_ GE393.out) | exact HB.out))) : w.heap.size ≤ gb395)); have n4_ := Aside0.mk ((by rw [hg]; exact (below_size (by repeat (first | (with_reducible first | exact HB.out | apply below_alloc | apply pw_below_drewN | apply below_drew1 | refine below_set ?_ GE393.out) | exact HB.out))) : w.heap.size ≤ gb395)); have n5_ := Aside0.mk ((by rw [hg]; exact Nat.ne_of_lt (blk_lt (g := gb393) (o := .cells #[.int .i64 a0_0, .int .i64 a0_1, .slice (some ad394) l0_2.length c0_2] 32 (0, 0)) (by (with_reducible repeat (first | refine blk_drewN ?_ _ | refine blk_drew ?_ | refine blk_alloc ?_ _)); exact BK393.out)) : gb393 ≠ gb395)); have n6_ := Aside0.mk ((by rw [hg]; exact Nat.ne_of_gt (blk_lt (g := gb393) (o := .cells #[.int .i64 a0_0, .int .i64 a0_1, .slice (some ad394) l0_2.length c0_2] 32 (0, 0)) (by (with_reducible repeat (first | refine blk_drewN ?_ _ | refine blk_drew ?_ | refine blk_alloc ?_ _)); exact BK393.out)) : gb395 ≠ gb393)); clear BK393; clear HB; have BK393 := n0_; have HB := n1_; have BK395 := n2_; have GW395 := n3_; have GE395 := n4_; have NB393_395 := n5_; have NB395_393 := n6_; clear n0_ n1_ n2_ n3_ n4_ n5_ n6_; clear hb hbox hg; have hnb36 := NB395_393.out; have hnc36 := NB393_395.out; have hcz37_0 : w35.cell? ⟨gb395, 0, none⟩ = some (.int .i64 0) := (blk_cell BK395.out 0).trans rfl; have hcz37_1 : w35.cell? ⟨gb395, 1, none⟩ = some (.int .i64 0) := (blk_cell BK395.out 1).trans rfl; have hfz37_0 := blk_frozen BK395.out 0; have hfz37_1 := blk_frozen BK395.out 1))
                        go_ret
                        exact ⟨by first | rfl | (simp [errW_none, errW_some] <;> rfl) | (simp [*, errW_none, errW_some] <;> rfl), by repeat (first | (with_reducible first | exact HB.out | apply below_alloc | apply pw_below_drewN | apply below_drew1 | refine below_set ?_ GE393.out | refine below_set ?_ GE395.out) | exact HB.out)⟩
                      · rw [if_neg c33] at H
                        have c33b0 : decide (999999999999 < ((rd_T50 l0_2 x3_2).f1)) = false := decide_eq_false c33
                        clear c33
                        have H' := Aside0.mk H
                        clear H
                        have hcz38_0 : wr.cell? ⟨gb393, 0, none⟩ = some (.int .i64 a0_0) := (blk_cell BK393.out 0).trans rfl
                        have hcz38_1 : wr.cell? ⟨gb393, 1, none⟩ = some (.int .i64 a0_1) := (blk_cell BK393.out 1).trans rfl
                        have hcz38_2 : wr.cell? ⟨gb393, 2, none⟩ = some (.slice A0_2 l0_2.length c0_2) := (blk_cell BK393.out 2).trans rfl
                        have hfz38_0 := blk_frozen BK393.out 0
                        have hfz38_1 := blk_frozen BK393.out 1
                        have hfz38_2 := blk_frozen BK393.out 2
                        have p394 : 0 ≤ (x3_2 : Int) := of_decide_eq_true (by first | (with_reducible assumption) | assumption)
                        have q394 : x3_2 < (l0_2.length : Int) := of_decide_eq_true (by first | (with_reducible assumption) | assumption)
                        obtain ⟨ad394, e394, hx394_0, hx394_1⟩ := at_T50 HR0_2.out x3_2 p394 q394
                        cases e394
                        replace hx394_0 := (HB.out.cell (World.block_lt_of_cell? w _ hx394_0)).trans hx394_0
                        replace hx394_1 := (HB.out.cell (World.block_lt_of_cell? w _ hx394_1)).trans hx394_1
                        replace p394 := eq_true p394
                        replace q394 := eq_true q394
                        go_wp2_with (first | ((with_reducible refine gate_dst (N := 4) rfl ?_); (try (refine gate_guard (by rfl) ?_; dsimp only)); refine box_event ?hg (N := 4) ?hd (cs := #[.int .i64 0, .int .i64 0]) (t := 50) ?hr ?_; (case hd => rfl); (case hg => rfl); (case hr => first | (go_simp; done) | (go_simp; rfl)); intro gb395 hg w39 hbox hb; have n0_ := Aside0.mk (blk_below (g := gb393) (o := .cells #[.int .i64 a0_0, .int .i64 a0_1, .slice (some ad394) l0_2.length c0_2] 32 (0, 0)) (by (with_reducible repeat (first | refine blk_drewN ?_ _ | refine blk_drew ?_ | refine blk_alloc ?_ _)); exact BK393.out) hb); have n1_ := Aside0.mk (below_step (by repeat (first | (with_reducible first | exact HB.out | apply below_alloc | apply pw_below_drewN | apply below_drew1 | refine below_set ?_ GE393.out) | exact HB.out)) hb); have n2_ := Aside0.mk (hbox); have n3_ := Aside0.mk ((by rw [hg]; exact (below_size (by repeat (first | (with_reducible first | exact HB.out | apply below_alloc | apply pw_below_drewN | apply below_drew1 | refine below_set ?_ GE393.out) | exact HB.out))) : w.heap.size ≤ gb395)); have n4_ := Aside0.mk ((by rw [hg]; exact (below_size (by repeat (first | (with_reducible first | exact HB.out | apply below_alloc | apply pw_below_drewN | apply below_drew1 | refine below_set ?_ GE393.out) | exact HB.out))) : w.heap.size ≤ gb395)); have n5_ := Aside0.mk ((by rw [hg]; exact Nat.ne_of_lt (blk_lt (g := gb393) (o := .cells #[.int .i64 a0_0, .int .i64 a0_1, .slice (some ad394) l0_2.length c0_2] 32 (0, 0)) (by (with_reducible repeat (first | refine blk_drewN ?_ _ | refine blk_drew ?_ | refine blk_alloc ?_ _)); exact BK393.out)) : gb393 ≠ gb395)); have n6_ := Aside0.mk ((by rw [hg]; exact Nat.ne_of_gt (blk_lt (g := gb393) (o := .cells #[.int .i64 a0_0, .int .i64 a0_1, .slice (some ad394) l0_2.length c0_2] 32 (0, 0)) (by (with_reducible repeat (first | refine blk_drewN ?_ _ | refine blk_drew ?_ | refine blk_alloc ?_ _)); exact BK393.out)) : gb395 ≠ gb393)); clear BK393; clear HB; have BK393 := n0_; have HB := n1_; have BK395 := n2_; have GW395 := n3_; have GE395 := n4_; have NB393_395 := n5_; have NB395_393 := n6_; clear n0_ n1_ n2_ n3_ n4_ n5_ n6_; clear hb hbox hg; have hnb40 := NB395_393.out; have hnc40 := NB393_395.out; have hcz41_0 : w39.cell? ⟨gb395, 0, none⟩ = some (.int .i64 0) := (blk_cell BK395.out 0).trans rfl; have hcz41_1 : w39.cell? ⟨gb395, 1, none⟩ = some (.int .i64 0) := (blk_cell BK395.out 1).trans rfl; have hfz41_0 := blk_frozen BK395.out 0; have hfz41_1 := blk_frozen BK395.out 1))
                        go_roundg k2
                        case measure => have := HJ1.out; have := HK2.out; omega
                        case rel => exact ⟨(wrap64 (x3_2 + 1)), (by first | rfl | (simp; done) | (simp [*]; done)), H', ⟨by have := HJ1.out; have := HK2.out; omega⟩, ⟨by (with_reducible repeat (first | refine blk_drewN ?_ _ | refine blk_drew ?_ | refine blk_alloc ?_ _)); refine blk_far ?_ NB393_395.out _; (with_reducible repeat (first | refine blk_drewN ?_ _ | refine blk_drew ?_ | refine blk_alloc ?_ _)); refine blk_far ?_ NB393_395.out _; (with_reducible repeat (first | refine blk_drewN ?_ _ | refine blk_drew ?_ | refine blk_alloc ?_ _)); exact BK393.out⟩, ⟨by repeat (first | (with_reducible first | exact HB.out | apply below_alloc | apply pw_below_drewN | apply below_drew1 | refine below_set ?_ GE393.out | refine below_set ?_ GE395.out) | exact HB.out)⟩⟩
              · rw [if_neg c17] at H
                exact absurd H (by simp)
            · rw [if_neg c16] at H
              have c16b0 : decide (x3_2 < (l0_2.length : Int)) = false := decide_eq_false c16
              clear c16
              obtain rfl := Option.some.inj H
              have hcz42_0 : wr.cell? ⟨gb393, 0, none⟩ = some (.int .i64 a0_0) := (blk_cell BK393.out 0).trans rfl
              have hcz42_1 : wr.cell? ⟨gb393, 1, none⟩ = some (.int .i64 a0_1) := (blk_cell BK393.out 1).trans rfl
              have hcz42_2 : wr.cell? ⟨gb393, 2, none⟩ = some (.slice A0_2 l0_2.length c0_2) := (blk_cell BK393.out 2).trans rfl
              have hfz42_0 := blk_frozen BK393.out 0
              have hfz42_1 := blk_frozen BK393.out 1
              have hfz42_2 := blk_frozen BK393.out 2
              go_wp2
              go_ret
              exact ⟨by first | rfl | (simp [errW_none, errW_some] <;> rfl) | (simp [*, errW_none, errW_some] <;> rfl), by repeat (first | (with_reducible first | exact HB.out | apply below_alloc | apply pw_below_drewN | apply below_drew1 | refine below_set ?_ GE393.out) | exact HB.out)⟩
end Go.Proofs.YtkjdmbbaacjpmaaDoor.R
end
section
namespace Go.Proofs.YtkjdmbbaacjpmaaDoor.R
open Go.RowKit Go.Proofs.YtkjdmbbaacjpmaaDoorW.PrintWords Go.Proofs.YtkjdmbbaacjpmaaDoorW.PrintLast Go.Proofs.YtkjdmbbaacjpmaaDoorW.PrintMore
attribute [local go_sem] max2_int min2_int max_two min_two max_three min_three max_four min_four
set_option linter.unusedVariables false
set_option linter.unusedSimpArgs false
def arrearslaw20_own.f (a0_0 : Int) (a0_1 : Int) (l0_2 : List (S50)) : Option (Int × Int × (List (S50))) := if ([] : List (S50)).length + l0_2.length < 8796093022208 then (some (a0_0, a0_1, (([] : List (S50)) ++ l0_2))) else (none)
set_option maxHeartbeats 8000000 in
set_option maxRecDepth 100000 in
theorem arrearslaw20_own.calls (a0_0 : Int) (a0_1 : Int) (A0_2 : Option Addr) (c0_2 : Nat) (l0_2 : List (S50)) (r1 : Int) (r2 : Int) (r3 : List (S50)) (w : World) (hr0_2 : Kd.C k50 w A0_2 l0_2.length l0_2) (hc0_2 : l0_2.length ≤ c0_2) (h : arrearslaw20_own.f a0_0 a0_1 l0_2 = some (r1, r2, r3)) :
    Calls Tryd.prog 15 #[.agg #[.int .i64 a0_0, .int .i64 a0_1, .slice A0_2 l0_2.length c0_2]] w fun e w' => ∃ v2_ : Value, e = .returned (.agg #[.int .i64 r1, .int .i64 r2, v2_]) ∧ Kd.R k50 50 w' w.heap.size (fun _ => True) v2_ r3 ∧ Below w.heap.size w w' := by
  have hu32 := Tryd.underlying32
  have HR0_2 := Aside0.mk hr0_2
  have HC0_2 := Aside0.mk hc0_2
  clear hr0_2 hc0_2
  have HB := Aside0.mk (Below.refl w.heap.size w)
  have H : (if ([] : List (S50)).length + l0_2.length < 8796093022208 then (some (a0_0, a0_1, (([] : List (S50)) ++ l0_2))) else (none)) = some (r1, r2, r3) := h
  clear h
  by_cases c2 : ([] : List (S50)).length + l0_2.length < 8796093022208
  · rw [if_pos c2] at H
    have LMc2 := Aside0.mk c2
    clear c2
    obtain ⟨y258, hy258⟩ : ∃ y_ : List (S50), y_ = (([] : List (S50)) ++ l0_2) := ⟨_, rfl⟩
    replace H : (some (a0_0, a0_1, y258)) = some (r1, r2, r3) := by first | (rw [hy258]; with_reducible exact H) | (have H2_ := (Option.bind_some _ _).symm.trans H; rw [hy258]; with_reducible exact H2_) | (have H2_ := (Option.bind_some _ _).symm.trans H; with_reducible exact H2_) | with_reducible exact H | (rw [hy258]; exact H) | exact H
    have Ny258 := Aside0.mk hy258
    clear hy258
    simp only [Option.some.injEq, Prod.mk.injEq] at H
    obtain ⟨rfl, rfl, rfl⟩ := H
    go_enter Tryd.func15, Tryd.ntmps15
    go_wp2_with (first | ((with_reducible refine gate_dst (N := 1) rfl ?_); refine box_event ?hg (N := 1) ?hd (cs := #[.int .i64 a0_0, .int .i64 a0_1, .slice A0_2 l0_2.length c0_2]) (t := 32) ?hr ?_; (case hd => rfl); (case hg => rfl); (case hr => first | (go_simp; done) | (go_simp; rfl)); intro gb256 hg w3 hbox hb; have n0_ := Aside0.mk (below_step (by repeat (first | (with_reducible first | exact HB.out | apply below_alloc | apply pw_below_drewN | apply below_drew1) | exact HB.out)) hb); have n1_ := Aside0.mk (hbox); have n2_ := Aside0.mk ((by rw [hg]; exact (below_size (by repeat (first | (with_reducible first | exact HB.out | apply below_alloc | apply pw_below_drewN | apply below_drew1) | exact HB.out))) : w.heap.size ≤ gb256)); have n3_ := Aside0.mk ((by rw [hg]; exact (below_size (by repeat (first | (with_reducible first | exact HB.out | apply below_alloc | apply pw_below_drewN | apply below_drew1) | exact HB.out))) : w.heap.size ≤ gb256)); clear HB; have HB := n0_; have BK256 := n1_; have GW256 := n2_; have GE256 := n3_; clear n0_ n1_ n2_ n3_; clear hb hbox hg) | ((with_reducible refine gate_dst (N := 2) rfl ?_); refine box_event ?hg (N := 2) ?hd (cs := #[.int .i64 0, .int .i64 0, .slice none 0 0]) (t := 32) ?hr ?_; (case hd => rfl); (case hg => rfl); (case hr => first | (go_simp; done) | (go_simp; rfl)); intro gb257 hg w4 hbox hb; have n0_ := Aside0.mk (blk_below (g := gb256) (o := .cells #[.int .i64 a0_0, .int .i64 a0_1, .slice A0_2 l0_2.length c0_2] 32 (0, 0)) (by (with_reducible repeat (first | refine blk_drewN ?_ _ | refine blk_drew ?_ | refine blk_alloc ?_ _)); exact BK256.out) hb); have n1_ := Aside0.mk (below_step (by repeat (first | (with_reducible first | exact HB.out | apply below_alloc | apply pw_below_drewN | apply below_drew1 | refine below_set ?_ GE256.out) | exact HB.out)) hb); have n2_ := Aside0.mk (hbox); have n3_ := Aside0.mk ((by rw [hg]; exact (below_size (by repeat (first | (with_reducible first | exact HB.out | apply below_alloc | apply pw_below_drewN | apply below_drew1 | refine below_set ?_ GE256.out) | exact HB.out))) : w.heap.size ≤ gb257)); have n4_ := Aside0.mk ((by rw [hg]; exact (below_size (by repeat (first | (with_reducible first | exact HB.out | apply below_alloc | apply pw_below_drewN | apply below_drew1 | refine below_set ?_ GE256.out) | exact HB.out))) : w.heap.size ≤ gb257)); have n5_ := Aside0.mk ((by rw [hg]; exact Nat.ne_of_lt (blk_lt (g := gb256) (o := .cells #[.int .i64 a0_0, .int .i64 a0_1, .slice A0_2 l0_2.length c0_2] 32 (0, 0)) (by (with_reducible repeat (first | refine blk_drewN ?_ _ | refine blk_drew ?_ | refine blk_alloc ?_ _)); exact BK256.out)) : gb256 ≠ gb257)); have n6_ := Aside0.mk ((by rw [hg]; exact Nat.ne_of_gt (blk_lt (g := gb256) (o := .cells #[.int .i64 a0_0, .int .i64 a0_1, .slice A0_2 l0_2.length c0_2] 32 (0, 0)) (by (with_reducible repeat (first | refine blk_drewN ?_ _ | refine blk_drew ?_ | refine blk_alloc ?_ _)); exact BK256.out)) : gb257 ≠ gb256)); clear BK256; clear HB; have BK256 := n0_; have HB := n1_; have BK257 := n2_; have GW257 := n3_; have GE257 := n4_; have NB256_257 := n5_; have NB257_256 := n6_; clear n0_ n1_ n2_ n3_ n4_ n5_ n6_; clear hb hbox hg; have hnb5 := NB256_257.out; have hnc5 := NB257_256.out; have hcz6_0 : w4.cell? ⟨gb256, 0, none⟩ = some (.int .i64 a0_0) := (blk_cell BK256.out 0).trans rfl; have hcz6_1 : w4.cell? ⟨gb256, 1, none⟩ = some (.int .i64 a0_1) := (blk_cell BK256.out 1).trans rfl; have hcz6_2 : w4.cell? ⟨gb256, 2, none⟩ = some (.slice A0_2 l0_2.length c0_2) := (blk_cell BK256.out 2).trans rfl; have hfz6_0 := blk_frozen BK256.out 0; have hfz6_1 := blk_frozen BK256.out 1; have hfz6_2 := blk_frozen BK256.out 2) | ((with_reducible refine gate_builtin (b := .append) (xs := #[.tmp 4, .tmp 6]) rfl ?_); at_builtin; refine Kd.R_append_rows k50 (w0 := w) w.heap.size rfl (.tmp 4) (.tmp 6) 30 50 (.agg #[(.int .i64 0), (.int .i64 0)]) 16 rfl Tryd.underlying30 info50 rfl (by decide) (by omega) (.slice none 0 0) ([] : List (S50)) l0_2 _ _ _ (fun _ => True) (fun _ => False) rfl rfl ?aO ?aR (fun _ _ h => h) (fun _ h => h.elim) ?aF ?aB ?aS ?aL ?_; (case aR => repeat (first | exact (Kd.C_below HR0_2.out HB.out) | (with_reducible refine Kd.C_alloc ?_ _) | (with_reducible refine Kd.C_drewN ?_ _) | (with_reducible refine Kd.C_drew ?_))); (case aB => exact (by repeat (first | (with_reducible first | exact HB.out | apply below_alloc | apply pw_below_drewN | apply below_drew1 | refine below_set ?_ GE256.out | refine below_set ?_ GE257.out) | exact HB.out))); (case aF => exact (fun _ _ => trivial)); (case aO => exact ((Kd.R_nil _ _ _ _ (fun _ => True)))); (case aS => exact (below_size (by repeat (first | (with_reducible first | exact HB.out | apply below_alloc | apply pw_below_drewN | apply below_drew1 | refine below_set ?_ GE256.out | refine below_set ?_ GE257.out) | exact HB.out)))); (case aL => have := LMc2.out; omega); intro v259 w7 ho hb hg hat; rw [← Ny258.out] at ho; have n0_ := Aside0.mk (blk_grown (g := gb256) (o := .cells #[.int .i64 a0_0, .int .i64 a0_1, .slice A0_2 l0_2.length c0_2] 32 (0, 0)) (by (with_reducible repeat (first | refine blk_drewN ?_ _ | refine blk_drew ?_ | refine blk_alloc ?_ _)); exact BK256.out) hg (by simp [Value.ownBlock])); have n1_ := Aside0.mk (blk_grown (g := gb257) (o := .cells #[.int .i64 0, .int .i64 0, .slice none 0 0] 32 (0, 0)) (by (with_reducible repeat (first | refine blk_drewN ?_ _ | refine blk_drew ?_ | refine blk_alloc ?_ _)); exact BK257.out) hg (by simp [Value.ownBlock])); have n2_ := Aside0.mk (hb); have n3_ := Aside0.mk (ho); clear BK256; clear BK257; clear HB; have BK256 := n0_; have BK257 := n1_; have HB := n2_; have HO260 := n3_; clear n0_ n1_ n2_ n3_; clear ho hb hg hat; obtain ⟨Ao8, co8, eo8⟩ := Kd.R_slice HO260.out; subst eo8; have hcz9_0 : w7.cell? ⟨gb256, 0, none⟩ = some (.int .i64 a0_0) := (blk_cell BK256.out 0).trans rfl; have hcz9_1 : w7.cell? ⟨gb256, 1, none⟩ = some (.int .i64 a0_1) := (blk_cell BK256.out 1).trans rfl; have hcz9_2 : w7.cell? ⟨gb256, 2, none⟩ = some (.slice A0_2 l0_2.length c0_2) := (blk_cell BK256.out 2).trans rfl; have hfz9_0 := blk_frozen BK256.out 0; have hfz9_1 := blk_frozen BK256.out 1; have hfz9_2 := blk_frozen BK256.out 2; have hcz10_0 : w7.cell? ⟨gb257, 0, none⟩ = some (.int .i64 0) := (blk_cell BK257.out 0).trans rfl; have hcz10_1 : w7.cell? ⟨gb257, 1, none⟩ = some (.int .i64 0) := (blk_cell BK257.out 1).trans rfl; have hcz10_2 : w7.cell? ⟨gb257, 2, none⟩ = some (.slice none 0 0) := (blk_cell BK257.out 2).trans rfl; have hfz10_0 := blk_frozen BK257.out 0; have hfz10_1 := blk_frozen BK257.out 1; have hfz10_2 := blk_frozen BK257.out 2))
    refine bodyPost_ret (results_cell_row rfl _ _ gb257 32 #[.int .i64 a0_0, .int .i64 a0_1, .slice Ao8 y258.length co8] (0, 0) _ rfl (by (with_reducible repeat (first | refine blk_drewN ?_ _ | refine blk_drew ?_ | refine blk_alloc ?_ _)); refine blk_put (cs := #[.int .i64 a0_0, .int .i64 a0_1, .slice none 0 0]) ?_ 2 _ rfl; (with_reducible repeat (first | refine blk_drewN ?_ _ | refine blk_drew ?_ | refine blk_alloc ?_ _)); refine blk_put (cs := #[.int .i64 a0_0, .int .i64 0, .slice none 0 0]) ?_ 1 _ rfl; (with_reducible repeat (first | refine blk_drewN ?_ _ | refine blk_drew ?_ | refine blk_alloc ?_ _)); refine blk_put (cs := #[.int .i64 0, .int .i64 0, .slice none 0 0]) ?_ 0 _ rfl; (with_reducible repeat (first | refine blk_drewN ?_ _ | refine blk_drew ?_ | refine blk_alloc ?_ _)); refine blk_far ?_ NB257_256.out _; (with_reducible repeat (first | refine blk_drewN ?_ _ | refine blk_drew ?_ | refine blk_alloc ?_ _)); exact BK257.out) Tryd.underlying32 rfl (by kernel_rfl)) rfl ?_
    exact ⟨_, by first | rfl | (simp [errW_none, errW_some] <;> rfl) | (simp [*, errW_none, errW_some] <;> rfl), by (with_reducible repeat (first | apply Kd.R_alloc | apply Kd.R_drewN | apply Kd.R_drew)); exact Kd.R_mono (Kd.R_far (p := ⟨gb257, 2, none⟩) (Kd.R_far (p := ⟨gb257, 1, none⟩) (Kd.R_far (p := ⟨gb257, 0, none⟩) (Kd.R_far (p := ⟨gb256, 2, none⟩) (Kd.R_types (Kd.R_types HO260.out BK256.out (by decide)) BK257.out (by decide)) (fun _ hk => hk.1.2) (.slice Ao8 y258.length co8)) (fun _ hk => hk.2) (.int .i64 a0_0)) (fun _ hk => hk.2) (.int .i64 a0_1)) (fun _ hk => hk.2) (.slice Ao8 y258.length co8)) (fun _ hk => trivial), by repeat (first | (with_reducible first | exact HB.out | apply below_alloc | apply pw_below_drewN | apply below_drew1 | refine below_set ?_ GE256.out | refine below_set ?_ GE257.out) | exact HB.out)⟩
  · rw [if_neg c2] at H
    exact absurd H (by simp)
end Go.Proofs.YtkjdmbbaacjpmaaDoor.R
end
section
namespace Go.Proofs.YtkjdmbbaacjpmaaDoor.R
open Go.RowKit Go.Proofs.YtkjdmbbaacjpmaaDoorW.PrintWords Go.Proofs.YtkjdmbbaacjpmaaDoorW.PrintLast Go.Proofs.YtkjdmbbaacjpmaaDoorW.PrintMore
attribute [local go_sem] max2_int min2_int max_two min_two max_three min_three max_four min_four
set_option linter.unusedVariables false
set_option linter.unusedSimpArgs false
def arrearsref20_totals.l0 : Nat → List (S50) → Int → Int → Int → Option (Int × Int)
  | 0, _, _, _, _ => none
  | k + 1, x0, x4, x5, x6 => if x6 < (x0.length : Int) then (if 0 ≤ x6 then (arrearsref20_totals.l0 k x0 (wrap64 (x4 + ((rd_T50 x0 x6).f1))) (Int.tmod (wrap64 (x5 + ((rd_T50 x0 x6).f0))) 10000000000) (wrap64 (x6 + 1))) else (none)) else (some (x4, x5))
def arrearsref20_totals.f (k : Nat) (l0 : List (S50)) : Option (Int × Int) := arrearsref20_totals.l0 k l0 0 0 0
theorem arrearsref20_totals.mono_l : ∀ k, (∀ y0 y1 y2 y3, LeO (arrearsref20_totals.l0 k y0 y1 y2 y3) (arrearsref20_totals.l0 (k + 1) y0 y1 y2 y3))
  | 0 => fun _ _ _ _ r h => by simp [arrearsref20_totals.l0] at h
  | k + 1 => by
    have ih0 := arrearsref20_totals.mono_l k
    · intro y0 y1 y2 y3
      unfold arrearsref20_totals.l0
      repeat' first
      | (with_reducible exact ih0 _ _ _ _)
      | (with_reducible exact LeO.refl _)
      | (with_reducible exact LeO.none _)
      | (with_reducible refine LeO.ite ?_ ?_)
      | (with_reducible refine LeO.bind ?_ (fun _ => ?_))
      | exact ih0 _ _ _ _
      | exact LeO.none _
      | refine LeO.ite ?_ ?_
      | refine LeO.bind ?_ (fun _ => ?_)
theorem arrearsref20_totals.mono : ∀ a0 k, LeO (arrearsref20_totals.f k a0) (arrearsref20_totals.f (k + 1) a0) := by
  intro a0 k
  have ih0 := arrearsref20_totals.mono_l k
  unfold arrearsref20_totals.f
  repeat' first
      | (with_reducible exact ih0 _ _ _ _)
      | (with_reducible exact LeO.refl _)
      | (with_reducible exact LeO.none _)
      | (with_reducible refine LeO.ite ?_ ?_)
      | (with_reducible refine LeO.bind ?_ (fun _ => ?_))
      | exact ih0 _ _ _ _
      | exact LeO.none _
      | refine LeO.ite ?_ ?_
      | refine LeO.bind ?_ (fun _ => ?_)
set_option maxHeartbeats 8000000 in
set_option maxRecDepth 100000 in
theorem arrearsref20_totals.calls (k : Nat) (A0 : Option Addr) (c0 : Nat) (l0 : List (S50)) (r1 : Int) (r2 : Int) (w : World) (hr0 : Kd.C k50 w A0 l0.length l0) (hc0 : l0.length ≤ c0) (h : arrearsref20_totals.f k l0 = some (r1, r2)) :
    Calls Tryd.prog 38 #[.slice A0 l0.length c0] w fun e w' => e = .returned (.tuple #[.int .i64 r1, .int .i64 r2]) ∧ Drawn0 w w' := by
  have HR0 := Aside0.mk hr0
  have HC0 := Aside0.mk hc0
  clear hr0 hc0
  have H : (arrearsref20_totals.l0 k l0 0 0 0) = some (r1, r2) := h
  clear h
  have H' := Aside0.mk H
  clear H
  go_enter Tryd.func38, Tryd.ntmps38
  go_wp2
  go_loopg [4, 5, 6] k (fun kq v4 v5 v6 w' => ∃ (x4_1 : Int) (x5_1 : Int) (x6_1 : Int), v4 = .int .i64 x4_1 ∧ v5 = .int .i64 x5_1 ∧ v6 = .int .i64 x6_1 ∧ Aside0 (arrearsref20_totals.l0 kq l0 x4_1 x5_1 x6_1 = some (r1, r2)) ∧ Aside0 (kq ≤ k) ∧ Drawn0 w w')
  case atStart => exact ⟨(0), (0), (0), (by first | rfl | (simp; done) | (simp [*]; done)), (by first | rfl | (simp; done) | (simp [*]; done)), (by first | rfl | (simp; done) | (simp [*]; done)), H', ⟨Nat.le_refl _⟩, by repeat (first | exact Drawn0.refl _ | apply Drawn0.step)⟩
  case round =>
    clear H'
    obtain ⟨x4_1, x5_1, x6_1, rfl, rfl, rfl, HA, HK1, ⟨m1, rfl⟩⟩ := hrel
    cases gk with
    | zero => exact absurd HA.out (by simp [arrearsref20_totals.l0])
    | succ k1 =>
      have H := HA.out
      clear HA
      simp only [arrearsref20_totals.l0] at H
      by_cases c2 : x6_1 < (l0.length : Int)
      · rw [if_pos c2] at H
        have c2b0 : decide (x6_1 < (l0.length : Int)) = true := decide_eq_true c2
        clear c2
        by_cases c3 : 0 ≤ x6_1
        · rw [if_pos c3] at H
          have c3b0 : decide (0 ≤ x6_1) = true := decide_eq_true c3
          clear c3
          have H' := Aside0.mk H
          clear H
          have p138 : 0 ≤ (x6_1 : Int) := of_decide_eq_true (by first | (with_reducible assumption) | assumption)
          have q138 : x6_1 < (l0.length : Int) := of_decide_eq_true (by first | (with_reducible assumption) | assumption)
          obtain ⟨ad138, e138, hx138_0, hx138_1⟩ := at_T50 HR0.out x6_1 p138 q138
          cases e138
          replace p138 := eq_true p138
          replace q138 := eq_true q138
          have p139 : 0 ≤ (x6_1 : Int) := of_decide_eq_true (by first | (with_reducible assumption) | assumption)
          have q139 : x6_1 < (l0.length : Int) := of_decide_eq_true (by first | (with_reducible assumption) | assumption)
          obtain ⟨ad139, e139, hx139_0, hx139_1⟩ := at_T50 HR0.out x6_1 p139 q139
          obtain rfl : ad138 = ad139 := (by injection e139)
          replace p139 := eq_true p139
          replace q139 := eq_true q139
          go_wp2
          go_roundg k1
          case measure => have := HK1.out; omega
          case rel => exact ⟨(wrap64 (x4_1 + ((rd_T50 l0 x6_1).f1))), (Int.tmod (wrap64 (x5_1 + ((rd_T50 l0 x6_1).f0))) 10000000000), (wrap64 (x6_1 + 1)), (by first | rfl | (simp; done) | (simp [*]; done)), (by first | rfl | (simp; done) | (simp [*]; done)), (by first | rfl | (simp; done) | (simp [*]; done)), H', ⟨by have := HK1.out; omega⟩, by repeat (first | exact Drawn0.refl _ | apply Drawn0.step)⟩
        · rw [if_neg c3] at H
          exact absurd H (by simp)
      · rw [if_neg c2] at H
        have c2b0 : decide (x6_1 < (l0.length : Int)) = false := decide_eq_false c2
        clear c2
        simp only [Option.some.injEq, Prod.mk.injEq] at H
        obtain ⟨rfl, rfl⟩ := H
        go_wp2
        go_ret2
        exact ⟨by first | rfl | (simp; done) | (simp [*]; done), by repeat (first | exact Drawn0.refl _ | apply Drawn0.step)⟩
end Go.Proofs.YtkjdmbbaacjpmaaDoor.R
end
section
namespace Go.Proofs.YtkjdmbbaacjpmaaDoor.FmtR
open Go.RowKit Go.Proofs.YtkjdmbbaacjpmaaDoor.R Go.Proofs.YtkjdmbbaacjpmaaDoor.Num Go.Proofs.YtkjdmbbaacjpmaaDoorW.PrintWords
open Go.Proofs.YtkjdmbbaacjpmaaDoor.DDigits (wrN wrI)
def goodB (x : S50) : Bool := decide (1 ≤ x.f0 ∧ x.f0 ≤ 999999 ∧ 1 ≤ x.f1 ∧ x.f1 ≤ 999999999999)
def hasB (d n : Int) (l : List S50) : Bool := decide (1 ≤ d ∧ d ≤ 3652059 ∧ 1 ≤ n ∧ n ≤ 999999 ∧ 1 ≤ l.length ∧ l.length ≤ 9999) && l.all goodB
theorem rd_nat (l : List S50) (j : Nat) (h : j < l.length) : rd_T50 l (j : Int) = l[j] := by
  unfold rd_T50
  rw [Int.toNat_natCast, List.getD_eq_getElem?_getD, List.getElem?_eq_getElem h]; rfl
theorem has_loop (l : List S50) (hl : l.length ≤ 100000) (d : Nat) : ∀ i : Nat, i + d = l.length →
    Ev (fun k => lockbox_has.l0 k l l.length i) ((l.drop i).all goodB) := by
  induction d with
  | zero =>
    intro i h
    rw [List.drop_of_length_le (by omega), List.all_nil]
    refine Ev.step (fun k => ?_) (Ev.now true)
    simp only [lockbox_has.l0]
    rw [if_neg (by omega)]
  | succ d ih =>
    intro i h
    have hi : i < l.length := by omega
    rw [List.drop_eq_getElem_cons hi, List.all_cons]
    have e := rd_nat l i hi
    generalize l[i] = x at e ⊢
    have hn : ∀ b : Bool, goodB x = b → (∀ k, lockbox_has.l0 (k + 1) l l.length i = if b = true then lockbox_has.l0 k l l.length ((i + 1 : Nat) : Int) else some false) := by
      intro b hb k
      simp only [lockbox_has.l0]
      rw [if_pos (by omega), if_pos (by omega), if_pos (by omega), e, wrN i (by omega)]
      unfold goodB at hb
      by_cases c1 : x.f0 < 1
      · rw [if_pos c1, ← hb, decide_eq_false (by omega)]; rfl
      · rw [if_neg c1]
        by_cases c2 : x.f0 > 999999
        · rw [if_pos c2, ← hb, decide_eq_false (by omega)]; rfl
        · rw [if_neg c2]
          by_cases c3 : x.f1 < 1
          · rw [if_pos c3, ← hb, decide_eq_false (by omega)]; rfl
          · rw [if_neg c3]
            by_cases c4 : x.f1 > 999999999999
            · rw [if_pos c4, ← hb, decide_eq_false (by omega)]; rfl
            · rw [if_neg c4, ← hb, decide_eq_true (by omega), if_pos rfl]
    cases hb : goodB x with
    | true =>
      rw [Bool.true_and]
      refine Ev.step (fun k => ?_) (ih (i + 1) (by omega))
      rw [hn true hb, if_pos rfl]
    | false =>
      rw [Bool.false_and]
      refine Ev.step (fun k => ?_) (Ev.now false)
      rw [hn false hb]; rfl
theorem hasRef_loop (dd nn : Int) (l : List S50) (hl : l.length ≤ 100000) (d : Nat) : ∀ i : Nat, i + d = l.length →
    Ev (fun k => arrearsref20_Has.l0 k i dd nn l) ((l.drop i).all goodB) := by
  induction d with
  | zero =>
    intro i h
    rw [List.drop_of_length_le (by omega), List.all_nil]
    refine Ev.step (fun k => ?_) (Ev.now true)
    simp only [arrearsref20_Has.l0]
    rw [if_neg (by omega)]
  | succ d ih =>
    intro i h
    have hi : i < l.length := by omega
    rw [List.drop_eq_getElem_cons hi, List.all_cons]
    have e := rd_nat l i hi
    generalize l[i] = x at e ⊢
    have hn : ∀ b : Bool, goodB x = b → (∀ k, arrearsref20_Has.l0 (k + 1) i dd nn l = if b = true then arrearsref20_Has.l0 k ((i + 1 : Nat) : Int) dd nn l else some false) := by
      intro b hb k
      simp only [arrearsref20_Has.l0]
      rw [if_pos (by omega), if_pos (by omega), e, wrN i (by omega)]
      unfold goodB at hb
      by_cases c1 : x.f0 < 1
      · rw [if_pos c1, ← hb, decide_eq_false (by omega)]; rfl
      · rw [if_neg c1]
        by_cases c2 : x.f0 > 999999
        · rw [if_pos c2, ← hb, decide_eq_false (by omega)]; rfl
        · rw [if_neg c2]
          by_cases c3 : x.f1 < 1
          · rw [if_pos c3, ← hb, decide_eq_false (by omega)]; rfl
          · rw [if_neg c3]
            by_cases c4 : x.f1 > 999999999999
            · rw [if_pos c4, ← hb, decide_eq_false (by omega)]; rfl
            · rw [if_neg c4, ← hb, decide_eq_true (by omega), if_pos rfl]
    cases hb : goodB x with
    | true =>
      rw [Bool.true_and]
      refine Ev.step (fun k => ?_) (ih (i + 1) (by omega))
      rw [hn true hb, if_pos rfl]
    | false =>
      rw [Bool.false_and]
      refine Ev.step (fun k => ?_) (Ev.now false)
      rw [hn false hb]; rfl
theorem has_cases {α : Type} (d n : Int) (l : List S50) (t f : α) (o : Bool → α) (ht : ∀ b, o b = if b = true then f else t) :
    (if d < 1 then o true else (if d > 3652059 then o true else (if n < 1 then o true else (if n > 999999 then o true else (if (l.length : Int) < 1 then o true else o (decide ((l.length : Int) > 9999))))))) =
      if decide (1 ≤ d ∧ d ≤ 3652059 ∧ 1 ≤ n ∧ n ≤ 999999 ∧ 1 ≤ l.length ∧ l.length ≤ 9999) = true then t else f := by
  rw [ht true, ht, if_pos rfl]
  by_cases c1 : d < 1
  · rw [if_pos c1, decide_eq_false (by omega)]; rfl
  · rw [if_neg c1]
    by_cases c2 : d > 3652059
    · rw [if_pos c2, decide_eq_false (by omega)]; rfl
    · rw [if_neg c2]
      by_cases c3 : n < 1
      · rw [if_pos c3, decide_eq_false (by omega)]; rfl
      · rw [if_neg c3]
        by_cases c4 : n > 999999
        · rw [if_pos c4, decide_eq_false (by omega)]; rfl
        · rw [if_neg c4]
          by_cases c5 : (l.length : Int) < 1
          · rw [if_pos c5, decide_eq_false (by omega)]; rfl
          · rw [if_neg c5]
            by_cases c6 : (l.length : Int) > 9999
            · rw [decide_eq_true c6, if_pos rfl, decide_eq_false (by omega)]; rfl
            · rw [decide_eq_false c6, decide_eq_true (by omega)]; rfl
theorem has_ev (d n : Int) (l : List S50) (hl : l.length ≤ 100000) : Ev (fun k => lockbox_has.f k d n l) (hasB d n l) := by
  have h := has_loop l hl l.length 0 (by omega)
  rw [List.drop_zero] at h
  have h2 : Ev (fun k => lockbox_has.f (k + 1) d n l) (hasB d n l) := by
    unfold hasB
    by_cases c : decide (1 ≤ d ∧ d ≤ 3652059 ∧ 1 ≤ n ∧ n ≤ 999999 ∧ 1 ≤ l.length ∧ l.length ≤ 9999) = true
    · rw [c, Bool.true_and]
      refine Ev.congr (fun k => ?_) h
      show lockbox_has.f (k + 1) d n l = _
      unfold lockbox_has.f
      rw [has_cases d n l (lockbox_has.l0 k l l.length 0) (some false) (fun b => lockbox_has.j0 (k + 1) b d n l) (fun b => by simp only [lockbox_has.j0]), if_pos c]; rfl
    · rw [Bool.not_eq_true] at c
      rw [c, Bool.false_and]
      refine Ev.congr (fun k => ?_) (Ev.now false)
      show lockbox_has.f (k + 1) d n l = _
      unfold lockbox_has.f
      rw [has_cases d n l (lockbox_has.l0 k l l.length 0) (some false) (fun b => lockbox_has.j0 (k + 1) b d n l) (fun b => by simp only [lockbox_has.j0]), c]; rfl
  exact Ev.step (fun k => rfl) h2
theorem hasRef_ev (d n : Int) (l : List S50) (hl : l.length ≤ 100000) : Ev (fun k => arrearsref20_Has.f k d n l) (hasB d n l) := by
  have h := hasRef_loop d n l hl l.length 0 (by omega)
  rw [List.drop_zero] at h
  have h2 : Ev (fun k => arrearsref20_Has.f (k + 1) d n l) (hasB d n l) := by
    unfold hasB
    by_cases c : decide (1 ≤ d ∧ d ≤ 3652059 ∧ 1 ≤ n ∧ n ≤ 999999 ∧ 1 ≤ l.length ∧ l.length ≤ 9999) = true
    · rw [c, Bool.true_and]
      refine Ev.congr (fun k => ?_) h
      show arrearsref20_Has.f (k + 1) d n l = _
      unfold arrearsref20_Has.f
      rw [has_cases d n l (arrearsref20_Has.l0 k 0 d n l) (some false) (fun b => arrearsref20_Has.j0 (k + 1) b d n l) (fun b => by simp only [arrearsref20_Has.j0]), if_pos c]; rfl
    · rw [Bool.not_eq_true] at c
      rw [c, Bool.false_and]
      refine Ev.congr (fun k => ?_) (Ev.now false)
      show arrearsref20_Has.f (k + 1) d n l = _
      unfold arrearsref20_Has.f
      rw [has_cases d n l (arrearsref20_Has.l0 k 0 d n l) (some false) (fun b => arrearsref20_Has.j0 (k + 1) b d n l) (fun b => by simp only [arrearsref20_Has.j0]), c]; rfl
  exact Ev.step (fun k => rfl) h2
theorem dec_zero : ∀ n : Nat, dec n 0 = List.replicate n 48
  | 0 => rfl
  | n + 1 => by
    rw [dec, show (0 : Int) / 10 = 0 by omega, dec_zero n, List.replicate_succ']
    rfl
theorem dec_short : ∀ (n x : Nat), x < 10 ^ (n + 1) → dec (n + 1) (x : Int) = List.replicate (n + 1 - (short x).length) 48 ++ short x
  | n, x, h => by
    by_cases hx : x < 10
    · rw [short_small hx, dec, show (x : Int) / 10 = 0 by omega, dec_zero, show (x : Int) % 10 = x by omega]
      simp
    · match n with
      | 0 => omega
      | n + 1 =>
        have h' : x / 10 < 10 ^ (n + 1) := by rw [Nat.pow_succ] at h; omega
        have ih := dec_short n (x / 10) h'
        have hl := short_length (x / 10) n h'
        rw [short_big hx, dec, show (x : Int) / 10 = ((x / 10 : Nat) : Int) by omega, ih, show (x : Int) % 10 = ((x % 10 : Nat) : Int) by omega, List.length_append, List.length_singleton]
        rw [show n + 1 + 1 - ((short (x / 10)).length + 1) = n + 1 - (short (x / 10)).length by omega, List.append_assoc]
theorem digits_ev (b : List Int) (x : Int) (n : Nat) (h0 : 0 ≤ x) (hx : x < 10 ^ (n + 1)) (hn : n ≤ 16) (hb : b.length ≤ 1000000000) :
    Ev (fun k => lockbox_digits.f k b x ((n + 1 : Nat) : Int)) (b ++ dec (n + 1) x) := by
  obtain ⟨m, rfl⟩ : ∃ m : Nat, x = m := ⟨x.toNat, by omega⟩
  have hm : m < 10 ^ (n + 1) := by
    have : ((10 ^ (n + 1) : Nat) : Int) = (10 : Int) ^ (n + 1) := by simp
    omega
  have hbig : 10 ^ (n + 1) ≤ 10 ^ 17 := Nat.pow_le_pow_right (by omega) (by omega)
  have hm17 : m ≤ 1000000000000000000 := Nat.le_trans (Nat.le_of_lt hm) (Nat.le_trans hbig (by decide))
  have hl := short_length m n hm
  have e : bytesOf ⟨(Lib.decDigits m).toArray⟩ = short m := by simp [bytesOf, short]
  have es : (⟨(Lib.decDigits m).toArray⟩ : ByteArray).size = (short m).length := by rw [← e, bytesOf_length]
  have go : ∀ d i : Nat, i + d = n + 1 - (short m).length → ∀ acc : List Int, acc.length ≤ 1000000000 + i →
      Ev (fun k => lockbox_digits.l0 k acc ⟨(Lib.decDigits m).toArray⟩ ((n + 1 - (short m).length : Nat) : Int) i) (acc ++ List.replicate d 48 ++ short m) := by
    intro d
    induction d with
    | zero =>
      intro i hi acc ha
      refine Ev.step (fun k => ?_) (Ev.now _)
      simp only [lockbox_digits.l0]
      rw [if_neg (by omega), if_pos (by omega), e, List.replicate_zero, List.append_nil]
    | succ d ih =>
      intro i hi acc ha
      have := ih (i + 1) (by omega) (acc ++ [48]) (by rw [List.length_append, List.length_singleton]; omega)
      rw [show acc ++ [48] ++ List.replicate d 48 ++ short m = acc ++ List.replicate (d + 1) 48 ++ short m by rw [List.replicate_succ]; simp] at this
      refine Ev.step (fun k => ?_) this
      simp only [lockbox_digits.l0]
      rw [if_pos (by omega), if_pos (by omega), wrN i (by omega)]
  have h := go (n + 1 - (short m).length) 0 (by omega) b (by omega)
  rw [List.append_assoc, ← dec_short n m hm] at h
  refine Ev.congr (fun k => ?_) h
  show lockbox_digits.f k b m ((n + 1 : Nat) : Int) = _
  unfold lockbox_digits.f strconv_FormatInt.f
  rw [if_pos ⟨rfl, by omega, by omega⟩, Int.toNat_natCast]
  simp only [Option.bind_some]
  rw [es, wrI (by omega) (by omega), show ((n + 1 : Nat) : Int) - ((short m).length : Int) = ((n + 1 - (short m).length : Nat) : Int) by omega]
  rfl
def tot : List S50 → Int → Int → Int × Int
  | [], s, h => (s, h)
  | x :: t, s, h => tot t (s + x.f1) ((h + x.f0) % 10000000000)
theorem tot_range : ∀ (l : List S50) (s h : Int), l.all goodB = true → 0 ≤ s → 0 ≤ h → h < 10000000000 →
    0 ≤ (tot l s h).1 ∧ (tot l s h).1 ≤ s + 999999999999 * l.length ∧ 0 ≤ (tot l s h).2 ∧ (tot l s h).2 < 10000000000
  | [], s, h, _, h0, h1, h2 => by simp [tot]; omega
  | x :: t, s, h, hg, h0, h1, h2 => by
    rw [List.all_cons, Bool.and_eq_true] at hg
    have hx := of_decide_eq_true hg.1
    have := tot_range t (s + x.f1) ((h + x.f0) % 10000000000) hg.2 (by omega) (by omega) (by omega)
    simp only [tot, List.length_cons]
    omega
theorem totals_ev (l : List S50) (hl : l.length ≤ 9999) (hg : l.all goodB = true) (d : Nat) : ∀ (i : Nat) (s h : Int), i + d = l.length → 0 ≤ s → s ≤ 999999999999 * i → 0 ≤ h → h < 10000000000 →
    Ev (fun k => lockbox_totals.l0 k s h l l.length i) (tot (l.drop i) s h) ∧ Ev (fun k => arrearsref20_totals.l0 k l s h i) (tot (l.drop i) s h) := by
  induction d with
  | zero =>
    intro i s h hi h0 h1 h2 h3
    rw [List.drop_of_length_le (by omega)]
    refine ⟨Ev.step (fun k => ?_) (Ev.now _), Ev.step (fun k => ?_) (Ev.now _)⟩
    · simp only [lockbox_totals.l0]
      rw [if_neg (by omega)]; rfl
    · simp only [arrearsref20_totals.l0]
      rw [if_neg (by omega)]; rfl
  | succ d ih =>
    intro i s h hi h0 h1 h2 h3
    have hil : i < l.length := by omega
    have hx := of_decide_eq_true (List.all_eq_true.1 hg _ (List.getElem_mem hil))
    have e := rd_nat l i hil
    rw [List.drop_eq_getElem_cons hil]
    generalize l[i] = x at e hx ⊢
    have := ih (i + 1) (s + x.f1) ((h + x.f0) % 10000000000) (by omega) (by omega) (by omega) (by omega) (by omega)
    refine ⟨Ev.step (fun k => ?_) this.1, Ev.step (fun k => ?_) this.2⟩
    · simp only [lockbox_totals.l0]
      rw [if_pos (by omega), if_pos (by omega), if_pos (by omega), e, wrI (i := s + x.f1) (by omega) (by omega), wrI (i := h + x.f0) (by omega) (by omega), Int.tmod_eq_emod_of_nonneg (by omega), wrN i (by omega)]
    · simp only [arrearsref20_totals.l0]
      rw [if_pos (by omega), if_pos (by omega), e, wrI (i := s + x.f1) (by omega) (by omega), wrI (i := h + x.f0) (by omega) (by omega), Int.tmod_eq_emod_of_nonneg (by omega), wrN i (by omega)]
def itl (i : Nat) (x : S50) : List Int := [68] ++ dec 4 ((i + 1 : Nat) : Int) ++ dec 6 x.f0 ++ dec 1 (DDigits.digitOf x.f0) ++ dec 12 x.f1 ++ [10]
def itls : Nat → List S50 → List Int
  | _, [] => []
  | i, x :: t => itl i x ++ itls (i + 1) t
def trl (l : List S50) : List Int := [84] ++ dec 4 (l.length : Int) ++ dec 16 (tot l 0 0).1 ++ dec 10 (tot l 0 0).2 ++ [10]
def hdl (d n : Int) : List Int := [72] ++ dec 4 (CivilPure.civ d).1 ++ dec 2 (CivilPure.civ d).2.1 ++ dec 2 (CivilPure.civ d).2.2 ++ dec 6 n ++ [10]
def fmt (d n : Int) (l : List S50) : List Int := if hasB d n l then hdl d n ++ itls 0 l ++ trl l else []
theorem digit_range (x : Int) : 0 ≤ DDigits.digitOf x ∧ DDigits.digitOf x ≤ 9 := by
  unfold DDigits.digitOf DDigits.chk
  split <;> omega
theorem itl_length (i : Nat) (x : S50) : (itl i x).length = 25 := by simp [itl, dec_length]
theorem prog_items (dd nn : Int) (l : List S50) (hl : l.length ≤ 9999) (hg : l.all goodB = true) (d : Nat) : ∀ (i : Nat) (acc : List Int), i + d = l.length → acc.length ≤ 100 + 25 * i →
    Ev (fun k => lockbox_Format.l0 k acc l l.length i dd nn l) (acc ++ itls i (l.drop i) ++ trl l, true) := by
  have ht := tot_range l 0 0 hg (by omega) (by omega) (by omega)
  induction d with
  | zero =>
    intro i acc hi ha
    rw [List.drop_of_length_le (by omega), itls, List.append_nil]
    have h1 := (totals_ev l hl hg l.length 0 0 0 (by omega) (by omega) (by omega) (by omega) (by omega)).1
    rw [List.drop_zero] at h1
    have h1' : Ev (fun k => lockbox_totals.f k l) (tot l 0 0) := Ev.congr (fun k => rfl) h1
    have h2 := digits_ev (acc ++ [84]) (l.length : Int) 3 (by omega) (by simp; omega) (by omega) (by simp; omega)
    have h3 := digits_ev (acc ++ [84] ++ dec 4 (l.length : Int)) (tot l 0 0).1 15 (by omega) (by simp; omega) (by omega) (by simp [dec_length]; omega)
    have h4 := digits_ev (acc ++ [84] ++ dec 4 (l.length : Int) ++ dec 16 (tot l 0 0).1) (tot l 0 0).2 9 (by omega) (by simp; omega) (by omega) (by simp [dec_length]; omega)
    refine Ev.step (f := fun k => (lockbox_totals.f k l).bind fun bt165 => (if acc.length < 140737488355328 then ((lockbox_digits.f k (acc ++ [84]) (l.length : Int) 4).bind fun t170 => ((lockbox_digits.f k t170 bt165.1 16).bind fun t173 => ((lockbox_digits.f k t173 bt165.2 10).bind fun t176 => (if t176.length < 140737488355328 then (some ((t176 ++ [10]), true)) else (none))))) else (none))) (fun k => ?_) (Ev.bind h1' ?_)
    · simp only [lockbox_Format.l0]
      rw [if_neg (by omega)]
    · refine Ev.congr (fun k => by rw [if_pos (by omega)]; rfl) (Ev.bind h2 (f := fun k t170 => ((lockbox_digits.f k t170 (tot l 0 0).1 16).bind fun t173 => ((lockbox_digits.f k t173 (tot l 0 0).2 10).bind fun t176 => (if t176.length < 140737488355328 then (some ((t176 ++ [10]), true)) else (none))))) ?_)
      refine Ev.bind h3 (f := fun k t173 => ((lockbox_digits.f k t173 (tot l 0 0).2 10).bind fun t176 => (if t176.length < 140737488355328 then (some ((t176 ++ [10]), true)) else (none)))) ?_
      refine Ev.bind h4 (f := fun _ t176 => (if t176.length < 140737488355328 then (some ((t176 ++ [10]), true)) else (none))) ?_
      refine Ev.congr (fun k => ?_) (Ev.now _)
      rw [if_pos (by simp [dec_length]; omega)]
      simp [trl]
  | succ d ih =>
    intro i acc hi ha
    have hil : i < l.length := by omega
    have hx := of_decide_eq_true (List.all_eq_true.1 hg _ (List.getElem_mem hil))
    have e := rd_nat l i hil
    rw [List.drop_eq_getElem_cons hil, itls]
    generalize l[i] = x at e hx ⊢
    have hdr := digit_range x.f0
    have h1 := digits_ev (acc ++ [68]) ((i + 1 : Nat) : Int) 3 (by omega) (by simp; omega) (by omega) (by simp; omega)
    have h2 := digits_ev (acc ++ [68] ++ dec 4 ((i + 1 : Nat) : Int)) x.f0 5 (by omega) (by simp; omega) (by omega) (by simp [dec_length]; omega)
    have h3 := digits_ev (acc ++ [68] ++ dec 4 ((i + 1 : Nat) : Int) ++ dec 6 x.f0) (DDigits.digitOf x.f0) 0 (by omega) (by simp; omega) (by omega) (by simp [dec_length]; omega)
    have h4 := digits_ev (acc ++ [68] ++ dec 4 ((i + 1 : Nat) : Int) ++ dec 6 x.f0 ++ dec 1 (DDigits.digitOf x.f0)) x.f1 11 (by omega) (by simp; omega) (by omega) (by simp [dec_length]; omega)
    have h := ih (i + 1) (acc ++ itl i x) (by omega) (by rw [List.length_append, itl_length]; omega)
    rw [← List.append_assoc]
    refine Ev.step (f := fun k => ((lockbox_digits.f k (acc ++ [68]) ((i + 1 : Nat) : Int) 4).bind fun t150 => ((lockbox_digits.f k t150 x.f0 6).bind fun t153 => ((lockbox_digits.f k t153 (DDigits.digitOf x.f0) 1).bind fun t156 => ((lockbox_digits.f k t156 x.f1 12).bind fun t159 => (if t159.length < 140737488355328 then (lockbox_Format.l0 k (t159 ++ [10]) l l.length ((i + 1 : Nat) : Int) dd nn l) else (none))))))) (fun k => ?_) (Ev.bind h1 ?_)
    · simp only [lockbox_Format.l0]
      rw [if_pos (by omega), if_pos (by omega), if_pos (by omega), e, wrN i (by omega)]
      unfold lockbox_CheckDigit.f
      simp only [Option.bind_some]
      rw [if_pos (by omega)]
    · refine Ev.bind h2 (f := fun k t153 => ((lockbox_digits.f k t153 (DDigits.digitOf x.f0) 1).bind fun t156 => ((lockbox_digits.f k t156 x.f1 12).bind fun t159 => (if t159.length < 140737488355328 then (lockbox_Format.l0 k (t159 ++ [10]) l l.length ((i + 1 : Nat) : Int) dd nn l) else (none))))) ?_
      refine Ev.bind h3 (f := fun k t156 => ((lockbox_digits.f k t156 x.f1 12).bind fun t159 => (if t159.length < 140737488355328 then (lockbox_Format.l0 k (t159 ++ [10]) l l.length ((i + 1 : Nat) : Int) dd nn l) else (none)))) ?_
      refine Ev.bind h4 (f := fun k t159 => (if t159.length < 140737488355328 then (lockbox_Format.l0 k (t159 ++ [10]) l l.length ((i + 1 : Nat) : Int) dd nn l) else (none))) ?_
      refine Ev.congr (fun k => ?_) h
      rw [if_pos (by simp [dec_length]; omega)]
      simp [itl]
theorem civ_range {d : Int} (h : 1 ≤ d ∧ d ≤ 3652059) : 1 ≤ (CivilPure.civ d).1 ∧ (CivilPure.civ d).1 ≤ 9999 ∧ 1 ≤ (CivilPure.civ d).2.1 ∧ (CivilPure.civ d).2.1 ≤ 12 ∧ 1 ≤ (CivilPure.civ d).2.2 ∧ (CivilPure.civ d).2.2 ≤ 31 := by
  have hd := CivilPure.civ_date h
  have hm := Cal.mlen_range (CivilPure.civ d).1 (CivilPure.civ d).2.1
  have := hd.d2
  exact ⟨hd.y1, hd.y2, hd.m1, hd.m2, hd.d1, by omega⟩
theorem format_ev (d n : Int) (l : List S50) (hl : l.length ≤ 100000) : Ev (fun k => lockbox_Format.f k d n l) (fmt d n l, hasB d n l) := by
  have h0 := has_ev d n l hl
  refine Ev.congr (fun k => rfl) (Ev.bind h0 (f := fun k t119 => (if t119 = true then ((calendar_Civil.f d).bind fun bt120 => ((lockbox_digits.f k (([72] : List Int)) bt120.1 4).bind fun t128 => ((lockbox_digits.f k t128 bt120.2.1 2).bind fun t131 => ((lockbox_digits.f k t131 bt120.2.2.1 2).bind fun t134 => ((lockbox_digits.f k t134 n 6).bind fun t137 => (if t137.length < 140737488355328 then (lockbox_Format.l0 k (t137 ++ [10]) l (l.length : Int) 0 d n l) else (none))))))) else (some (([] : List Int), false)))) ?_)
  unfold fmt
  cases hb : hasB d n l with
  | false => exact Ev.congr (fun k => by rw [if_neg (by simp)]; rfl) (Ev.now _)
  | true =>
    unfold hasB at hb
    rw [Bool.and_eq_true] at hb
    have hc := of_decide_eq_true hb.1
    have hcv := civ_range (d := d) ⟨by omega, by omega⟩
    generalize hC : CivilPure.civ d = cv at hcv
    have h1 := digits_ev [72] cv.1 3 (by omega) (by simp; omega) (by omega) (by simp)
    have h2 := digits_ev ([72] ++ dec 4 cv.1) cv.2.1 1 (by omega) (by simp; omega) (by omega) (by simp [dec_length])
    have h3 := digits_ev ([72] ++ dec 4 cv.1 ++ dec 2 cv.2.1) cv.2.2 1 (by omega) (by simp; omega) (by omega) (by simp [dec_length])
    have h4 := digits_ev ([72] ++ dec 4 cv.1 ++ dec 2 cv.2.1 ++ dec 2 cv.2.2) n 5 (by omega) (by simp; omega) (by omega) (by simp [dec_length])
    have h5 := prog_items d n l (by omega) hb.2 l.length 0 (hdl d n) (by omega) (by simp [hdl, dec_length])
    rw [List.drop_zero] at h5
    refine Ev.congr (f := fun k => ((lockbox_digits.f k (([72] : List Int)) cv.1 4).bind fun t128 => ((lockbox_digits.f k t128 cv.2.1 2).bind fun t131 => ((lockbox_digits.f k t131 cv.2.2 2).bind fun t134 => ((lockbox_digits.f k t134 n 6).bind fun t137 => (if t137.length < 140737488355328 then (lockbox_Format.l0 k (t137 ++ [10]) l (l.length : Int) 0 d n l) else (none))))))) (fun k => ?_) (Ev.bind h1 ?_)
    · rw [if_pos rfl]
      unfold calendar_Civil.f
      rw [hC]
      simp only [Option.bind_some]
    · refine Ev.bind h2 (f := fun k t131 => ((lockbox_digits.f k t131 cv.2.2 2).bind fun t134 => ((lockbox_digits.f k t134 n 6).bind fun t137 => (if t137.length < 140737488355328 then (lockbox_Format.l0 k (t137 ++ [10]) l (l.length : Int) 0 d n l) else (none))))) ?_
      refine Ev.bind h3 (f := fun k t134 => ((lockbox_digits.f k t134 n 6).bind fun t137 => (if t137.length < 140737488355328 then (lockbox_Format.l0 k (t137 ++ [10]) l (l.length : Int) 0 d n l) else (none)))) ?_
      refine Ev.bind h4 (f := fun k t137 => (if t137.length < 140737488355328 then (lockbox_Format.l0 k (t137 ++ [10]) l (l.length : Int) 0 d n l) else (none))) ?_
      rw [if_pos rfl]
      refine Ev.congr (fun k => ?_) h5
      rw [if_pos (by simp [dec_length])]
      unfold hdl
      rw [hC]; rfl
theorem own_f (d n : Int) (l : List S50) (hl : l.length ≤ 100000) : arrearslaw20_own.f d n l = some (d, n, l) := by
  unfold arrearslaw20_own.f
  rw [if_pos (by simp; omega)]; rfl
theorem itls_length : ∀ (i : Nat) (l : List S50), (itls i l).length = 25 * l.length
  | _, [] => rfl
  | i, x :: t => by rw [itls, List.length_append, itl_length, itls_length (i + 1) t, List.length_cons]; omega
theorem fmt_length (d n : Int) (l : List S50) : (fmt d n l).length ≤ 100 + 25 * l.length := by
  unfold fmt; split
  · simp [hdl, trl, dec_length, itls_length]; omega
  · simp
end Go.Proofs.YtkjdmbbaacjpmaaDoor.FmtR
end
section
namespace Go.Proofs.YtkjdmbbaacjpmaaDoor.R
open Go.RowKit Go.Proofs.YtkjdmbbaacjpmaaDoorW.PrintWords Go.Proofs.YtkjdmbbaacjpmaaDoorW.PrintLast Go.Proofs.YtkjdmbbaacjpmaaDoorW.PrintMore
attribute [local go_sem] max2_int min2_int max_two min_two max_three min_three max_four min_four
set_option linter.unusedVariables false
set_option linter.unusedSimpArgs false
end Go.Proofs.YtkjdmbbaacjpmaaDoor.R
end
section
namespace Go.Proofs.YtkjdmbbaacjpmaaDoor.R
open Go.RowKit Go.Proofs.YtkjdmbbaacjpmaaDoorW.PrintWords Go.Proofs.YtkjdmbbaacjpmaaDoorW.PrintLast Go.Proofs.YtkjdmbbaacjpmaaDoorW.PrintMore
attribute [local go_sem] max2_int min2_int max_two min_two max_three min_three max_four min_four
set_option linter.unusedVariables false
set_option linter.unusedSimpArgs false
end Go.Proofs.YtkjdmbbaacjpmaaDoor.R
end
section
namespace Go.Proofs.YtkjdmbbaacjpmaaDoor.R
open Go.RowKit Go.Proofs.YtkjdmbbaacjpmaaDoorW.PrintWords Go.Proofs.YtkjdmbbaacjpmaaDoorW.PrintLast Go.Proofs.YtkjdmbbaacjpmaaDoorW.PrintMore
attribute [local go_sem] max2_int min2_int max_two min_two max_three min_three max_four min_four
set_option linter.unusedVariables false
set_option linter.unusedSimpArgs false
end Go.Proofs.YtkjdmbbaacjpmaaDoor.R
end
section
namespace Go.Proofs.YtkjdmbbaacjpmaaDoor.R
open Go.RowKit Go.Proofs.YtkjdmbbaacjpmaaDoorW.PrintWords Go.Proofs.YtkjdmbbaacjpmaaDoorW.PrintLast Go.Proofs.YtkjdmbbaacjpmaaDoorW.PrintMore
attribute [local go_sem] max2_int min2_int max_two min_two max_three min_three max_four min_four
set_option linter.unusedVariables false
set_option linter.unusedSimpArgs false
end Go.Proofs.YtkjdmbbaacjpmaaDoor.R
end
section
namespace Go.Proofs.YtkjdmbbaacjpmaaDoor.R
open Go.RowKit Go.Proofs.YtkjdmbbaacjpmaaDoorW.PrintWords Go.Proofs.YtkjdmbbaacjpmaaDoorW.PrintLast Go.Proofs.YtkjdmbbaacjpmaaDoorW.PrintMore
attribute [local go_sem] max2_int min2_int max_two min_two max_three min_three max_four min_four
set_option linter.unusedVariables false
set_option linter.unusedSimpArgs false
end Go.Proofs.YtkjdmbbaacjpmaaDoor.R
end
section
namespace Go.Proofs.YtkjdmbbaacjpmaaDoor.R
open Go.RowKit Go.Proofs.YtkjdmbbaacjpmaaDoorW.PrintWords Go.Proofs.YtkjdmbbaacjpmaaDoorW.PrintLast Go.Proofs.YtkjdmbbaacjpmaaDoorW.PrintMore
attribute [local go_sem] max2_int min2_int max_two min_two max_three min_three max_four min_four
set_option linter.unusedVariables false
set_option linter.unusedSimpArgs false
end Go.Proofs.YtkjdmbbaacjpmaaDoor.R
end
section
namespace Go.Proofs.YtkjdmbbaacjpmaaDoor.R
open Go.RowKit Go.Proofs.YtkjdmbbaacjpmaaDoorW.PrintWords Go.Proofs.YtkjdmbbaacjpmaaDoorW.PrintLast Go.Proofs.YtkjdmbbaacjpmaaDoorW.PrintMore
attribute [local go_sem] max2_int min2_int max_two min_two max_three min_three max_four min_four
set_option linter.unusedVariables false
set_option linter.unusedSimpArgs false
end Go.Proofs.YtkjdmbbaacjpmaaDoor.R
end
section
namespace Go.Proofs.YtkjdmbbaacjpmaaDoor.R
open Go.RowKit Go.Proofs.YtkjdmbbaacjpmaaDoorW.PrintWords Go.Proofs.YtkjdmbbaacjpmaaDoorW.PrintLast Go.Proofs.YtkjdmbbaacjpmaaDoorW.PrintMore
attribute [local go_sem] max2_int min2_int max_two min_two max_three min_three max_four min_four
set_option linter.unusedVariables false
set_option linter.unusedSimpArgs false
end Go.Proofs.YtkjdmbbaacjpmaaDoor.R
end
section
namespace Go.Proofs.YtkjdmbbaacjpmaaDoor.R
open Go.RowKit Go.Proofs.YtkjdmbbaacjpmaaDoorW.PrintWords Go.Proofs.YtkjdmbbaacjpmaaDoorW.PrintLast Go.Proofs.YtkjdmbbaacjpmaaDoorW.PrintMore
attribute [local go_sem] max2_int min2_int max_two min_two max_three min_three max_four min_four
set_option linter.unusedVariables false
set_option linter.unusedSimpArgs false
end Go.Proofs.YtkjdmbbaacjpmaaDoor.R
end
section
namespace Go.Proofs.YtkjdmbbaacjpmaaDoor.R
open Go.RowKit Go.Proofs.YtkjdmbbaacjpmaaDoorW.PrintWords Go.Proofs.YtkjdmbbaacjpmaaDoorW.PrintLast Go.Proofs.YtkjdmbbaacjpmaaDoorW.PrintMore
attribute [local go_sem] max2_int min2_int max_two min_two max_three min_three max_four min_four
set_option linter.unusedVariables false
set_option linter.unusedSimpArgs false
end Go.Proofs.YtkjdmbbaacjpmaaDoor.R
end
section
namespace Go.Proofs.YtkjdmbbaacjpmaaDoor.R
open Go.RowKit Go.Proofs.YtkjdmbbaacjpmaaDoorW.PrintWords Go.Proofs.YtkjdmbbaacjpmaaDoorW.PrintLast Go.Proofs.YtkjdmbbaacjpmaaDoorW.PrintMore
attribute [local go_sem] max2_int min2_int max_two min_two max_three min_three max_four min_four
set_option linter.unusedVariables false
set_option linter.unusedSimpArgs false
end Go.Proofs.YtkjdmbbaacjpmaaDoor.R
end
section
namespace Go.Proofs.YtkjdmbbaacjpmaaDoor.R
open Go.RowKit Go.Proofs.YtkjdmbbaacjpmaaDoorW.PrintWords Go.Proofs.YtkjdmbbaacjpmaaDoorW.PrintLast Go.Proofs.YtkjdmbbaacjpmaaDoorW.PrintMore
attribute [local go_sem] max2_int min2_int max_two min_two max_three min_three max_four min_four
set_option linter.unusedVariables false
set_option linter.unusedSimpArgs false
end Go.Proofs.YtkjdmbbaacjpmaaDoor.R
end
section
namespace Go.Proofs
open Go.Shelf
def Tryd.laysC174_ren : Go.Shelf.Ren := ⟨fun | 174 => 77 | 247 => 84 | 245 => 85 | 287 => 88 | 279 => 89 | 280 => 90 | 281 => 91 | 282 => 92 | 321 => 93 | 322 => 94 | 316 => 95 | 171 => 28 | 205 => 96 | 243 => 45 | 246 => 61 | 283 => 71 | 284 => 72 | 285 => 73 | 286 => 74 | 129 => 79 | 317 => 78 | 318 => 80 | 319 => 81 | 320 => 82 | 337 => 86 | 338 => 87 | n => n, fun | 9 => 9 | 3 => 3 | 2 => 2 | 75 => 69 | 85 => 139 | 4 => 4 | 167 => 149 | 5 => 5 | 53 => 133 | 175 => 150 | 46 => 145 | 168 => 152 | 37 => 26 | 0 => 0 | 210 => 160 | 21 => 21 | 127 => 162 | 145 => 165 | 143 => 163 | 171 => 132 | 173 => 136 | 212 => 142 | 51 => 143 | 20 => 20 | 213 => 144 | 232 => 155 | 233 => 156 | 80 => 166 | n => n, fun | 15 => 6 | 16 => 7 | 17 => 2 | 18 => 4 | 19 => 5 | n => n⟩
theorem Tryd.laysC174 : Go.Proofs.LaysC.n174 Tryd.prog Tryd.laysC174_ren := {
  mixed := by kernel_rfl
  f129 := Tryd.func79.trans (congrArg some (by kernel_rfl))
  f171 := Tryd.func28.trans (congrArg some (by kernel_rfl))
  f174 := Tryd.func77.trans (congrArg some (by kernel_rfl))
  f205 := Tryd.func96.trans (congrArg some (by kernel_rfl))
  f243 := Tryd.func45.trans (congrArg some (by kernel_rfl))
  f245 := Tryd.func85.trans (congrArg some (by kernel_rfl))
  f246 := Tryd.func61.trans (congrArg some (by kernel_rfl))
  f247 := Tryd.func84.trans (congrArg some (by kernel_rfl))
  f279 := Tryd.func89.trans (congrArg some (by kernel_rfl))
  f280 := Tryd.func90.trans (congrArg some (by kernel_rfl))
  f281 := Tryd.func91.trans (congrArg some (by kernel_rfl))
  f282 := Tryd.func92.trans (congrArg some (by kernel_rfl))
  f283 := Tryd.func71.trans (congrArg some (by kernel_rfl))
  f284 := Tryd.func72.trans (congrArg some (by kernel_rfl))
  f285 := Tryd.func73.trans (congrArg some (by kernel_rfl))
  f286 := Tryd.func74.trans (congrArg some (by kernel_rfl))
  f287 := Tryd.func88.trans (congrArg some (by kernel_rfl))
  f316 := Tryd.func95.trans (congrArg some (by kernel_rfl))
  f317 := Tryd.func78.trans (congrArg some (by kernel_rfl))
  f318 := Tryd.func80.trans (congrArg some (by kernel_rfl))
  f319 := Tryd.func81.trans (congrArg some (by kernel_rfl))
  f320 := Tryd.func82.trans (congrArg some (by kernel_rfl))
  f321 := Tryd.func93.trans (congrArg some (by kernel_rfl))
  f322 := Tryd.func94.trans (congrArg some (by kernel_rfl))
  f337 := Tryd.func86.trans (congrArg some (by kernel_rfl))
  f338 := Tryd.func87.trans (congrArg some (by kernel_rfl))
  t0 := Tryd.underlying0
  a0 := Tryd.isAgg0
  z0 := Tryd.sizeOf0
  v0 := Tryd.zeroValue0
  t2 := Tryd.underlying2
  a2 := Tryd.isAgg2
  z2 := Tryd.sizeOf2
  v2 := Tryd.zeroValue2
  t3 := Tryd.underlying3
  a3 := Tryd.isAgg3
  z3 := Tryd.sizeOf3
  v3 := Tryd.zeroValue3
  t4 := Tryd.underlying4
  a4 := Tryd.isAgg4
  z4 := Tryd.sizeOf4
  v4 := Tryd.zeroValue4
  t5 := Tryd.underlying5
  a5 := Tryd.isAgg5
  z5 := Tryd.sizeOf5
  v5 := Tryd.zeroValue5
  t9 := Tryd.underlying9
  a9 := Tryd.isAgg9
  z9 := Tryd.sizeOf9
  v9 := Tryd.zeroValue9
  t20 := Tryd.underlying20
  a20 := Tryd.isAgg20
  z20 := Tryd.sizeOf20
  v20 := Tryd.zeroValue20
  t21 := Tryd.underlying21
  a21 := Tryd.isAgg21
  z21 := Tryd.sizeOf21
  v21 := Tryd.zeroValue21
  t37 := Tryd.underlying26
  a37 := Tryd.isAgg26
  z37 := Tryd.sizeOf26
  v37 := Tryd.zeroValue26
  t46 := Tryd.underlying145
  a46 := Tryd.isAgg145
  z46 := Tryd.sizeOf145
  v46 := Tryd.zeroValue145
  t51 := Tryd.underlying143
  a51 := Tryd.isAgg143
  z51 := Tryd.sizeOf143
  v51 := Tryd.zeroValue143
  t53 := Tryd.underlying133
  a53 := Tryd.isAgg133
  z53 := Tryd.sizeOf133
  v53 := Tryd.zeroValue133
  t75 := Tryd.underlying69
  a75 := Tryd.isAgg69
  z75 := Tryd.sizeOf69
  v75 := Tryd.zeroValue69
  t85 := Tryd.underlying139
  a85 := Tryd.isAgg139
  z85 := Tryd.sizeOf139
  v85 := Tryd.zeroValue139
  t127 := Tryd.underlying162
  a127 := Tryd.isAgg162
  z127 := Tryd.sizeOf162
  v127 := Tryd.zeroValue162
  t143 := Tryd.underlying163
  a143 := Tryd.isAgg163
  z143 := Tryd.sizeOf163
  v143 := Tryd.zeroValue163
  t145 := Tryd.underlying165
  a145 := Tryd.isAgg165
  z145 := Tryd.sizeOf165
  v145 := Tryd.zeroValue165
  t167 := Tryd.underlying149
  a167 := Tryd.isAgg149
  z167 := Tryd.sizeOf149
  v167 := Tryd.zeroValue149
  t168 := Tryd.underlying152
  a168 := Tryd.isAgg152
  z168 := Tryd.sizeOf152
  v168 := Tryd.zeroValue152
  t171 := Tryd.underlying132
  a171 := Tryd.isAgg132
  z171 := Tryd.sizeOf132
  v171 := Tryd.zeroValue132
  t173 := Tryd.underlying136
  a173 := Tryd.isAgg136
  z173 := Tryd.sizeOf136
  v173 := Tryd.zeroValue136
  t175 := Tryd.underlying150
  a175 := Tryd.isAgg150
  z175 := Tryd.sizeOf150
  v175 := Tryd.zeroValue150
  t210 := Tryd.underlying160
  a210 := Tryd.isAgg160
  z210 := Tryd.sizeOf160
  v210 := Tryd.zeroValue160
  t212 := Tryd.underlying142
  a212 := Tryd.isAgg142
  z212 := Tryd.sizeOf142
  v212 := Tryd.zeroValue142
  t213 := Tryd.underlying144
  a213 := Tryd.isAgg144
  z213 := Tryd.sizeOf144
  t232 := Tryd.underlying155
  a232 := Tryd.isAgg155
  z232 := Tryd.sizeOf155
  v232 := Tryd.zeroValue155
  t233 := Tryd.underlying156
  a233 := Tryd.isAgg156
  z233 := Tryd.sizeOf156
  v233 := Tryd.zeroValue156
  g15 := by kernel_rfl
  g16 := by kernel_rfl
  g17 := by kernel_rfl
  g18 := by kernel_rfl
  g19 := by kernel_rfl
  t80 := Tryd.underlying166
  a80 := Tryd.isAgg166
  z80 := Tryd.sizeOf166
  v80 := Tryd.zeroValue166
  i0 := by kernel_rfl
  i2 := by kernel_rfl
  i3 := by kernel_rfl
  i4 := by kernel_rfl
  i5 := by kernel_rfl
  i9 := by kernel_rfl
  i20 := by kernel_rfl
  i21 := by kernel_rfl
  i37 := by kernel_rfl
  i46 := by kernel_rfl
  i51 := by kernel_rfl
  i53 := by kernel_rfl
  i75 := by kernel_rfl
  i80 := by kernel_rfl
  i85 := by kernel_rfl
  i127 := by kernel_rfl
  i143 := by kernel_rfl
  i145 := by kernel_rfl
  i167 := by kernel_rfl
  i168 := by kernel_rfl
  i171 := by kernel_rfl
  i173 := by kernel_rfl
  i175 := by kernel_rfl
  i210 := by kernel_rfl
  i212 := by kernel_rfl
  i232 := by kernel_rfl
  i233 := by kernel_rfl
  m15 := by kernel_rfl
  m16 := by kernel_rfl
  m17 := by kernel_rfl
  m18 := by kernel_rfl
  m19 := by kernel_rfl
  c0 := by kernel_rfl
  c2 := by kernel_rfl
  c3 := by kernel_rfl
  c4 := by kernel_rfl
  c5 := by kernel_rfl
  c9 := by kernel_rfl
  c20 := by kernel_rfl
  c21 := by kernel_rfl
  c37 := by kernel_rfl
  c46 := by kernel_rfl
  c51 := by kernel_rfl
  c53 := by kernel_rfl
  c75 := by kernel_rfl
  c80 := by kernel_rfl
  c85 := by kernel_rfl
  c127 := by kernel_rfl
  c143 := by kernel_rfl
  c145 := by kernel_rfl
  c167 := by kernel_rfl
  c168 := by kernel_rfl
  c171 := by kernel_rfl
  c173 := by kernel_rfl
  c175 := by kernel_rfl
  c210 := by kernel_rfl
  c212 := by kernel_rfl
  c213 := by kernel_rfl
  c232 := by kernel_rfl
  c233 := by kernel_rfl }
open Go.RowKit in
theorem Tryd.strconv_ParseInt_10_at64_ok (s : ByteArray) (hmax : s.size ≤ 9223372036854775806) (v : Int) (h : Lib.parseIntB 64 s.data.toList = .ok v) (w : World) :
    Calls Tryd.prog 77 #[.string s, .int .i64 10, .int .i64 64] w fun e w' => e = .returned (.tuple #[.int .i64 v, .nilIface]) ∧ (w' = w ∨ ∃ t, w' = Lib.bytesWorld w 5 t) := Any.strconv_ParseInt_10_at64_ok Tryd.laysC174 s hmax v h w
end Go.Proofs
end
section
namespace Go.Proofs.YtkjdmbbaacjpmaaDoor.Scan
def Byt (xs : List Int) : Prop := ∀ x ∈ xs, 0 ≤ x ∧ x ≤ 255
def eol : List Int → Nat
  | [] => 0
  | x :: t => if x = 10 then 0 else eol t + 1
theorem eol_le : ∀ xs : List Int, eol xs ≤ xs.length
  | [] => by simp [eol]
  | x :: t => by have := eol_le t; simp only [eol, List.length_cons]; split <;> omega
theorem byte_eq {x : Int} (h : 0 ≤ x ∧ x ≤ 255) : (UInt8.ofNat x.toNat == (10 : Int).toNat.toUInt8) = decide (x = 10) := by
  obtain ⟨m, rfl⟩ : ∃ m : Nat, x = m := ⟨x.toNat, by omega⟩
  have hm : m ≤ 255 := by omega
  rw [Bool.eq_iff_iff]
  simp only [Int.toNat_natCast, beq_iff_eq, decide_eq_true_eq]
  rw [← UInt8.toNat_inj]
  have e1 : (UInt8.ofNat m).toNat = m := by rw [UInt8.toNat_ofNat']; omega
  have e2 : ((10 : Int).toNat.toUInt8).toNat = 10 := by decide
  rw [e1, e2]; omega
theorem indexByte_eol : ∀ xs : List Int, Byt xs →
    Lib.indexByte (Lib.bytesOf xs) (10 : Int).toNat.toUInt8 = if eol xs < xs.length then (eol xs : Int) else -1
  | [], _ => by simp [Lib.bytesOf, Lib.indexByte, eol]
  | x :: t, h => by
    have ih := indexByte_eol t (fun y hy => h y (by simp [hy]))
    have hx := byte_eq (h x (by simp))
    have hl := eol_le t
    simp only [Lib.bytesOf, List.map_cons, Lib.indexByte] at ih ⊢
    rw [hx]
    by_cases h10 : x = 10
    · simp [h10, eol]
    · have ed : decide (x = 10) = false := decide_eq_false h10
      rw [ed]
      simp only [eol, if_neg h10, List.length_cons, Bool.false_eq_true, if_false]
      by_cases hlt : eol t < t.length
      · rw [if_pos hlt] at ih
        have e2 : ((eol t : Int) == -1) = false := by rw [beq_eq_false_iff_ne]; omega
        rw [ih, e2, if_pos (show eol t + 1 < t.length + 1 by omega)]
        simp only [Bool.false_eq_true, if_false]; omega
      · rw [if_neg hlt] at ih
        rw [ih, if_neg (show ¬ eol t + 1 < t.length + 1 by omega)]
        rfl
def isDig (c : Int) : Bool := decide (48 ≤ c ∧ c ≤ 57)
def lineOk (t : List Int) (letter : Int) (n : Nat) : Bool := decide (t.length = n + 1) && (t.head? == some letter) && (t.drop 1).all isDig
def nextP (xs : List Int) (letter : Int) (n : Nat) : Option (List Int × List Int) :=
  if eol xs < xs.length ∧ lineOk (xs.take (eol xs)) letter n = true then some (xs.take (eol xs), xs.drop (eol xs + 1)) else none
def valFrom : Int → List Int → Int
  | a, [] => a
  | a, d :: t => valFrom (10 * a + (d - 48)) t
def fieldP (t : List Int) (at_ n : Nat) : Int := valFrom 0 ((t.drop at_).take n)
theorem valFrom_range : ∀ (l : List Int) (a : Int), 0 ≤ a → l.all isDig = true → 0 ≤ valFrom a l ∧ valFrom a l < (a + 1) * 10 ^ l.length
  | [], a, h, _ => by simp [valFrom]; omega
  | d :: t, a, h, hd => by
    simp only [List.all_cons, Bool.and_eq_true, isDig, decide_eq_true_eq] at hd
    have ih := valFrom_range t (10 * a + (d - 48)) (by omega) hd.2
    refine ⟨ih.1, Int.lt_of_lt_of_le ih.2 ?_⟩
    rw [List.length_cons, Int.pow_succ, Int.mul_comm (10 ^ t.length) 10, ← Int.mul_assoc]
    exact Int.mul_le_mul_of_nonneg_right (by omega) (Int.pow_nonneg (by omega))
theorem parseM_digits : ∀ (l : List Int) (a : Nat), l.all isDig = true → (a + 1) * 10 ^ l.length ≤ 1000000000000000000 →
    Lib.parseUintM (2 ^ 64 - 1) a (Lib.bytesOf l) = .ok (valFrom a l).toNat
  | [], a, _, _ => by simp [Lib.bytesOf, Lib.parseUintM, valFrom]
  | d :: t, a, hd, hb => by
    simp only [List.all_cons, Bool.and_eq_true, isDig, decide_eq_true_eq] at hd
    obtain ⟨m, rfl⟩ : ∃ m : Nat, d = m := ⟨d.toNat, by omega⟩
    have hm : 48 ≤ m ∧ m ≤ 57 := by omega
    have e1 : (UInt8.ofNat m).toNat = m := by rw [UInt8.toNat_ofNat']; omega
    rw [List.length_cons, Nat.pow_succ, Nat.mul_comm (10 ^ t.length) 10, ← Nat.mul_assoc] at hb
    have hp : 1 ≤ 10 ^ t.length := Nat.one_le_pow _ _ (by omega)
    have hq : (a + 1) * 10 ≤ 1000000000000000000 := by
      calc (a + 1) * 10 = (a + 1) * 10 * 1 := by omega
        _ ≤ (a + 1) * 10 * 10 ^ t.length := Nat.mul_le_mul_left _ hp
        _ ≤ _ := hb
    have ih := parseM_digits t (a * 10 + (m - 48)) hd.2 (Nat.le_trans (Nat.mul_le_mul_right _ (by omega)) hb)
    simp only [Lib.bytesOf, List.map_cons, Int.toNat_natCast, Lib.parseUintM] at ih ⊢
    rw [e1, if_pos hm, if_neg (by omega), if_neg (by omega), ih]
    have e3 : ((a * 10 + (m - 48) : Nat) : Int) = 10 * (a : Int) + ((m : Int) - 48) := by omega
    rw [e3]; rfl
theorem parse_digits (l : List Int) (hne : l ≠ []) (hd : l.all isDig = true) (hl : l.length ≤ 18) :
    Lib.parseIntB 64 (Lib.bytesOf l) = .ok (valFrom 0 l) := by
  have hp : (0 + 1) * 10 ^ l.length ≤ 1000000000000000000 := by
    have := Nat.pow_le_pow_right (n := 10) (by omega) hl
    omega
  have h := parseM_digits l 0 hd hp
  have hr := valFrom_range l 0 (by omega) hd
  have hlt : valFrom 0 l < 1000000000000000000 := by
    have e : ((0 : Int) + 1) * 10 ^ l.length = (((0 + 1) * 10 ^ l.length : Nat) : Int) := by simp
    rw [e] at hr; omega
  match l, hne with
  | d :: t, _ =>
    simp only [List.all_cons, Bool.and_eq_true, isDig, decide_eq_true_eq] at hd
    obtain ⟨m, rfl⟩ : ∃ m : Nat, d = m := ⟨d.toNat, by omega⟩
    have e1 : (UInt8.ofNat m).toNat = m := by rw [UInt8.toNat_ofNat']; omega
    have hu : Lib.parseUintB 64 (Lib.bytesOf ((m : Int) :: t)) = .ok (valFrom 0 ((m : Int) :: t)).toNat := by
      unfold Lib.parseUintB; rw [if_neg (by simp [Lib.bytesOf])]; exact h
    simp only [Lib.bytesOf, List.map_cons, Int.toNat_natCast] at hu ⊢
    simp only [Lib.parseIntB]
    rw [e1, if_neg (by omega), hu]
    have hn : ¬ m = 45 := by omega
    simp only [hn, not_false_eq_true, true_and, false_and, if_false]
    rw [if_neg (by omega)]
    congr 1; omega
end Go.Proofs.YtkjdmbbaacjpmaaDoor.Scan
end
section
namespace Go.Proofs.YtkjdmbbaacjpmaaDoor.Reader
open Go.RowKit Go.Proofs.YtkjdmbbaacjpmaaDoor.Scan Go.Proofs.YtkjdmbbaacjpmaaDoorW.PrintWords Go.Proofs.YtkjdmbbaacjpmaaDoorW.PrintLast
structure At (w : World) (A : Option Addr) (c : Nat) (xs : List Int) : Prop where
  cap : xs.length ≤ c
  big : xs.length ≤ 140737488351232
  byt : Byt xs
  C : Kd.C (Kd.int .u8) w A xs.length xs
  adr : A = none ∧ c = 0 ∨ ∃ b o, A = some ⟨b, o, none⟩
theorem indexByte_calls (A : Option Addr) (c : Nat) (xs : List Int) (w : World) (h : At w A c xs) :
    Calls Tryd.prog 75 #[.slice A xs.length c, .int .u8 10] w fun e w' => e = .returned (.int .i64 (if eol xs < xs.length then (eol xs : Int) else -1)) ∧ w' = w := by
  rcases h.adr with ⟨rfl, rfl⟩ | ⟨b, o, rfl⟩
  · have h0 : xs = [] := List.eq_nil_of_length_eq_zero (by have := h.cap; omega)
    subst h0
    exact Tryd.bytes_IndexByte_nil 10 w
  · refine (Tryd.bytes_IndexByte b o xs.length c xs 10 w rfl ?_).mono ?_
    · intro i hi
      obtain ⟨_, _, hr⟩ := Kd.reads_of_C (enc := Value.int .u8) (d := (0 : Int)) (h1 := fun _ => rfl) h.C
      obtain ⟨ad, had, hc⟩ := hr (by omega)
      obtain rfl := Option.some.inj had
      have hci := hc i hi
      unfold Addr.add at hci
      split at hci
      · next h0 => subst h0; exact hci
      · exact hci
    · rintro e w' ⟨rfl, rfl⟩
      rw [indexByte_eol xs h.byt]
      exact ⟨rfl, rfl⟩
theorem At.frame {A : Option Addr} {c : Nat} {xs : List Int} {w w' : World} (h : At w A c xs) (hb : Below w.heap.size w w') : At w' A c xs :=
  ⟨h.cap, h.big, h.byt, Kd.C_below h.C hb, h.adr⟩
set_option maxRecDepth 100000 in
theorem next_none (sb : Nat) (A : Option Addr) (c : Nat) (xs : List Int) (letter n : Int) (w : World) (h : At w A c xs) (hs : w.cell? ⟨sb, 0, none⟩ = some (.slice A xs.length c)) (he : ¬ eol xs < xs.length) :
    Calls Tryd.prog 64 #[.pointer (some ⟨sb, 0, none⟩), .int .u8 letter, .int .i64 n] w fun e w' => e = .returned (.tuple #[.string ⟨#[]⟩, .iface 73 (.int .i64 200)]) ∧ w' = w := by
  have hi := indexByte_calls A c xs w h
  rw [if_neg he] at hi
  go_enter Tryd.func64, Tryd.ntmps64
  go_wp2_with (first | (go_at_call 75; refine hi.mono ?_; rintro e w' ⟨rfl, rfl⟩))
  go_ret2
  exact ⟨rfl, rfl⟩
theorem bytesOf_str : ∀ (l : List Int), (∀ x ∈ l, 0 ≤ x ∧ x ≤ 255) → bytesOf (strOfNums l) = l := by
  intro l h
  unfold bytesOf
  rw [strOfNums_data, List.map_map]
  conv => rhs; rw [← List.map_id l]
  refine List.map_congr_left fun x hx => ?_
  have := h x hx
  simp [UInt8.toNat_ofNat']
  omega
theorem wrI {x : Int} (h : -9223372036854775808 ≤ x ∧ x ≤ 9223372036854775807) : wrap64 x = x := by unfold wrap64; omega
theorem i5_ : ∃ i : TypeInfo, Tryd.prog.info? 5 = some i ∧ i.zero = some (.int .u8 0) ∧ i.size = 1 := by
  have h := D.info5
  obtain ⟨i, hi, hz⟩ := Option.map_eq_some_iff.1 h
  simp only [Prod.mk.injEq] at hz
  exact ⟨i, hi, hz.1, hz.2.1⟩
open Go.Proofs.YtkjdmbbaacjpmaaDoor.D Go.Proofs.YtkjdmbbaacjpmaaDoor.DDigits in
theorem allDigits_calls (s : ByteArray) (hs : s.size ≤ 140737488351232) (w : World) :
    Calls Tryd.prog 31 #[.string s] w fun e w' => e = .returned (.bool (digitsB s)) ∧ Drawn0 w w' := by
  have ha : Ev (fun k => lockbox_allDigits.f k s) (digitsB s) := Ev.congr (fun k => rfl) (all_loop s hs s.size 0 (by omega))
  obtain ⟨k, hk⟩ := ha.rounds
  exact lockbox_allDigits.calls k s _ w hk
set_option maxRecDepth 100000 in
theorem next_len (sb : Nat) (A : Option Addr) (c : Nat) (xs : List Int) (letter n : Int) (w : World) (h : At w A c xs) (hs : w.cell? ⟨sb, 0, none⟩ = some (.slice A xs.length c)) (he : eol xs < xs.length) (hn : 0 ≤ n ∧ n ≤ 100) (hl : (eol xs : Int) ≠ n + 1) :
    Calls Tryd.prog 64 #[.pointer (some ⟨sb, 0, none⟩), .int .u8 letter, .int .i64 n] w fun e w' => e = .returned (.tuple #[.string ⟨#[]⟩, .iface 73 (.int .i64 200)]) ∧ w' = w := by
  have hi := indexByte_calls A c xs w h
  rw [if_pos he] at hi
  have b0 : decide ((eol xs : Int) < 0) = false := decide_eq_false (by omega)
  obtain ⟨i5, hi5, hi5z, hi5s⟩ := i5_
  have hcut := cut_to (P := Tryd.prog) 26 5 .i64 Tryd.underlying26 hi5 A xs.length c (eol xs : Int) (by omega) (by omega) h.cap
  have htl : (xs.take (eol xs)).length = eol xs := by rw [List.length_take]; omega
  have hcv := Kd.C_string (P := Tryd.prog) (c := c) Tryd.underlying26 Tryd.underlying5 Tryd.underlying9 (Kd.C_take h.C (Nat.le_of_lt he))
  rw [htl] at hcv
  rw [Int.toNat_natCast] at hcut
  have hsz : (strOfNums (xs.take (eol xs))).size = eol xs := by rw [← bytesOf_length, bytesOf_str _ (fun x hx => h.byt x (List.mem_of_mem_take hx)), htl]
  have w1 : wrap64 (n + 1) = n + 1 := wrI (by omega)
  have b1 : ((eol xs : Int) != n + 1) = true := by simp [hl]
  clear hl
  go_enter Tryd.func64, Tryd.ntmps64
  go_wp2_with (first | (go_at_call 75; refine hi.mono ?_; rintro e w' ⟨rfl, rfl⟩))
  go_ret2
  exact ⟨rfl, rfl⟩
set_option maxRecDepth 100000 in
theorem next_head (sb : Nat) (A : Option Addr) (c : Nat) (xs : List Int) (letter n d : Int) (t : List Int) (w : World) (h : At w A c xs) (hs : w.cell? ⟨sb, 0, none⟩ = some (.slice A xs.length c)) (he : eol xs < xs.length) (hn : 0 ≤ n ∧ n ≤ 100) (hl : (eol xs : Int) = n + 1)
    (ht : xs.take (eol xs) = d :: t) (hd : d ≠ letter) :
    Calls Tryd.prog 64 #[.pointer (some ⟨sb, 0, none⟩), .int .u8 letter, .int .i64 n] w fun e w' => e = .returned (.tuple #[.string ⟨#[]⟩, .iface 73 (.int .i64 200)]) ∧ w' = w := by
  have hi := indexByte_calls A c xs w h
  rw [if_pos he] at hi
  have b0 : decide ((eol xs : Int) < 0) = false := decide_eq_false (by omega)
  obtain ⟨i5, hi5, hi5z, hi5s⟩ := i5_
  have hcut := cut_to (P := Tryd.prog) 26 5 .i64 Tryd.underlying26 hi5 A xs.length c (eol xs : Int) (by omega) (by omega) h.cap
  have htl : (xs.take (eol xs)).length = eol xs := by rw [List.length_take]; omega
  have hcv := Kd.C_string (P := Tryd.prog) (c := c) Tryd.underlying26 Tryd.underlying5 Tryd.underlying9 (Kd.C_take h.C (Nat.le_of_lt he))
  rw [htl] at hcv
  rw [Int.toNat_natCast] at hcut
  have hb : bytesOf (strOfNums (xs.take (eol xs))) = d :: t := by rw [bytesOf_str _ (fun x hx => h.byt x (List.mem_of_mem_take hx)), ht]
  have hsz : (strOfNums (xs.take (eol xs))).size = eol xs := by rw [← bytesOf_length, hb, ← ht, htl]
  have hb0 : bt (strOfNums (xs.take (eol xs))) 0 = d := by rw [← rd_bytesOf, hb]; rfl
  have w1 : wrap64 (n + 1) = n + 1 := wrI (by omega)
  have b1 : ((eol xs : Int) != n + 1) = false := by simp [hl]
  have hx := bt_at (strOfNums (xs.take (eol xs))) 0
  have b2 : (d != letter) = true := by simp [hd]
  have p0 : (0 < eol xs) = True := eq_true (by omega)
  rw [hb0] at hx
  generalize strOfNums (xs.take (eol xs)) = s at *
  have hx0 : ∀ h : 0 < s.size, ((s[0]'h).toNat : Int) = d := hx
  clear hl hd htl hb hb0 ht hx
  go_enter Tryd.func64, Tryd.ntmps64
  go_wp2_with (first | (go_at_call 75; refine hi.mono ?_; rintro e w' ⟨rfl, rfl⟩))
  go_ret2
  exact ⟨rfl, rfl⟩
theorem bytesOf_extract (s : ByteArray) (i j : Nat) : bytesOf (s.extract i j) = ((bytesOf s).take j).drop i := by
  unfold bytesOf
  rw [ByteArray.data_extract, Array.toList_extract, List.extract_eq_take_drop]
  simp [List.map_drop, List.map_take, List.drop_take]
set_option maxRecDepth 100000 in
theorem next_digit (sb : Nat) (A : Option Addr) (c : Nat) (xs : List Int) (letter n : Int) (t : List Int) (w : World) (h : At w A c xs) (hs : w.cell? ⟨sb, 0, none⟩ = some (.slice A xs.length c)) (he : eol xs < xs.length) (hn : 0 ≤ n ∧ n ≤ 100) (hl : (eol xs : Int) = n + 1)
    (ht : xs.take (eol xs) = letter :: t) (hd : t.all isDig = false) :
    Calls Tryd.prog 64 #[.pointer (some ⟨sb, 0, none⟩), .int .u8 letter, .int .i64 n] w fun e w' => e = .returned (.tuple #[.string ⟨#[]⟩, .iface 73 (.int .i64 200)]) ∧ Drawn0 w w' := by
  have hi := indexByte_calls A c xs w h
  rw [if_pos he] at hi
  have b0 : decide ((eol xs : Int) < 0) = false := decide_eq_false (by omega)
  obtain ⟨i5, hi5, hi5z, hi5s⟩ := i5_
  have hcut := cut_to (P := Tryd.prog) 26 5 .i64 Tryd.underlying26 hi5 A xs.length c (eol xs : Int) (by omega) (by omega) h.cap
  have htl : (xs.take (eol xs)).length = eol xs := by rw [List.length_take]; omega
  have hcv := Kd.C_string (P := Tryd.prog) (c := c) Tryd.underlying26 Tryd.underlying5 Tryd.underlying9 (Kd.C_take h.C (Nat.le_of_lt he))
  rw [htl] at hcv
  rw [Int.toNat_natCast] at hcut
  have hb : bytesOf (strOfNums (xs.take (eol xs))) = letter :: t := by rw [bytesOf_str _ (fun x hx => h.byt x (List.mem_of_mem_take hx)), ht]
  have hsz : (strOfNums (xs.take (eol xs))).size = eol xs := by rw [← bytesOf_length, hb, ← ht, htl]
  have hb0 : bt (strOfNums (xs.take (eol xs))) 0 = letter := by rw [← rd_bytesOf, hb]; rfl
  have w1 : wrap64 (n + 1) = n + 1 := wrI (by omega)
  have b1 : ((eol xs : Int) != n + 1) = false := by simp [hl]
  have hx := bt_at (strOfNums (xs.take (eol xs))) 0
  have b2 : (letter != letter) = false := by simp
  have p0 : (0 < eol xs) = True := eq_true (by omega)
  have p1 : decide (1 ≤ eol xs) = true := decide_eq_true (by omega)
  have p2 : (1 ≤ eol xs) = True := eq_true (by omega)
  have p3 : ((eol xs : Int) < 1) = False := eq_false (by omega)
  have p4 : (1 ≤ (eol xs : Int)) = True := eq_true (by omega)
  rw [hb0] at hx
  have hdg : DDigits.digitsB ((strOfNums (xs.take (eol xs))).extract 1 (eol xs)) = t.all isDig := by
    unfold DDigits.digitsB
    rw [bytesOf_extract, hb, ← htl, ht, List.take_length]
    rfl
  have hsx : ((strOfNums (xs.take (eol xs))).extract 1 (eol xs)).size ≤ 140737488351232 := by
    rw [← bytesOf_length, bytesOf_extract]
    simp only [List.length_drop, List.length_take, bytesOf_length, hsz]; omega
  have had := fun W => allDigits_calls _ hsx W
  rw [hdg, hd] at had
  generalize strOfNums (xs.take (eol xs)) = s at *
  have hx0 : ∀ h : 0 < s.size, ((s[0]'h).toNat : Int) = letter := hx
  have HD := Aside0.mk had
  clear hl hd htl hb hb0 ht hx hdg hsx had
  go_enter Tryd.func64, Tryd.ntmps64
  go_wp2_with (first | (go_at_call 75; refine hi.mono ?_; rintro e w' ⟨rfl, rfl⟩) | (go_at_call 31; refine (HD.out _).mono ?_; rintro e w' ⟨rfl, ⟨nd, rfl⟩⟩))
  go_ret2
  exact ⟨rfl, ⟨nd, rfl⟩⟩
set_option maxRecDepth 100000 in
theorem next_some (sb : Nat) (A : Option Addr) (c : Nat) (xs : List Int) (letter n : Int) (t : List Int) (w : World) (h : At w A c xs) (hs : w.cell? ⟨sb, 0, none⟩ = some (.slice A xs.length c)) (hf : w.frozen? ⟨sb, 0, none⟩ = false) (he : eol xs < xs.length) (hn : 0 ≤ n ∧ n ≤ 100) (hl : (eol xs : Int) = n + 1)
    (ht : xs.take (eol xs) = letter :: t) (hd : t.all isDig = true) :
    Calls Tryd.prog 64 #[.pointer (some ⟨sb, 0, none⟩), .int .u8 letter, .int .i64 n] w fun e w' => e = .returned (.tuple #[.string (strOfNums (xs.take (eol xs))), .nilIface]) ∧
      Drawn0 (w.setCell ⟨sb, 0, none⟩ (.slice (if c = eol xs + 1 then A else A.map (·.add (eol xs + 1))) (xs.length - (eol xs + 1)) (c - (eol xs + 1)))) w' := by
  have hi := indexByte_calls A c xs w h
  rw [if_pos he] at hi
  have b0 : decide ((eol xs : Int) < 0) = false := decide_eq_false (by omega)
  obtain ⟨i5, hi5, hi5z, hi5s⟩ := i5_
  have hcut := cut_to (P := Tryd.prog) 26 5 .i64 Tryd.underlying26 hi5 A xs.length c (eol xs : Int) (by omega) (by omega) h.cap
  have hcf := cut_from (P := Tryd.prog) 26 5 .i64 Tryd.underlying26 hi5 1 hi5s A xs.length c ((eol xs : Int) + 1) (by omega) (by omega)
  have htl : (xs.take (eol xs)).length = eol xs := by rw [List.length_take]; omega
  have hcv := Kd.C_string (P := Tryd.prog) (c := c) Tryd.underlying26 Tryd.underlying5 Tryd.underlying9 (Kd.C_take h.C (Nat.le_of_lt he))
  rw [htl] at hcv
  rw [Int.toNat_natCast] at hcut
  rw [show ((eol xs : Int) + 1).toNat = eol xs + 1 by omega] at hcf
  simp only [Nat.mul_one] at hcf
  generalize (if c = eol xs + 1 then A else A.map (·.add (eol xs + 1))) = A' at hcf ⊢
  have hb : bytesOf (strOfNums (xs.take (eol xs))) = letter :: t := by rw [bytesOf_str _ (fun x hx => h.byt x (List.mem_of_mem_take hx)), ht]
  have hsz : (strOfNums (xs.take (eol xs))).size = eol xs := by rw [← bytesOf_length, hb, ← ht, htl]
  have hb0 : bt (strOfNums (xs.take (eol xs))) 0 = letter := by rw [← rd_bytesOf, hb]; rfl
  have w1 : wrap64 (n + 1) = n + 1 := wrI (by omega)
  have w2 : wrap64 ((eol xs : Int) + 1) = (eol xs : Int) + 1 := by have := h.cap; have := h.big; unfold wrap64; omega
  have b1 : ((eol xs : Int) != n + 1) = false := by simp [hl]
  have hx := bt_at (strOfNums (xs.take (eol xs))) 0
  have b2 : (letter != letter) = false := by simp
  have p0 : (0 < eol xs) = True := eq_true (by omega)
  have p1 : decide (1 ≤ eol xs) = true := decide_eq_true (by omega)
  have p2 : (1 ≤ eol xs) = True := eq_true (by omega)
  have p3 : ((eol xs : Int) < 1) = False := eq_false (by omega)
  have p4 : (1 ≤ (eol xs : Int)) = True := eq_true (by omega)
  rw [hb0] at hx
  have hdg : DDigits.digitsB ((strOfNums (xs.take (eol xs))).extract 1 (eol xs)) = t.all isDig := by
    unfold DDigits.digitsB
    rw [bytesOf_extract, hb, ← htl, ht, List.take_length]
    rfl
  have hsx : ((strOfNums (xs.take (eol xs))).extract 1 (eol xs)).size ≤ 140737488351232 := by
    rw [← bytesOf_length, bytesOf_extract]
    simp only [List.length_drop, List.length_take, bytesOf_length, hsz]; omega
  have had := fun W => allDigits_calls _ hsx W
  rw [hdg, hd] at had
  generalize strOfNums (xs.take (eol xs)) = s at *
  have hx0 : ∀ h : 0 < s.size, ((s[0]'h).toNat : Int) = letter := hx
  have HD := Aside0.mk had
  clear hl hd htl hb hb0 ht hx hdg hsx had
  go_enter Tryd.func64, Tryd.ntmps64
  go_wp2_with (first | (go_at_call 75; refine hi.mono ?_; rintro e w' ⟨rfl, rfl⟩) | (go_at_call 31; refine (HD.out _).mono ?_; rintro e w' ⟨rfl, ⟨nd, rfl⟩⟩))
  go_ret2
  exact ⟨rfl, ⟨nd, rfl⟩⟩
end Go.Proofs.YtkjdmbbaacjpmaaDoor.Reader
end
section
namespace Go.Proofs.YtkjdmbbaacjpmaaDoor.Reader
open Go.RowKit Go.Proofs.YtkjdmbbaacjpmaaDoor.Scan Go.Proofs.YtkjdmbbaacjpmaaDoorW.PrintWords Go.Proofs.YtkjdmbbaacjpmaaDoorW.PrintLast
theorem strOf_toList (l : List Int) : (strOfNums l).data.toList = Lib.bytesOf l := by
  rw [strOfNums_data]; rfl
theorem extract_str (l : List Int) (i j : Nat) : (strOfNums l).extract i j = strOfNums ((l.drop i).take (j - i)) := by
  apply ByteArray.ext
  apply Array.toList_inj.1
  rw [strOf_toList, ByteArray.data_extract, Array.toList_extract, List.extract_eq_take_drop, strOf_toList]
  simp [Lib.bytesOf, List.map_take, List.map_drop]
set_option maxRecDepth 100000 in
theorem num_calls (t : List Int) (i n : Nat) (hi : i + n ≤ t.length) (hn : 1 ≤ n ∧ n ≤ 18) (ht : t.length ≤ 1000) (hd : ((t.drop i).take n).all isDig = true) (w : World) :
    Calls Tryd.prog 66 #[.string (strOfNums t), .int .i64 i, .int .i64 n] w fun e w' => e = .returned (.int .i64 (fieldP t i n)) ∧ Below w.heap.size w w' := by
  have hlen : ((t.drop i).take n).length = n := by rw [List.length_take, List.length_drop]; omega
  have hp := parse_digits ((t.drop i).take n) (by intro h; rw [h] at hlen; simp at hlen; omega) hd (by omega)
  have hs : (strOfNums t).size = t.length := by
    have := strOf_toList t
    have h2 := congrArg List.length this
    simpa [Lib.bytesOf] using h2
  have he : (strOfNums t).extract i (i + n) = strOfNums ((t.drop i).take n) := by rw [extract_str]; congr 2; omega
  have hs2 : (strOfNums ((t.drop i).take n)).size = n := by
    have h2 := congrArg List.length (strOf_toList ((t.drop i).take n))
    rw [Lib.bytesOf, List.length_map, hlen] at h2
    exact h2
  have hc : ∀ W, Calls Tryd.prog 77 #[.string (strOfNums ((t.drop i).take n)), .int .i64 10, .int .i64 64] W fun e w' => e = .returned (.tuple #[.int .i64 (fieldP t i n), .nilIface]) ∧ Below W.heap.size W w' := by
    intro W
    refine (Tryd.strconv_ParseInt_10_at64_ok _ (by rw [hs2]; omega) (fieldP t i n) (by rw [strOf_toList]; exact hp) W).mono ?_
    rintro e w' ⟨rfl, rfl | ⟨s, rfl⟩⟩
    · exact ⟨rfl, Below.refl _ _⟩
    · exact ⟨rfl, bytes_below (Below.refl _ _) (Nat.le_refl _) 5 s⟩
  have w1 : wrap64 ((i : Int) + n) = (i : Int) + n := wrI (by omega)
  have p0 : (0 ≤ (i : Int)) = True := eq_true (by omega)
  have p1 : ((i : Int) ≤ (i : Int) + n) = True := eq_true (by omega)
  have p2 : ((i : Int) + n ≤ (t.length : Int)) = True := eq_true (by omega)
  have p3 : (0 ≤ (i : Int) + n) = True := eq_true (by omega)
  have p4 : ((i : Int) + n).toNat = i + n := by omega
  have HC := Aside0.mk hc
  clear hc hp hd
  generalize fieldP t i n = v at *
  generalize strOfNums ((t.drop i).take n) = u at *
  generalize strOfNums t = s at *
  go_enter Tryd.func66, Tryd.ntmps66
  go_wp2_with (first | (go_at_call 77; refine (HC.out _).mono ?_; rintro e w' ⟨rfl, hb⟩; have HB := Aside0.mk hb; clear hb))
  go_ret
  exact ⟨rfl, HB.out⟩
end Go.Proofs.YtkjdmbbaacjpmaaDoor.Reader
end
section
namespace Go.Proofs.YtkjdmbbaacjpmaaDoor.Reader
open Go.RowKit Go.Proofs.YtkjdmbbaacjpmaaDoorW.PrintWords Go.Proofs.YtkjdmbbaacjpmaaDoorW.PrintLast Go.Proofs.YtkjdmbbaacjpmaaDoor.C
def monthLen (y m : Int) : Int := if 1 ≤ y ∧ y ≤ 9999 ∧ 1 ≤ m ∧ m ≤ 12 then aheadTab.getD m.toNat 0 - aheadTab.getD (m - 1).toNat 0 + (if m = 2 ∧ leapB y = true then 1 else 0) else 0
set_option maxRecDepth 100000 in
theorem month_out (y m : Int) (h : ¬ (1 ≤ y ∧ y ≤ 9999 ∧ 1 ≤ m ∧ m ≤ 12)) (w : World) :
    Calls Tryd.prog 76 #[.int .i64 y, .int .i64 m] w fun e w' => e = .returned (.int .i64 0) ∧ Drawn0 w w' := by
  by_cases h1 : y < 1
  · have b1 : decide (y < 1) = true := decide_eq_true h1
    clear h h1
    go_enter Tryd.func76, Tryd.ntmps76
    go_wp2
    go_ret
    exact ⟨rfl, Drawn0.refl _⟩
  · have b1 : decide (y < 1) = false := decide_eq_false h1
    by_cases h2 : 9999 < y
    · have b2 : decide (9999 < y) = true := decide_eq_true h2
      clear h h1 h2
      go_enter Tryd.func76, Tryd.ntmps76
      go_wp2
      go_ret
      exact ⟨rfl, Drawn0.refl _⟩
    · have b2 : decide (9999 < y) = false := decide_eq_false h2
      by_cases h3 : m < 1
      · have b3 : decide (m < 1) = true := decide_eq_true h3
        clear h h1 h2 h3
        go_enter Tryd.func76, Tryd.ntmps76
        go_wp2
        go_ret
        exact ⟨rfl, Drawn0.refl _⟩
      · have b3 : decide (m < 1) = false := decide_eq_false h3
        have b4 : decide (12 < m) = true := decide_eq_true (by omega)
        clear h h1 h2 h3
        go_enter Tryd.func76, Tryd.ntmps76
        go_wp2
        go_ret
        exact ⟨rfl, Drawn0.refl _⟩
set_option maxRecDepth 100000 in
theorem month_in (y : Int) (j m : Nat) (hm : m = j + 1) (hy : 1 ≤ y ∧ y ≤ 9999) (hj : j < 12) (u v : Int) (hu : 0 ≤ u ∧ u ≤ 365) (hv : 0 ≤ v ∧ v ≤ 365) (w : World) (hc : w.cell? ⟨1, j, none⟩ = some (.int .i64 u)) (hc1 : w.cell? ⟨1, m, none⟩ = some (.int .i64 v)) (b : Bool) (hb : leapB y = b) :
    Calls Tryd.prog 76 #[.int .i64 y, .int .i64 m] w fun e w' => e = .returned (.int .i64 (v - u + (if m = 2 ∧ b = true then 1 else 0))) ∧ Drawn0 w w' := by
  have b1 : decide (y < 1) = false := decide_eq_false (by omega)
  have b2 : decide (9999 < y) = false := decide_eq_false (by omega)
  have b3 : decide ((m : Int) < 1) = false := decide_eq_false (by omega)
  have b4 : decide (12 < (m : Int)) = false := decide_eq_false (by omega)
  have e1 : (m : Int) - 1 = j := by omega
  have hm13 : (m : Int) < 13 := by omega
  have hm0 : 0 ≤ (m : Int) := by omega
  have hj0 : 0 ≤ (j : Int) := by omega
  have hj13 : (j : Int) < 13 := by omega
  have w1 : wrap64 (v - u) = v - u := by unfold wrap64; omega
  have w2 : wrap64 (v - u + 1) = v - u + 1 := by unfold wrap64; omega
  have HL := leap_calls y
  rw [hb] at HL
  have HL := Aside0.mk HL
  clear hb
  by_cases h2 : m = 2
  · have b5 : ((m : Int) == 2) = true := by rw [beq_iff_eq]; omega
    have hif : (if m = 2 ∧ b = true then (1 : Int) else 0) = if b = true then 1 else 0 := by simp [h2]
    rw [hif]
    clear hif
    clear hm h2
    cases b
    all_goals
      go_enter Tryd.func76, Tryd.ntmps76
      go_wp2
      go_quiet (fail)
      go_wp2_with (go_at_call 62; (with_reducible refine (HL.out _).mono ?_); rintro e w' ⟨rfl, ⟨nd, rfl⟩⟩)
      go_ret
      exact ⟨by first | rfl | simp, by first | exact Drawn0.refl _ | exact ⟨⟨_, rfl⟩⟩⟩
  · have b5 : ((m : Int) == 2) = false := by rw [beq_eq_false_iff_ne]; omega
    rw [if_neg (fun h => h2 h.1), Int.add_zero]
    clear hm h2
    go_enter Tryd.func76, Tryd.ntmps76
    go_wp2
    go_quiet (fail)
    go_wp2
    go_ret
    exact ⟨rfl, ⟨⟨_, rfl⟩⟩⟩
theorem month_calls (y m : Int) (w : World) (HT : Tab w) :
    Calls Tryd.prog 76 #[.int .i64 y, .int .i64 m] w fun e w' => e = .returned (.int .i64 (monthLen y m)) ∧ Drawn0 w w' := by
  unfold monthLen
  by_cases h : 1 ≤ y ∧ y ≤ 9999 ∧ 1 ≤ m ∧ m ≤ 12
  · rw [if_pos h]
    obtain ⟨k, rfl⟩ : ∃ k : Nat, m = k := ⟨m.toNat, by omega⟩
    have hc := HT.ahead.cell (g := 1) (by kernel_rfl) (k - 1) (show k - 1 < 13 by omega)
    have hc1 := HT.ahead.cell (g := 1) (by kernel_rfl) k (show k < 13 by omega)
    have := month_in y (k - 1) k (by omega) ⟨h.1, h.2.1⟩ (by omega) _ _ (aheadTab_range _) (aheadTab_range _) w hc hc1 _ rfl
    rw [show ((k : Int) - 1).toNat = k - 1 by omega, Int.toNat_natCast]
    have e : ((k : Int) = 2 ∧ leapB y = true) = (k = 2 ∧ leapB y = true) := by
      have : ((k : Int) = 2) = (k = 2) := propext (by omega)
      rw [this]
    simp only [e]
    exact this
  · rw [if_neg h]
    exact month_out y m h w
end Go.Proofs.YtkjdmbbaacjpmaaDoor.Reader
end
section
namespace Go.Proofs.YtkjdmbbaacjpmaaDoor.Reader
open Go.RowKit Go.Proofs.YtkjdmbbaacjpmaaDoorW.PrintWords Go.Proofs.YtkjdmbbaacjpmaaDoorW.PrintLast Go.Proofs.YtkjdmbbaacjpmaaDoor.C
set_option maxRecDepth 100000 in
theorem number_low (y m d : Int) (h : d < 1) (w : World) :
    Calls Tryd.prog 65 #[.agg #[.int .i64 y, .int .i64 m, .int .i64 d]] w fun e w' => e = .returned (.tuple #[.int .i64 0, .bool false]) ∧ Below w.heap.size w w' := by
  have b1 : decide (d < 1) = true := decide_eq_true h
  go_enter Tryd.func65, Tryd.ntmps65
  go_wp2
  go_quiet (fail)
  go_wp2
  go_ret2
  exact ⟨rfl, by repeat (first | exact Below.refl _ _ | apply pw_below_drewN | apply below_alloc)⟩
theorem q0 {P : Program} {f : FuncId} {args : Array Value} {w : World} {n : Nat} {v : Value}
    (h : Calls P f args (w.drewN n) fun e w' => e = .returned v ∧ Drawn0 (w.drewN n) w') : Calls P f args (w.drewN n) fun e w'' => e = .returned v ∧ ∃ m, w'' = w.drewN m :=
  Calls.quiet_of (h.mono fun _ _ ⟨he, hm⟩ => ⟨he, hm.out⟩)
set_option maxRecDepth 100000 in
theorem number_high (y m d L : Int) (h : 1 ≤ d) (hL : monthLen y m = L) (hh : L < d) (w : World) (HT : Tab w) :
    Calls Tryd.prog 65 #[.agg #[.int .i64 y, .int .i64 m, .int .i64 d]] w fun e w' => e = .returned (.tuple #[.int .i64 0, .bool false]) ∧ Below w.heap.size w w' := by
  have b1 : decide (d < 1) = false := decide_eq_false (by omega)
  have b2 : decide (L < d) = true := decide_eq_true (by omega)
  have HM : Aside0 (∀ W, Below w.heap.size w W → Calls Tryd.prog 76 #[.int .i64 y, .int .i64 m] W fun e w' => e = .returned (.int .i64 L) ∧ Drawn0 W w') :=
    ⟨fun W hb => hL ▸ month_calls y m W (tab_below HT hb)⟩
  clear hL
  go_enter Tryd.func65, Tryd.ntmps65
  go_wp2
  go_quiet ((go_at_call 76; exact q0 (HM.out _ (by repeat (first | exact Below.refl _ _ | apply pw_below_drewN | apply below_alloc)))))
  go_wp2
  go_ret2
  exact ⟨rfl, by repeat (first | exact Below.refl _ _ | apply pw_below_drewN | apply below_alloc)⟩
def numberOf (y m d : Int) : Int := 365 * (y - 1) + (y - 1) / 4 - (y - 1) / 100 + (y - 1) / 400 + aheadTab.getD (m - 1).toNat 0 + d + (if 2 < m ∧ leapB y = true then 1 else 0)
set_option maxRecDepth 100000 in
theorem number_in (y d L u : Int) (m : Nat) (b : Bool) (hb : leapB y = b) (h : 1 ≤ d) (hL : monthLen y m = L) (hh : d ≤ L) (hL31 : L ≤ 31) (hy : 1 ≤ y ∧ y ≤ 9999) (hm : 1 ≤ m ∧ m ≤ 12) (hu : 0 ≤ u ∧ u ≤ 365) (w : World) (HT : Tab w) (hc : w.cell? ⟨1, m - 1, none⟩ = some (.int .i64 u)) :
    Calls Tryd.prog 65 #[.agg #[.int .i64 y, .int .i64 m, .int .i64 d]] w fun e w' => e = .returned (.tuple #[.int .i64 (365 * (y - 1) + (y - 1) / 4 - (y - 1) / 100 + (y - 1) / 400 + u + d + (if 2 < m ∧ b = true then 1 else 0)), .bool true]) ∧ Below w.heap.size w w' := by
  have b1 : decide (d < 1) = false := decide_eq_false (by omega)
  have b2 : decide (L < d) = false := decide_eq_false (by omega)
  have HM : Aside0 (∀ W, Below w.heap.size w W → Calls Tryd.prog 76 #[.int .i64 y, .int .i64 m] W fun e w' => e = .returned (.int .i64 L) ∧ Drawn0 W w') :=
    ⟨fun W hb => hL ▸ month_calls y m W (tab_below HT hb)⟩
  have HL := leap_calls y
  rw [hb] at HL
  have HL := Aside0.mk HL
  clear hL hb
  obtain ⟨j, rfl⟩ : ∃ j : Nat, m = j + 1 := ⟨m - 1, by omega⟩
  rw [show j + 1 - 1 = j by omega] at hc
  have hwx : (1 : Nat) < w.heap.size := by rcases Nat.lt_or_ge 1 w.heap.size with h | h; exact h; simp [World.cell?, Array.getElem?_eq_none h] at hc
  have hj : (j : Int) ≤ 11 := by omega
  have hj0 : 0 ≤ (j : Int) := by omega
  have hj13 : (j : Int) < 13 := by omega
  by_cases h2 : 2 < j + 1
  · have b5 : decide (2 < (j : Int) + 1) = true := decide_eq_true (by omega)
    have hif : (if 2 < j + 1 ∧ b = true then (1 : Int) else 0) = if b = true then 1 else 0 := by simp [h2]
    rw [hif]
    clear hif h2
    cases b
    all_goals
      go_enter Tryd.func65, Tryd.ntmps65
      go_wp2
      go_quiet ((go_at_call 76; exact q0 (HM.out _ (by repeat (first | exact Below.refl _ _ | apply pw_below_drewN | apply below_alloc)))))
      go_wp2
      go_quiet (fail)
      go_wp2_with (go_at_call 62; (with_reducible refine (HL.out _).mono ?_); rintro e w' ⟨rfl, ⟨nd, rfl⟩⟩)
      go_ret2
      exact ⟨by first | rfl | simp, by repeat (first | exact Below.refl _ _ | apply pw_below_drewN | apply below_alloc)⟩
  · have b5 : decide (2 < (j : Int) + 1) = false := decide_eq_false (by omega)
    rw [if_neg (fun h => h2 h.1), Int.add_zero]
    clear h2
    go_enter Tryd.func65, Tryd.ntmps65
    go_wp2
    go_quiet ((go_at_call 76; exact q0 (HM.out _ (by repeat (first | exact Below.refl _ _ | apply pw_below_drewN | apply below_alloc)))))
    go_wp2
    go_quiet (fail)
    go_wp2
    go_ret2
    exact ⟨rfl, by repeat (first | exact Below.refl _ _ | apply pw_below_drewN | apply below_alloc)⟩
theorem monthLen_le (y m : Int) : monthLen y m ≤ 31 := by
  unfold monthLen
  split
  · next h =>
    obtain ⟨k, rfl⟩ : ∃ k : Nat, m = k := ⟨m.toNat, by omega⟩
    have hk : k = 1 ∨ k = 2 ∨ k = 3 ∨ k = 4 ∨ k = 5 ∨ k = 6 ∨ k = 7 ∨ k = 8 ∨ k = 9 ∨ k = 10 ∨ k = 11 ∨ k = 12 := by omega
    rcases hk with rfl | rfl | rfl | rfl | rfl | rfl | rfl | rfl | rfl | rfl | rfl | rfl <;> (cases leapB y <;> decide)
  · omega
def numberR (y m d : Int) : Int × Bool := if 1 ≤ d ∧ d ≤ monthLen y m then (numberOf y m d, true) else (0, false)
theorem number_calls (y m d : Int) (w : World) (HT : Tab w) :
    Calls Tryd.prog 65 #[.agg #[.int .i64 y, .int .i64 m, .int .i64 d]] w fun e w' => e = .returned (.tuple #[.int .i64 (numberR y m d).1, .bool (numberR y m d).2]) ∧ Below w.heap.size w w' := by
  unfold numberR
  by_cases h : 1 ≤ d ∧ d ≤ monthLen y m
  · rw [if_pos h]
    have hr : 1 ≤ y ∧ y ≤ 9999 ∧ 1 ≤ m ∧ m ≤ 12 := by
      apply Classical.byContradiction
      intro hn
      have : monthLen y m = 0 := by unfold monthLen; rw [if_neg hn]
      omega
    obtain ⟨k, rfl⟩ : ∃ k : Nat, m = k := ⟨m.toNat, by omega⟩
    have hc := HT.ahead.cell (g := 1) (by kernel_rfl) (k - 1) (show k - 1 < 13 by omega)
    have := number_in y d _ _ k _ rfl h.1 rfl h.2 (monthLen_le _ _) ⟨hr.1, hr.2.1⟩ (by omega) (aheadTab_range _) w HT hc
    have e : ((2 : Int) < (k : Int) ∧ leapB y = true) = (2 < k ∧ leapB y = true) := by
      have : ((2 : Int) < (k : Int)) = (2 < k) := propext (by omega)
      rw [this]
    unfold numberOf
    rw [show ((k : Int) - 1).toNat = k - 1 by omega]
    simp only [e]
    exact this
  · rw [if_neg h]
    by_cases h1 : d < 1
    · exact number_low y m d h1 w
    · exact number_high y m d _ (by omega) rfl (by omega) w HT
end Go.Proofs.YtkjdmbbaacjpmaaDoor.Reader
end
