-- Texts of this claim, joined and cut down to what it uses (a program of this session).
import Derived.Test.YtkjdmbbaacjpmaaDoorU2
import Derived.Laws.MakeOwn
import Derived.Test.YtkjdmbbaacjpmaaDoorRows
import Derived.LaidSub
import Derived.LaidLaws
import Derived.LaidHandle
import Derived.Stop.Joined
import Derived.Lib.LaidTab
import Derived.Lay
import Derived.ChangeSlices
import Derived.Test.YtkjdmbbaacjpmaaDoorProg
import Derived.Below
import Derived.Deep.Draws
import Derived.Deep.AppendLies
import Derived.Maps.AppendAt
import Derived.OwnWalk
import Derived.Laws.BytesArg
import Derived.Laws.OwnMore
import Derived.Deep.OwnRows
import Derived.Tactics
import Derived.Lib.ConvBytes
import Derived.Laws.Slices
import Derived.WalkKit
import Derived.KernelRfl
import Derived.RowKit3
import Derived.Deep.LoopGhost
import Derived.Deep.QuietTactic
import Derived.BigQuiet
import Derived.WideLaws
import Derived.Deep.DeepCutAuto
import Derived.Deep.CutBlock
import Derived.Deep.RegionHeld3
import Derived.Laws.Rows
import Derived.Lib.AppendStr
import Derived.ArgAppend
import Derived.Laws.IdiomCopy
import Derived.OrdersHeld
import Derived.Laws.BitsLemmas
import Derived.RowKit
section
namespace Go.Proofs.YtkjdmbbaacjpmaaDoor.D
open Go.RowKit Go.Proofs.YtkjdmbbaacjpmaaDoorW.PrintWords Go.Proofs.YtkjdmbbaacjpmaaDoorW.PrintLast Go.Proofs.YtkjdmbbaacjpmaaDoorW.PrintMore
attribute [local go_sem] max2_int min2_int max_two min_two max_three min_three max_four min_four
set_option linter.unusedVariables false
set_option linter.unusedSimpArgs false
mutual
def arrearsref2_Civil.l0 : Nat → Int → Int → Option (Int × Int × Int × Bool)
  | 0, _, _ => none
  | k + 1, x5, x6 => (arrearsref2_yearLen.f x6).bind fun t120 => (if x5 > t120 then ((arrearsref2_yearLen.f x6).bind fun t121 => (arrearsref2_Civil.l0 k (wrap64 (x5 - t121)) (wrap64 (x6 + 1)))) else (arrearsref2_Civil.l1 k x5 x6 1))
def arrearsref2_Civil.l1 : Nat → Int → Int → Int → Option (Int × Int × Int × Bool)
  | 0, _, _, _ => none
  | k + 1, x5, x6, x7 => (arrearsref2_lenOf.f x6 x7).bind fun t122 => (if x5 > t122 then ((arrearsref2_lenOf.f x6 x7).bind fun t123 => (arrearsref2_Civil.l1 k (wrap64 (x5 - t123)) x6 (wrap64 (x7 + 1)))) else (some (x6, x7, x5, true)))
end
def arrearsref2_Civil.f (k : Nat) (a0 : Int) : Option (Int × Int × Int × Bool) := (arrearsref2_isDay.f a0).bind fun t119 => (if t119 = true then (arrearsref2_Civil.l0 k (wrap64 (a0 - (wrap64 ((wrap64 (Int.tdiv (wrap64 (a0 - 1)) 146097)) * 146097)))) (wrap64 ((wrap64 (400 * (wrap64 (Int.tdiv (wrap64 (a0 - 1)) 146097)))) + 1))) else (some (0, 0, 0, false)))
theorem arrearsref2_Civil.mono_l : ∀ k, (∀ y0 y1, LeO (arrearsref2_Civil.l0 k y0 y1) (arrearsref2_Civil.l0 (k + 1) y0 y1)) ∧ (∀ y0 y1 y2, LeO (arrearsref2_Civil.l1 k y0 y1 y2) (arrearsref2_Civil.l1 (k + 1) y0 y1 y2))
  | 0 => ⟨fun _ _ r h => by simp [arrearsref2_Civil.l0] at h, fun _ _ _ r h => by simp [arrearsref2_Civil.l1] at h⟩
  | k + 1 => by
    obtain ⟨ih0, ih1⟩ := arrearsref2_Civil.mono_l k
    refine ⟨?_, ?_⟩
    · intro y0 y1
      unfold arrearsref2_Civil.l0
      repeat' first
      | (with_reducible exact ih0 _ _)
      | (with_reducible exact ih1 _ _ _)
      | (with_reducible exact LeO.refl _)
      | (with_reducible exact LeO.none _)
      | (with_reducible refine LeO.ite ?_ ?_)
      | (with_reducible refine LeO.bind ?_ (fun _ => ?_))
      | exact ih0 _ _
      | exact ih1 _ _ _
      | exact LeO.none _
      | refine LeO.ite ?_ ?_
      | refine LeO.bind ?_ (fun _ => ?_)
    · intro y0 y1 y2
      unfold arrearsref2_Civil.l1
      repeat' first
      | (with_reducible exact ih0 _ _)
      | (with_reducible exact ih1 _ _ _)
      | (with_reducible exact LeO.refl _)
      | (with_reducible exact LeO.none _)
      | (with_reducible refine LeO.ite ?_ ?_)
      | (with_reducible refine LeO.bind ?_ (fun _ => ?_))
      | exact ih0 _ _
      | exact ih1 _ _ _
      | exact LeO.none _
      | refine LeO.ite ?_ ?_
      | refine LeO.bind ?_ (fun _ => ?_)
theorem arrearsref2_Civil.mono : ∀ a0 k, LeO (arrearsref2_Civil.f k a0) (arrearsref2_Civil.f (k + 1) a0) := by
  intro a0 k
  obtain ⟨ih0, ih1⟩ := arrearsref2_Civil.mono_l k
  unfold arrearsref2_Civil.f
  repeat' first
      | (with_reducible exact ih0 _ _)
      | (with_reducible exact ih1 _ _ _)
      | (with_reducible exact LeO.refl _)
      | (with_reducible exact LeO.none _)
      | (with_reducible refine LeO.ite ?_ ?_)
      | (with_reducible refine LeO.bind ?_ (fun _ => ?_))
      | exact ih0 _ _
      | exact ih1 _ _ _
      | exact LeO.none _
      | refine LeO.ite ?_ ?_
      | refine LeO.bind ?_ (fun _ => ?_)
set_option maxHeartbeats 8000000 in
set_option maxRecDepth 100000 in
theorem arrearsref2_Civil.calls (k : Nat) (a0 : Int) (r1 : Int) (r2 : Int) (r3 : Int) (r4 : Bool) (w : World) (h : arrearsref2_Civil.f k a0 = some (r1, r2, r3, r4)) :
    Calls Tryd.prog 36 #[.int .i64 a0] w fun e w' => e = .returned (.tuple #[.agg #[.int .i64 r1, .int .i64 r2, .int .i64 r3], .bool r4]) ∧ Below w.heap.size w w' := by
  have hu59 := Tryd.underlying59
  have HB := Aside0.mk (Below.refl w.heap.size w)
  have H : ((arrearsref2_isDay.f a0).bind fun t119 => (if t119 = true then (arrearsref2_Civil.l0 k (wrap64 (a0 - (wrap64 ((wrap64 (Int.tdiv (wrap64 (a0 - 1)) 146097)) * 146097)))) (wrap64 ((wrap64 (400 * (wrap64 (Int.tdiv (wrap64 (a0 - 1)) 146097)))) + 1))) else (some (0, 0, 0, false)))) = some (r1, r2, r3, r4) := h
  clear h
  replace H := Option.bind_eq_some_iff.mp H
  obtain ⟨t119, A20, H⟩ := H
  replace H : (if t119 = true then (arrearsref2_Civil.l0 k (wrap64 (a0 - (wrap64 ((wrap64 (Int.tdiv (wrap64 (a0 - 1)) 146097)) * 146097)))) (wrap64 ((wrap64 (400 * (wrap64 (Int.tdiv (wrap64 (a0 - 1)) 146097)))) + 1))) else (some (0, 0, 0, false))) = some (r1, r2, r3, r4) := H
  have A2 := Aside0.mk A20
  clear A20
  by_cases c3 : t119 = true
  · subst c3
    have H1 : (arrearsref2_Civil.l0 k (wrap64 (a0 - (wrap64 ((wrap64 (Int.tdiv (wrap64 (a0 - 1)) 146097)) * 146097)))) (wrap64 ((wrap64 (400 * (wrap64 (Int.tdiv (wrap64 (a0 - 1)) 146097)))) + 1))) = some (r1, r2, r3, r4) := by rw [if_pos rfl] at H; exact H
    clear H
    have H := H1
    clear H1
    have H' := Aside0.mk H
    clear H
    go_enter Tryd.func36, Tryd.ntmps36
    go_wp2_with (first | ((with_reducible refine gate_dst (N := 2) rfl ?_); refine box_event ?hg (N := 2) ?hd (cs := #[.int .i64 0, .int .i64 0, .int .i64 0]) (t := 59) ?hr ?_; (case hd => rfl); (case hg => rfl); (case hr => first | (go_simp; done) | (go_simp; rfl)); intro gb118 hg w4 hbox hb; have n0_ := Aside0.mk (below_step (by repeat (first | (with_reducible first | exact HB.out | apply below_alloc | apply pw_below_drewN | apply below_drew1) | exact HB.out)) hb); have n1_ := Aside0.mk (hbox); have n2_ := Aside0.mk ((by rw [hg]; exact (below_size (by repeat (first | (with_reducible first | exact HB.out | apply below_alloc | apply pw_below_drewN | apply below_drew1) | exact HB.out))) : w.heap.size ≤ gb118)); have n3_ := Aside0.mk ((by rw [hg]; exact (below_size (by repeat (first | (with_reducible first | exact HB.out | apply below_alloc | apply pw_below_drewN | apply below_drew1) | exact HB.out))) : w.heap.size ≤ gb118)); clear HB; have HB := n0_; have BK118 := n1_; have GW118 := n2_; have GE118 := n3_; clear n0_ n1_ n2_ n3_; clear hb hbox hg) | ((with_reducible refine gate_callee (f := 48) rfl ?_); refine goesL_ (some 9) rfl rfl Tryd.func48 (by kernel_rfl) rfl #[.int .i64 a0] rfl (by (try simp only [List.map_toArray, List.map_cons, List.map_nil]); first | done | rfl | (simp only [List.length_drop, List.length_take]; rfl)) ?_; (with_reducible refine (arrearsref2_isDay.calls a0 true _ A2.out).mono ?_); rintro e w' ⟨rfl, ⟨nd, rfl⟩⟩; refine ⟨_, rfl, ?_⟩))
    go_loopg [5, 6] k (fun kq v5 v6 w' => ∃ (x5_1 : Int) (x6_1 : Int), v5 = .int .i64 x5_1 ∧ v6 = .int .i64 x6_1 ∧ Aside0 (arrearsref2_Civil.l0 kq x5_1 x6_1 = some (r1, r2, r3, r4)) ∧ Aside0 (kq ≤ k) ∧ Aside0 (w'.heap[gb118]? = some (.cells #[.int .i64 0, .int .i64 0, .int .i64 0] 59 (0, 0))) ∧ Aside0 (Below w.heap.size w w'))
    case atStart => exact ⟨(wrap64 (a0 - (wrap64 ((wrap64 (Int.tdiv (wrap64 (a0 - 1)) 146097)) * 146097)))), (wrap64 ((wrap64 (400 * (wrap64 (Int.tdiv (wrap64 (a0 - 1)) 146097)))) + 1)), (by first | rfl | (simp; done) | (simp [*]; done)), (by first | rfl | (simp; done) | (simp [*]; done)), H', ⟨Nat.le_refl _⟩, ⟨by (with_reducible repeat (first | refine blk_drewN ?_ _ | refine blk_drew ?_ | refine blk_alloc ?_ _)); exact BK118.out⟩, ⟨by repeat (first | (with_reducible first | exact HB.out | apply below_alloc | apply pw_below_drewN | apply below_drew1 | refine below_set ?_ GE118.out) | exact HB.out)⟩⟩
    case round =>
      clear H'
      try clear p2
      try clear c3
      try clear c4
      obtain ⟨x5_1, x6_1, rfl, rfl, HA, HK1, BK118, HB⟩ := hrel
      cases gk with
      | zero => exact absurd HA.out (by simp [arrearsref2_Civil.l0])
      | succ k1 =>
        have H := HA.out
        clear HA
        simp only [arrearsref2_Civil.l0] at H
        replace H := Option.bind_eq_some_iff.mp H
        obtain ⟨t120, A50, H⟩ := H
        replace H : (if x5_1 > t120 then ((arrearsref2_yearLen.f x6_1).bind fun t121 => (arrearsref2_Civil.l0 k1 (wrap64 (x5_1 - t121)) (wrap64 (x6_1 + 1)))) else (arrearsref2_Civil.l1 k1 x5_1 x6_1 1)) = some (r1, r2, r3, r4) := H
        have A5 := Aside0.mk A50
        clear A50
        by_cases c6 : x5_1 > t120
        · rw [if_pos c6] at H
          have c6b0 : decide (t120 < x5_1) = true := decide_eq_true c6
          clear c6
          replace H := Option.bind_eq_some_iff.mp H
          obtain ⟨t121, A70, H⟩ := H
          replace H : (arrearsref2_Civil.l0 k1 (wrap64 (x5_1 - t121)) (wrap64 (x6_1 + 1))) = some (r1, r2, r3, r4) := H
          have A7 := Aside0.mk A70
          clear A70
          have H' := Aside0.mk H
          clear H
          go_wp2_with (first | ((with_reducible refine gate_callee (f := 49) rfl ?_); refine goesL_ (some 24) rfl rfl Tryd.func49 (by kernel_rfl) rfl #[.int .i64 x6_1] rfl (by (try simp only [List.map_toArray, List.map_cons, List.map_nil]); first | done | rfl | (simp only [List.length_drop, List.length_take]; rfl)) ?_; (with_reducible refine (arrearsref2_yearLen.calls x6_1 t120 _ A5.out).mono ?_); rintro e w' ⟨rfl, ⟨nd, rfl⟩⟩; refine ⟨_, rfl, ?_⟩) | ((with_reducible refine gate_callee (f := 49) rfl ?_); refine goesL_ (some 28) rfl rfl Tryd.func49 (by kernel_rfl) rfl #[.int .i64 x6_1] rfl (by (try simp only [List.map_toArray, List.map_cons, List.map_nil]); first | done | rfl | (simp only [List.length_drop, List.length_take]; rfl)) ?_; (with_reducible refine (arrearsref2_yearLen.calls x6_1 t121 _ A7.out).mono ?_); rintro e w' ⟨rfl, ⟨nd, rfl⟩⟩; refine ⟨_, rfl, ?_⟩))
          go_roundg k1
          case measure => have := HK1.out; omega
          case rel => exact ⟨(wrap64 (x5_1 - t121)), (wrap64 (x6_1 + 1)), (by first | rfl | (simp; done) | (simp [*]; done)), (by first | rfl | (simp; done) | (simp [*]; done)), H', ⟨by have := HK1.out; omega⟩, ⟨by (with_reducible repeat (first | refine blk_drewN ?_ _ | refine blk_drew ?_ | refine blk_alloc ?_ _)); exact BK118.out⟩, ⟨by repeat (first | (with_reducible first | exact HB.out | apply below_alloc | apply pw_below_drewN | apply below_drew1 | refine below_set ?_ GE118.out) | exact HB.out)⟩⟩
        · rw [if_neg c6] at H
          have c6b0 : decide (t120 < x5_1) = false := decide_eq_false c6
          clear c6
          have H' := Aside0.mk H
          clear H
          go_wp2_with (first | ((with_reducible refine gate_callee (f := 49) rfl ?_); refine goesL_ (some 24) rfl rfl Tryd.func49 (by kernel_rfl) rfl #[.int .i64 x6_1] rfl (by (try simp only [List.map_toArray, List.map_cons, List.map_nil]); first | done | rfl | (simp only [List.length_drop, List.length_take]; rfl)) ?_; (with_reducible refine (arrearsref2_yearLen.calls x6_1 t120 _ A5.out).mono ?_); rintro e w' ⟨rfl, ⟨nd, rfl⟩⟩; refine ⟨_, rfl, ?_⟩))
          go_loopg [5, 7] k1 (fun kq v5 v7 w' => ∃ (x5_2 : Int) (x7_2 : Int), v5 = .int .i64 x5_2 ∧ v7 = .int .i64 x7_2 ∧ Aside0 (arrearsref2_Civil.l1 kq x5_2 x6_1 x7_2 = some (r1, r2, r3, r4)) ∧ Aside0 (kq ≤ k1) ∧ Aside0 (w'.heap[gb118]? = some (.cells #[.int .i64 0, .int .i64 0, .int .i64 0] 59 (0, 0))) ∧ Aside0 (Below w.heap.size w w'))
          case atStart => exact ⟨(x5_1), (1), (by first | rfl | (simp; done) | (simp [*]; done)), (by first | rfl | (simp; done) | (simp [*]; done)), H', ⟨Nat.le_refl _⟩, ⟨by (with_reducible repeat (first | refine blk_drewN ?_ _ | refine blk_drew ?_ | refine blk_alloc ?_ _)); exact BK118.out⟩, ⟨by repeat (first | (with_reducible first | exact HB.out | apply below_alloc | apply pw_below_drewN | apply below_drew1 | refine below_set ?_ GE118.out) | exact HB.out)⟩⟩
          case round =>
            clear H'
            try clear p2
            try clear c3
            try clear c4
            try clear c6
            try clear c6b0
            try clear p6
            try clear p2
            obtain ⟨x5_2, x7_2, rfl, rfl, HA, HK2, BK118, HB⟩ := hrel
            cases gk with
            | zero => exact absurd HA.out (by simp [arrearsref2_Civil.l1])
            | succ k2 =>
              have H := HA.out
              clear HA
              simp only [arrearsref2_Civil.l1] at H
              replace H := Option.bind_eq_some_iff.mp H
              obtain ⟨t122, A80, H⟩ := H
              replace H : (if x5_2 > t122 then ((arrearsref2_lenOf.f x6_1 x7_2).bind fun t123 => (arrearsref2_Civil.l1 k2 (wrap64 (x5_2 - t123)) x6_1 (wrap64 (x7_2 + 1)))) else (some (x6_1, x7_2, x5_2, true))) = some (r1, r2, r3, r4) := H
              have A8 := Aside0.mk A80
              clear A80
              by_cases c9 : x5_2 > t122
              · rw [if_pos c9] at H
                have c9b0 : decide (t122 < x5_2) = true := decide_eq_true c9
                clear c9
                replace H := Option.bind_eq_some_iff.mp H
                obtain ⟨t123, A100, H⟩ := H
                replace H : (arrearsref2_Civil.l1 k2 (wrap64 (x5_2 - t123)) x6_1 (wrap64 (x7_2 + 1))) = some (r1, r2, r3, r4) := H
                have A10 := Aside0.mk A100
                clear A100
                have H' := Aside0.mk H
                clear H
                go_wp2_with (first | ((with_reducible refine gate_callee (f := 50) rfl ?_); refine goesL_ (some 35) rfl rfl Tryd.func50 (by kernel_rfl) rfl #[.int .i64 x6_1, .int .i64 x7_2] rfl (by (try simp only [List.map_toArray, List.map_cons, List.map_nil]); first | done | rfl | (simp only [List.length_drop, List.length_take]; rfl)) ?_; (with_reducible refine (arrearsref2_lenOf.calls x6_1 x7_2 t122 _ A8.out).mono ?_); rintro e w' ⟨rfl, ⟨nd, rfl⟩⟩; refine ⟨_, rfl, ?_⟩) | ((with_reducible refine gate_callee (f := 50) rfl ?_); refine goesL_ (some 40) rfl rfl Tryd.func50 (by kernel_rfl) rfl #[.int .i64 x6_1, .int .i64 x7_2] rfl (by (try simp only [List.map_toArray, List.map_cons, List.map_nil]); first | done | rfl | (simp only [List.length_drop, List.length_take]; rfl)) ?_; (with_reducible refine (arrearsref2_lenOf.calls x6_1 x7_2 t123 _ A10.out).mono ?_); rintro e w' ⟨rfl, ⟨nd, rfl⟩⟩; refine ⟨_, rfl, ?_⟩))
                go_roundg k2
                case measure => have := HK1.out; have := HK2.out; omega
                case rel => exact ⟨(wrap64 (x5_2 - t123)), (wrap64 (x7_2 + 1)), (by first | rfl | (simp; done) | (simp [*]; done)), (by first | rfl | (simp; done) | (simp [*]; done)), H', ⟨by have := HK1.out; have := HK2.out; omega⟩, ⟨by (with_reducible repeat (first | refine blk_drewN ?_ _ | refine blk_drew ?_ | refine blk_alloc ?_ _)); exact BK118.out⟩, ⟨by repeat (first | (with_reducible first | exact HB.out | apply below_alloc | apply pw_below_drewN | apply below_drew1 | refine below_set ?_ GE118.out) | exact HB.out)⟩⟩
              · rw [if_neg c9] at H
                have c9b0 : decide (t122 < x5_2) = false := decide_eq_false c9
                clear c9
                simp only [Option.some.injEq, Prod.mk.injEq] at H
                obtain ⟨rfl, rfl, rfl, rfl⟩ := H
                go_wp2_with (first | ((with_reducible refine gate_callee (f := 50) rfl ?_); refine goesL_ (some 35) rfl rfl Tryd.func50 (by kernel_rfl) rfl #[.int .i64 x6_1, .int .i64 x7_2] rfl (by (try simp only [List.map_toArray, List.map_cons, List.map_nil]); first | done | rfl | (simp only [List.length_drop, List.length_take]; rfl)) ?_; (with_reducible refine (arrearsref2_lenOf.calls x6_1 x7_2 t122 _ A8.out).mono ?_); rintro e w' ⟨rfl, ⟨nd, rfl⟩⟩; refine ⟨_, rfl, ?_⟩; (try (rw [drewN_self wr]; generalize hq_ : World.drewN wr _ = wr; have n0_ : Aside0 (wr.heap[gb118]? = some (.cells #[.int .i64 0, .int .i64 0, .int .i64 0] 59 (0, 0))) := ⟨by rw [← hq_]; exact (by (with_reducible repeat (first | refine blk_drewN ?_ _ | refine blk_drew ?_ | refine blk_alloc ?_ _)); exact BK118.out)⟩; have n1_ : Aside0 (Below w.heap.size w wr) := ⟨by rw [← hq_]; exact (by repeat (first | (with_reducible first | exact HB.out | apply below_alloc | apply pw_below_drewN | apply below_drew1 | refine below_set ?_ GE118.out) | exact HB.out))⟩; clear BK118 HB hq_; have BK118 := n0_; have HB := n1_; clear n0_ n1_)); have hcz11_0 : wr.cell? ⟨gb118, 0, none⟩ = some (.int .i64 0) := (blk_cell BK118.out 0).trans rfl; have hcz11_1 : wr.cell? ⟨gb118, 1, none⟩ = some (.int .i64 0) := (blk_cell BK118.out 1).trans rfl; have hcz11_2 : wr.cell? ⟨gb118, 2, none⟩ = some (.int .i64 0) := (blk_cell BK118.out 2).trans rfl; have hfz11_0 := blk_frozen BK118.out 0; have hfz11_1 := blk_frozen BK118.out 1; have hfz11_2 := blk_frozen BK118.out 2))
                refine bodyPost_ret (results_ct rfl _ _ gb118 59 #[.int .i64 x6_1, .int .i64 x7_2, .int .i64 x5_2] (0, 0) _ rfl (by (with_reducible repeat (first | refine blk_drewN ?_ _ | refine blk_drew ?_ | refine blk_alloc ?_ _)); refine blk_put (cs := #[.int .i64 x6_1, .int .i64 x7_2, .int .i64 0]) ?_ 2 _ rfl; (with_reducible repeat (first | refine blk_drewN ?_ _ | refine blk_drew ?_ | refine blk_alloc ?_ _)); refine blk_put (cs := #[.int .i64 x6_1, .int .i64 0, .int .i64 0]) ?_ 1 _ rfl; (with_reducible repeat (first | refine blk_drewN ?_ _ | refine blk_drew ?_ | refine blk_alloc ?_ _)); refine blk_put (cs := #[.int .i64 0, .int .i64 0, .int .i64 0]) ?_ 0 _ rfl; (with_reducible repeat (first | refine blk_drewN ?_ _ | refine blk_drew ?_ | refine blk_alloc ?_ _)); exact BK118.out) Tryd.underlying59 rfl (by kernel_rfl)) rfl ?_
                exact ⟨by first | rfl | (simp [errW_none, errW_some] <;> rfl) | (simp [*, errW_none, errW_some] <;> rfl), by repeat (first | (with_reducible first | exact HB.out | apply below_alloc | apply pw_below_drewN | apply below_drew1 | refine below_set ?_ GE118.out) | exact HB.out)⟩
  · replace c3 := Bool.eq_false_iff.mpr c3
    subst c3
    have H1 : (some (0, 0, 0, false)) = some (r1, r2, r3, r4) := by rw [if_neg (show ¬ (false = true) by decide)] at H; exact H
    clear H
    have H := H1
    clear H1
    simp only [Option.some.injEq, Prod.mk.injEq] at H
    obtain ⟨rfl, rfl, rfl, rfl⟩ := H
    go_enter Tryd.func36, Tryd.ntmps36
    go_wp2_with (first | ((with_reducible refine gate_dst (N := 2) rfl ?_); refine box_event ?hg (N := 2) ?hd (cs := #[.int .i64 0, .int .i64 0, .int .i64 0]) (t := 59) ?hr ?_; (case hd => rfl); (case hg => rfl); (case hr => first | (go_simp; done) | (go_simp; rfl)); intro gb118 hg w12 hbox hb; have n0_ := Aside0.mk (below_step (by repeat (first | (with_reducible first | exact HB.out | apply below_alloc | apply pw_below_drewN | apply below_drew1) | exact HB.out)) hb); have n1_ := Aside0.mk (hbox); have n2_ := Aside0.mk ((by rw [hg]; exact (below_size (by repeat (first | (with_reducible first | exact HB.out | apply below_alloc | apply pw_below_drewN | apply below_drew1) | exact HB.out))) : w.heap.size ≤ gb118)); have n3_ := Aside0.mk ((by rw [hg]; exact (below_size (by repeat (first | (with_reducible first | exact HB.out | apply below_alloc | apply pw_below_drewN | apply below_drew1) | exact HB.out))) : w.heap.size ≤ gb118)); clear HB; have HB := n0_; have BK118 := n1_; have GW118 := n2_; have GE118 := n3_; clear n0_ n1_ n2_ n3_; clear hb hbox hg) | ((with_reducible refine gate_callee (f := 48) rfl ?_); refine goesL_ (some 9) rfl rfl Tryd.func48 (by kernel_rfl) rfl #[.int .i64 a0] rfl (by (try simp only [List.map_toArray, List.map_cons, List.map_nil]); first | done | rfl | (simp only [List.length_drop, List.length_take]; rfl)) ?_; (with_reducible refine (arrearsref2_isDay.calls a0 false _ A2.out).mono ?_); rintro e w' ⟨rfl, ⟨nd, rfl⟩⟩; refine ⟨_, rfl, ?_⟩; (try (rw [drewN_self w12]; generalize hq_ : World.drewN w12 _ = w12; have n0_ : Aside0 (w12.heap[gb118]? = some (.cells #[.int .i64 0, .int .i64 0, .int .i64 0] 59 (0, 0))) := ⟨by rw [← hq_]; exact (by (with_reducible repeat (first | refine blk_drewN ?_ _ | refine blk_drew ?_ | refine blk_alloc ?_ _)); exact BK118.out)⟩; have n1_ : Aside0 (Below w.heap.size w w12) := ⟨by rw [← hq_]; exact (by repeat (first | (with_reducible first | exact HB.out | apply below_alloc | apply pw_below_drewN | apply below_drew1 | refine below_set ?_ GE118.out) | exact HB.out))⟩; clear BK118 HB hq_; have BK118 := n0_; have HB := n1_; clear n0_ n1_)); have hcz13_0 : w12.cell? ⟨gb118, 0, none⟩ = some (.int .i64 0) := (blk_cell BK118.out 0).trans rfl; have hcz13_1 : w12.cell? ⟨gb118, 1, none⟩ = some (.int .i64 0) := (blk_cell BK118.out 1).trans rfl; have hcz13_2 : w12.cell? ⟨gb118, 2, none⟩ = some (.int .i64 0) := (blk_cell BK118.out 2).trans rfl; have hfz13_0 := blk_frozen BK118.out 0; have hfz13_1 := blk_frozen BK118.out 1; have hfz13_2 := blk_frozen BK118.out 2))
    refine bodyPost_ret (results_ct rfl _ _ gb118 59 #[.int .i64 0, .int .i64 0, .int .i64 0] (0, 0) _ rfl (by (with_reducible repeat (first | refine blk_drewN ?_ _ | refine blk_drew ?_ | refine blk_alloc ?_ _)); refine blk_put (cs := #[.int .i64 0, .int .i64 0, .int .i64 0]) ?_ 2 _ rfl; (with_reducible repeat (first | refine blk_drewN ?_ _ | refine blk_drew ?_ | refine blk_alloc ?_ _)); refine blk_put (cs := #[.int .i64 0, .int .i64 0, .int .i64 0]) ?_ 1 _ rfl; (with_reducible repeat (first | refine blk_drewN ?_ _ | refine blk_drew ?_ | refine blk_alloc ?_ _)); refine blk_put (cs := #[.int .i64 0, .int .i64 0, .int .i64 0]) ?_ 0 _ rfl; (with_reducible repeat (first | refine blk_drewN ?_ _ | refine blk_drew ?_ | refine blk_alloc ?_ _)); exact BK118.out) Tryd.underlying59 rfl (by kernel_rfl)) rfl ?_
    exact ⟨by first | rfl | (simp [errW_none, errW_some] <;> rfl) | (simp [*, errW_none, errW_some] <;> rfl), by repeat (first | (with_reducible first | exact HB.out | apply below_alloc | apply pw_below_drewN | apply below_drew1 | refine below_set ?_ GE118.out) | exact HB.out)⟩
end Go.Proofs.YtkjdmbbaacjpmaaDoor.D
end
section
namespace Go.Proofs.YtkjdmbbaacjpmaaDoor.CivilPure
open Go.RowKit Go.Proofs.YtkjdmbbaacjpmaaDoor.Cal Go.Proofs.YtkjdmbbaacjpmaaDoorW.PrintWords Go.Proofs.YtkjdmbbaacjpmaaDoorW.PrintMore
theorem wrI {i : Int} (h0 : -1000000000000000000 ≤ i) (h : i ≤ 1000000000000000000) : wrap64 i = i := by unfold wrap64; omega
theorem startOf_cum {y m : Int} (hy : 1 ≤ y) (hy' : y ≤ 9999) (hm : 1 ≤ m) (hm' : m ≤ 13) : C.startOf y m = cum y m := by
  have e : (if 2 < m ∧ C.leapB y = true then (1 : Int) else 0) = if 2 < m then lp y else 0 := by
    have hl : C.leapB y = true ↔ (y % 4 = 0 ∧ (y % 100 ≠ 0 ∨ y % 400 = 0)) := by
      unfold C.leapB; rw [decide_eq_true_eq]; omega
    unfold lp
    by_cases h2 : 2 < m
    · rw [if_pos h2]
      by_cases hb : C.leapB y = true
      · rw [if_pos ⟨h2, hb⟩, if_pos (hl.1 hb)]
      · rw [if_neg (fun h => hb h.2), if_neg (fun h => hb (hl.2 h))]
    · rw [if_neg h2, if_neg (fun h => h2 h.1)]
  unfold C.startOf cum
  rw [e]
  congr 1
  have : m = 1 ∨ m = 2 ∨ m = 3 ∨ m = 4 ∨ m = 5 ∨ m = 6 ∨ m = 7 ∨ m = 8 ∨ m = 9 ∨ m = 10 ∨ m = 11 ∨ m = 12 ∨ m = 13 := by omega
  rcases this with rfl | rfl | rfl | rfl | rfl | rfl | rfl | rfl | rfl | rfl | rfl | rfl | rfl <;> rfl
theorem start_f {y m : Int} (hy : 1 ≤ y) (hy' : y ≤ 9999) (hm : 1 ≤ m) (hm' : m ≤ 13) : C.calendar_start.f y m = some (cum y m) := by
  unfold C.calendar_start.f
  rw [if_pos ⟨hm, hm'⟩, startOf_cum hy hy' hm hm']
theorem months_loop {y l : Int} (hy : 1 ≤ y) (hy' : y ≤ 9999) (hl' : l < 365 + lp y) (d : Nat) :
    ∀ m : Int, 1 ≤ m → m + d = 12 → cum y m ≤ l → ∃ m' : Int, 1 ≤ m' ∧ m' ≤ 12 ∧ cum y m' ≤ l ∧ l < cum y (m' + 1) ∧ Ev (fun k => C.calendar_Civil.l0 k l y m) (y, m', l - cum y m' + 1, true) := by
  have h01 := lp_01 y
  induction d with
  | zero =>
    intro m hm hd hc
    obtain rfl : m = 12 := by omega
    have hr := cum_range y (m := 12) (by omega) (by omega)
    refine ⟨12, by omega, by omega, hc, ?_, ?_⟩
    · rw [show (12 : Int) + 1 = 13 by omega, cum_end]; exact hl'
    · refine Ev.step (fun k => ?_) (Ev.now _)
      simp only [C.calendar_Civil.l0]
      rw [if_neg (by omega), start_f hy hy' (by omega) (by omega)]
      simp only [Option.bind_some]
      rw [wrI (i := l - cum y 12) (by omega) (by omega), wrI (by omega) (by omega)]
  | succ d ih =>
    intro m hm hd hc
    have hr := cum_range y (m := m) (by omega) (by omega)
    by_cases c : l ≥ cum y (m + 1)
    · obtain ⟨m', a1, a2, a3, a4, a5⟩ := ih (m + 1) (by omega) (by omega) c
      refine ⟨m', a1, a2, a3, a4, Ev.step (fun k => ?_) a5⟩
      simp only [C.calendar_Civil.l0]
      rw [if_pos (by omega), wrI (i := m + 1) (by omega) (by omega), start_f hy hy' (by omega) (by omega)]
      simp only [Option.bind_some]
      rw [if_pos c]
    · refine ⟨m, hm, by omega, hc, by omega, Ev.step (fun k => ?_) (Ev.now _)⟩
      simp only [C.calendar_Civil.l0]
      rw [if_pos (by omega), wrI (i := m + 1) (by omega) (by omega), start_f hy hy' (by omega) (by omega)]
      simp only [Option.bind_some]
      rw [if_neg c, start_f hy hy' (by omega) (by omega)]
      simp only [Option.bind_some]
      rw [wrI (i := l - cum y m) (by omega) (by omega), wrI (by omega) (by omega)]
theorem mn3 (a : Int) : mn a 3 = if a < 3 then a else 3 := by unfold mn; split <;> split <;> omega
def yOf (day : Int) : Int :=
  let q := (day - 1) / 146097
  let r := (day - 1) % 146097
  let h := if r / 36524 < 3 then r / 36524 else 3
  let r1 := r - h * 36524
  let r2 := r1 % 1461
  let o := if r2 / 365 < 3 then r2 / 365 else 3
  400 * q + 1 + (100 * h + 4 * (r1 / 1461) + o)
theorem prog_in {day : Int} (h1 : 1 ≤ day) (h2 : day ≤ 3652059) : ∃ y m d : Int, IsDate day y m d ∧ yOf day = y ∧ Ev (fun k => C.calendar_Civil.f k day) (y, m, d, true) := by
  obtain ⟨q, hq⟩ : ∃ q, (day - 1) / 146097 = q := ⟨_, rfl⟩
  obtain ⟨r, hr⟩ : ∃ r, (day - 1) % 146097 = r := ⟨_, rfl⟩
  obtain ⟨h, hh⟩ : ∃ h, mn (r / 36524) 3 = h := ⟨_, rfl⟩
  obtain ⟨r1, hr1⟩ : ∃ r1, r - h * 36524 = r1 := ⟨_, rfl⟩
  obtain ⟨f, hf⟩ : ∃ f, r1 / 1461 = f := ⟨_, rfl⟩
  obtain ⟨r2, hr2⟩ : ∃ r2, r1 % 1461 = r2 := ⟨_, rfl⟩
  obtain ⟨o, ho⟩ : ∃ o, mn (r2 / 365) 3 = o := ⟨_, rfl⟩
  obtain ⟨l, hl⟩ : ∃ l, r2 - o * 365 = l := ⟨_, rfl⟩
  obtain ⟨l0, l1, hnum, y1, y2, b1, b2, b3, b4, b5, b6, b7, b8, b9, b10, b11⟩ := year_of (day := day) (q := q) (r := r) (h := h) (r1 := r1) (f := f) (r2 := r2) (o := o) (l := l) h1 h2 hq.symm hr.symm (by rw [← hh, mn3]) hr1.symm hf.symm hr2.symm (by rw [← ho, mn3]) hl.symm
  have h01 := lp_01 (400 * q + 1 + (100 * h + 4 * f + o))
  obtain ⟨m, a1, a2, a3, a4, a5⟩ := months_loop y1 y2 l1 11 1 (by omega) (by omega) (by rw [cum_one]; exact l0)
  refine ⟨_, m, l - cum (400 * q + 1 + (100 * h + 4 * f + o)) m + 1, ⟨y1, y2, a1, a2, ?_, ?_, ?_⟩, ?_, ?_⟩
  · omega
  · rw [cum_succ _ a1 a2] at a4; omega
  · omega
  · have hh' : (if r / 36524 < 3 then r / 36524 else 3) = h := by rw [← mn3]; exact hh
    have ho' : (if r2 / 365 < 3 then r2 / 365 else 3) = o := by rw [← mn3]; exact ho
    unfold yOf
    simp only [hq, hr, hh', hr1, hr2, ho', hf]
  · refine Ev.congr (f := fun k => C.calendar_Civil.j0 k day false) (fun k => ?_) (Ev.step (fun k => ?_) a5)
    · unfold C.calendar_Civil.f
      rw [if_neg (by omega), decide_eq_false (by omega)]
    · have rr : r ≤ 146096 := by omega
      have r2r : r2 ≤ 1460 := by omega
      have r1r : r1 ≤ 146096 := by omega
      clear a1 a2 a3 a4 a5 hnum y1 y2 l1 h01
      simp only [C.calendar_Civil.j0]
      rw [if_neg (by simp), wrI (i := day - 1) (by omega) (by omega), Int.tmod_eq_emod_of_nonneg (a := day - 1) (b := 146097) (by omega), Int.tdiv_eq_ediv_of_nonneg (a := day - 1) (b := 146097) (by omega), hr, hq]
      rw [Int.tdiv_eq_ediv_of_nonneg (a := r) (b := 36524) (by omega), wrI (i := r / 36524) (by omega) (by omega), hh, wrI (i := h * 36524) (by omega) (by omega), hr1, wrI (i := r1) (by omega) (by omega)]
      rw [Int.tmod_eq_emod_of_nonneg (a := r1) (b := 1461) (by omega), Int.tdiv_eq_ediv_of_nonneg (a := r1) (b := 1461) (by omega), hr2, hf, Int.tdiv_eq_ediv_of_nonneg (a := r2) (b := 365) (by omega), wrI (i := r2 / 365) (by omega) (by omega), ho, wrI (i := o * 365) (by omega) (by omega), hl]
      rw [wrI (i := l) (by omega) (by omega), wrI (i := q) (by omega) (by omega), wrI (i := 400 * q) (by omega) (by omega), wrI (i := 400 * q + 1) (by omega) (by omega), wrI (i := f) (by omega) (by omega), wrI (i := 100 * h) (by omega) (by omega), wrI (i := 4 * f) (by omega) (by omega), wrI (i := 100 * h + 4 * f) (by omega) (by omega), wrI (i := 100 * h + 4 * f + o) (by omega) (by omega), wrI (i := 400 * q + 1 + (100 * h + 4 * f + o)) (by omega) (by omega)]
theorem prog_out {day : Int} (h : ¬ (1 ≤ day ∧ day ≤ 3652059)) : Ev (fun k => C.calendar_Civil.f k day) (0, 0, 0, false) := by
  refine Ev.congr (f := fun k => C.calendar_Civil.j0 k day true) (fun k => ?_) (Ev.step (fun k => ?_) (Ev.now _))
  · unfold C.calendar_Civil.f
    by_cases c : day < 1
    · rw [if_pos c]
    · rw [if_neg c, decide_eq_true (by omega)]
  · simp only [C.calendar_Civil.j0]; rfl
theorem divides_f {y : Int} (hy : 0 ≤ y) : D.arrearsref2_divides.f y = some (decide (y % 4 = 0 ∧ (y % 100 ≠ 0 ∨ y % 400 = 0))) := by
  unfold D.arrearsref2_divides.f
  have e4 : Int.tmod y 4 = y % 4 := Int.tmod_eq_emod_of_nonneg hy
  have e100 : Int.tmod y 100 = y % 100 := Int.tmod_eq_emod_of_nonneg hy
  have e400 : Int.tmod y 400 = y % 400 := Int.tmod_eq_emod_of_nonneg hy
  rw [e4, e100, e400]
  by_cases h3 : y % 4 = 0
  · rw [if_pos h3]
    by_cases h4 : y % 100 = 0
    · rw [if_pos h4]
      congr 1
      rw [Bool.eq_iff_iff, beq_iff_eq, decide_eq_true_eq]; omega
    · rw [if_neg h4, decide_eq_true (by omega)]
  · rw [if_neg h3, decide_eq_false (by omega)]
theorem yearLen_f {y : Int} (hy : 0 ≤ y) : D.arrearsref2_yearLen.f y = some (365 + lp y) := by
  unfold D.arrearsref2_yearLen.f
  rw [divides_f hy]
  simp only [Option.bind_some, decide_eq_true_eq]
  unfold lp
  split <;> rfl
theorem lenOf_f {y m : Int} (hy : 0 ≤ y) : D.arrearsref2_lenOf.f y m = some (mlen y m) := by
  unfold D.arrearsref2_lenOf.f mlen
  by_cases h2 : m = 2
  · rw [if_pos h2, if_pos h2, divides_f hy]
    simp only [Option.bind_some, decide_eq_true_eq]
    unfold lp
    split <;> rfl
  · rw [if_neg h2, if_neg h2]
    by_cases h4 : m = 4
    · rw [if_pos h4, if_pos (by omega)]
    · rw [if_neg h4]
      by_cases h6 : m = 6
      · rw [if_pos h6, if_pos (by omega)]
      · rw [if_neg h6]
        by_cases h9 : m = 9
        · rw [if_pos h9, if_pos (by omega)]
        · rw [if_neg h9]
          by_cases h11 : m = 11
          · rw [if_pos h11, if_pos (by omega)]
          · rw [if_neg h11, if_neg (by omega)]
theorem ref_months {y L : Int} (hy : 1 ≤ y) (hL : 1 ≤ L) (hL' : L ≤ 365 + lp y) (d : Nat) :
    ∀ (m left : Int), 1 ≤ m → m + d = 12 → 1 ≤ left → cum y m + left = L → ∃ m' : Int, 1 ≤ m' ∧ m' ≤ 12 ∧ 1 ≤ L - cum y m' ∧ L - cum y m' ≤ mlen y m' ∧ Ev (fun k => D.arrearsref2_Civil.l1 k left y m) (y, m', L - cum y m', true) := by
  have h01 := lp_01 y
  induction d with
  | zero =>
    intro m left hm hd hl hc
    obtain rfl : m = 12 := by omega
    have hs := cum_succ y (m := 12) (by omega) (by omega)
    rw [show (12 : Int) + 1 = 13 by omega, cum_end] at hs
    refine ⟨12, by omega, by omega, by omega, by omega, Ev.step (fun k => ?_) (Ev.now _)⟩
    simp only [D.arrearsref2_Civil.l1]
    rw [lenOf_f (by omega)]
    simp only [Option.bind_some]
    rw [if_neg (by omega), show left = L - cum y 12 by omega]
  | succ d ih =>
    intro m left hm hd hl hc
    have hs := cum_succ y (m := m) (by omega) (by omega)
    have hr := mlen_range y m
    have hcr := cum_range y (m := m) (by omega) (by omega)
    by_cases c : left > mlen y m
    · obtain ⟨m', a1, a2, a3, a4, a5⟩ := ih (m + 1) (left - mlen y m) (by omega) (by omega) (by omega) (by omega)
      refine ⟨m', a1, a2, a3, a4, Ev.step (fun k => ?_) a5⟩
      simp only [D.arrearsref2_Civil.l1]
      rw [lenOf_f (by omega)]
      simp only [Option.bind_some]
      rw [if_pos c, wrI (i := left - mlen y m) (by omega) (by omega), wrI (i := m + 1) (by omega) (by omega)]
    · refine ⟨m, hm, by omega, by omega, by omega, Ev.step (fun k => ?_) (Ev.now _)⟩
      simp only [D.arrearsref2_Civil.l1]
      rw [lenOf_f (by omega)]
      simp only [Option.bind_some]
      rw [if_neg c, show left = L - cum y m by omega]
theorem y_le {day y left : Int} (hd : day ≤ 3652059) (hl : 1 ≤ left) (hn : dby y + left = day) : y ≤ 9999 := by
  by_cases c : 9999 < y
  · have a := dby_le (y - 10000).toNat 10000
    rw [show (10000 : Int) + ((y - 10000).toNat : Int) = y by omega] at a
    have : dby 10000 = 3652059 := by decide
    omega
  · omega
theorem ref_years {day : Int} (h2 : day ≤ 3652059) (n : Nat) : ∀ (y left : Int), 1 ≤ y → 1 ≤ left → left ≤ n → dby y + left = day →
    ∃ y' m d : Int, IsDate day y' m d ∧ Ev (fun k => D.arrearsref2_Civil.l0 k left y) (y', m, d, true) := by
  induction n with
  | zero => intro y left _ h1 hn _; omega
  | succ n ih =>
    intro y left hy h1 hn hnum
    have h01 := lp_01 y
    have hy9 := y_le h2 h1 hnum
    have hs := dby_succ y
    have hl9 : left ≤ 4000000 := by
      have a := dby_le (y - 1).toNat 1
      rw [show (1 : Int) + ((y - 1).toNat : Int) = y by omega] at a
      have : dby 1 = 0 := by decide
      omega
    by_cases c : left > 365 + lp y
    · obtain ⟨y', m, d, hd, he⟩ := ih (y + 1) (left - (365 + lp y)) (by omega) (by omega) (by omega) (by omega)
      refine ⟨y', m, d, hd, Ev.step (fun k => ?_) he⟩
      simp only [D.arrearsref2_Civil.l0]
      rw [yearLen_f (by omega)]
      simp only [Option.bind_some]
      rw [if_pos c, wrI (i := left - (365 + lp y)) (by omega) (by omega), wrI (i := y + 1) (by omega) (by omega)]
    · obtain ⟨m, a1, a2, a3, a4, a5⟩ := ref_months hy h1 (by omega) 11 1 left (by omega) (by omega) h1 (by rw [cum_one]; omega)
      refine ⟨y, m, left - cum y m, ⟨hy, hy9, a1, a2, a3, a4, by omega⟩, Ev.step (fun k => ?_) a5⟩
      simp only [D.arrearsref2_Civil.l0]
      rw [yearLen_f (by omega)]
      simp only [Option.bind_some]
      rw [if_neg c]
theorem ref_in {day : Int} (h1 : 1 ≤ day) (h2 : day ≤ 3652059) : ∃ y m d : Int, IsDate day y m d ∧ Ev (fun k => D.arrearsref2_Civil.f k day) (y, m, d, true) := by
  obtain ⟨q, hq⟩ : ∃ q, (day - 1) / 146097 = q := ⟨_, rfl⟩
  have hdb : dby (400 * q + 1) = 146097 * q := by unfold dby; omega
  obtain ⟨y, m, d, hd, he⟩ := ref_years h2 146097 (400 * q + 1) (day - q * 146097) (by omega) (by omega) (by omega) (by rw [hdb]; omega)
  refine ⟨y, m, d, hd, Ev.congr (fun k => ?_) he⟩
  unfold D.arrearsref2_Civil.f D.arrearsref2_isDay.f
  rw [if_pos h1, decide_eq_true h2]
  simp only [Option.bind_some, if_true]
  rw [wrI (i := day - 1) (by omega) (by omega), Int.tdiv_eq_ediv_of_nonneg (a := day - 1) (b := 146097) (by omega), hq, wrI (i := q) (by omega) (by omega), wrI (i := q * 146097) (by omega) (by omega), wrI (i := 400 * q) (by omega) (by omega), wrI (i := 400 * q + 1) (by omega) (by omega), wrI (i := day - q * 146097) (by omega) (by omega)]
theorem ref_out {day : Int} (h : ¬ (1 ≤ day ∧ day ≤ 3652059)) : Ev (fun k => D.arrearsref2_Civil.f k day) (0, 0, 0, false) := by
  refine Ev.congr (fun k => ?_) (Ev.now _)
  show D.arrearsref2_Civil.f k day = _
  unfold D.arrearsref2_Civil.f D.arrearsref2_isDay.f
  by_cases c : day ≥ 1
  · rw [if_pos c, decide_eq_false (by omega)]; rfl
  · rw [if_neg c]; rfl
def mOf (y l : Int) : Int := if l < cum y 2 then 1 else if l < cum y 3 then 2 else if l < cum y 4 then 3 else if l < cum y 5 then 4 else if l < cum y 6 then 5 else if l < cum y 7 then 6 else if l < cum y 8 then 7 else if l < cum y 9 then 8 else if l < cum y 10 then 9 else if l < cum y 11 then 10 else if l < cum y 12 then 11 else 12
set_option maxHeartbeats 2000000 in
theorem mOf_eq {y l m : Int} (h1 : 1 ≤ m) (h2 : m ≤ 12) (h3 : cum y m ≤ l) (h4 : l < cum y (m + 1)) : mOf y l = m := by
  have h01 := lp_01 y
  have c1 : cum y 1 = 0 := by simp [cum, A]
  have c2 : cum y 2 = 31 := by simp [cum, A]
  have c3 : cum y 3 = 59 + lp y := by simp [cum, A]
  have c4 : cum y 4 = 90 + lp y := by simp [cum, A]
  have c5 : cum y 5 = 120 + lp y := by simp [cum, A]
  have c6 : cum y 6 = 151 + lp y := by simp [cum, A]
  have c7 : cum y 7 = 181 + lp y := by simp [cum, A]
  have c8 : cum y 8 = 212 + lp y := by simp [cum, A]
  have c9 : cum y 9 = 243 + lp y := by simp [cum, A]
  have c10 : cum y 10 = 273 + lp y := by simp [cum, A]
  have c11 : cum y 11 = 304 + lp y := by simp [cum, A]
  have c12 : cum y 12 = 334 + lp y := by simp [cum, A]
  unfold mOf
  rcases months h1 h2 with rfl | rfl | rfl | rfl | rfl | rfl | rfl | rfl | rfl | rfl | rfl | rfl <;> simp only [Int.reduceAdd] at h4 <;> repeat (first | rw [if_pos (by omega)] | rw [if_neg (by omega)])
theorem yOf_eq {day y m d : Int} (h : IsDate day y m d) (h1 : 1 ≤ day) (h2 : day ≤ 3652059) : yOf day = y := by
  obtain ⟨y', m', d', hd, hy, _⟩ := prog_in h1 h2
  exact hy.trans (hd.one h).1
def civ (day : Int) : Int × Int × Int := if 1 ≤ day ∧ day ≤ 3652059 then (yOf day, mOf (yOf day) (day - 1 - dby (yOf day)), day - dby (yOf day) - cum (yOf day) (mOf (yOf day) (day - 1 - dby (yOf day)))) else (0, 0, 0)
theorem civ_of {day y m d : Int} (h : IsDate day y m d) (h1 : 1 ≤ day) (h2 : day ≤ 3652059) : civ day = (y, m, d) := by
  have hy := yOf_eq h h1 h2
  have hn := h.num
  have hs := cum_succ y h.m1 h.m2
  have hm : mOf y (day - 1 - dby y) = m := mOf_eq h.m1 h.m2 (by have := h.d1; omega) (by rw [hs]; have := h.d2; omega)
  unfold civ
  rw [if_pos ⟨h1, h2⟩, hy, hm, show day - dby y - cum y m = d by omega]
def dayB (day : Int) : Bool := decide (1 ≤ day ∧ day ≤ 3652059)
theorem prog_ev (day : Int) : Ev (fun k => C.calendar_Civil.f k day) ((civ day).1, (civ day).2.1, (civ day).2.2, dayB day) := by
  by_cases h : 1 ≤ day ∧ day ≤ 3652059
  · obtain ⟨y, m, d, hd, _, he⟩ := prog_in h.1 h.2
    unfold dayB; rw [decide_eq_true h, civ_of hd h.1 h.2]; exact he
  · unfold dayB; rw [decide_eq_false h]
    unfold civ; rw [if_neg h]; exact prog_out h
theorem ref_ev (day : Int) : Ev (fun k => D.arrearsref2_Civil.f k day) ((civ day).1, (civ day).2.1, (civ day).2.2, dayB day) := by
  by_cases h : 1 ≤ day ∧ day ≤ 3652059
  · obtain ⟨y, m, d, hd, he⟩ := ref_in h.1 h.2
    unfold dayB; rw [decide_eq_true h, civ_of hd h.1 h.2]; exact he
  · unfold dayB; rw [decide_eq_false h]
    unfold civ; rw [if_neg h]; exact ref_out h
end Go.Proofs.YtkjdmbbaacjpmaaDoor.CivilPure
end
section
namespace Go.Proofs.YtkjdmbbaacjpmaaDoor.D
open Go.RowKit Go.Proofs.YtkjdmbbaacjpmaaDoorW.PrintWords Go.Proofs.YtkjdmbbaacjpmaaDoorW.PrintLast Go.Proofs.YtkjdmbbaacjpmaaDoorW.PrintMore
attribute [local go_sem] max2_int min2_int max_two min_two max_three min_three max_four min_four
set_option linter.unusedVariables false
set_option linter.unusedSimpArgs false
def arrearslaw19_SameBytes.l0 : Nat → List Int → List Int → Int → Option (Bool)
  | 0, _, _, _ => none
  | k + 1, x0, x1, x5 => if x5 < (x0.length : Int) then (if 0 ≤ x5 then (if x5 < (x1.length : Int) then (if (rd x0 x5) = (rd x1 x5) then (arrearslaw19_SameBytes.l0 k x0 x1 (wrap64 (x5 + 1))) else (some false)) else (none)) else (none)) else (some true)
def arrearslaw19_SameBytes.f (k : Nat) (l0 : List Int) (l1 : List Int) : Option (Bool) := if (l0.length : Int) = (l1.length : Int) then (arrearslaw19_SameBytes.l0 k l0 l1 0) else (some false)
theorem arrearslaw19_SameBytes.mono_l : ∀ k, (∀ y0 y1 y2, LeO (arrearslaw19_SameBytes.l0 k y0 y1 y2) (arrearslaw19_SameBytes.l0 (k + 1) y0 y1 y2))
  | 0 => fun _ _ _ r h => by simp [arrearslaw19_SameBytes.l0] at h
  | k + 1 => by
    have ih0 := arrearslaw19_SameBytes.mono_l k
    · intro y0 y1 y2
      unfold arrearslaw19_SameBytes.l0
      repeat' first
      | (with_reducible exact ih0 _ _ _)
      | (with_reducible exact LeO.refl _)
      | (with_reducible exact LeO.none _)
      | (with_reducible refine LeO.ite ?_ ?_)
      | (with_reducible refine LeO.bind ?_ (fun _ => ?_))
      | exact ih0 _ _ _
      | exact LeO.none _
      | refine LeO.ite ?_ ?_
      | refine LeO.bind ?_ (fun _ => ?_)
theorem arrearslaw19_SameBytes.mono : ∀ a0 a1 k, LeO (arrearslaw19_SameBytes.f k a0 a1) (arrearslaw19_SameBytes.f (k + 1) a0 a1) := by
  intro a0 a1 k
  have ih0 := arrearslaw19_SameBytes.mono_l k
  unfold arrearslaw19_SameBytes.f
  repeat' first
      | (with_reducible exact ih0 _ _ _)
      | (with_reducible exact LeO.refl _)
      | (with_reducible exact LeO.none _)
      | (with_reducible refine LeO.ite ?_ ?_)
      | (with_reducible refine LeO.bind ?_ (fun _ => ?_))
      | exact ih0 _ _ _
      | exact LeO.none _
      | refine LeO.ite ?_ ?_
      | refine LeO.bind ?_ (fun _ => ?_)
set_option maxHeartbeats 8000000 in
set_option maxRecDepth 100000 in
theorem arrearslaw19_SameBytes.calls (k : Nat) (A0 : Option Addr) (c0 : Nat) (l0 : List Int) (A1 : Option Addr) (c1 : Nat) (l1 : List Int) (r : Bool) (w : World) (hr0 : Kd.C (Kd.int .u8) w A0 l0.length l0) (hc0 : l0.length ≤ c0) (hr1 : Kd.C (Kd.int .u8) w A1 l1.length l1) (hc1 : l1.length ≤ c1) (h : arrearslaw19_SameBytes.f k l0 l1 = some r) :
    Calls Tryd.prog 18 #[.slice A0 l0.length c0, .slice A1 l1.length c1] w fun e w' => e = .returned (.bool r) ∧ Drawn0 w w' := by
  have HR0 := Aside0.mk hr0
  have HC0 := Aside0.mk hc0
  clear hr0 hc0
  have HR1 := Aside0.mk hr1
  have HC1 := Aside0.mk hc1
  clear hr1 hc1
  have H : (if (l0.length : Int) = (l1.length : Int) then (arrearslaw19_SameBytes.l0 k l0 l1 0) else (some false)) = some r := h
  clear h
  by_cases c3 : (l0.length : Int) = (l1.length : Int)
  · rw [if_pos c3] at H
    have c3b0 : ((l0.length : Int) == (l1.length : Int)) = true := beq_iff_eq.mpr c3
    have c3b1 : ((l0.length : Int) != (l1.length : Int)) = false := bne_eq_false_iff_eq.mpr c3
    have c3b2 : (l0.length == l1.length) = true := by first | simpa using c3 | (simp at c3 ⊢; omega)
    clear c3
    have H' := Aside0.mk H
    clear H
    go_enter Tryd.func18, Tryd.ntmps18
    go_wp2
    repeat (go_quiet (fail); try go_wp2)
    go_loopg [5] k (fun kq v5 w' => ∃ (x5_1 : Int), v5 = .int .i64 x5_1 ∧ Aside0 (arrearslaw19_SameBytes.l0 kq l0 l1 x5_1 = some r) ∧ Aside0 (kq ≤ k) ∧ Drawn0 w w')
    case atStart => exact ⟨(0), (by first | rfl | (simp; done) | (simp [*]; done)), H', ⟨Nat.le_refl _⟩, by repeat (first | exact Drawn0.refl _ | apply Drawn0.step)⟩
    case round =>
      clear H'
      try clear c1
      try clear p2
      try clear c3
      try clear c3b0
      try clear c3b1
      try clear c3b2
      obtain ⟨x5_1, rfl, HA, HK1, ⟨m1, rfl⟩⟩ := hrel
      cases gk with
      | zero => exact absurd HA.out (by simp [arrearslaw19_SameBytes.l0])
      | succ k1 =>
        have H := HA.out
        clear HA
        simp only [arrearslaw19_SameBytes.l0] at H
        by_cases c4 : x5_1 < (l0.length : Int)
        · rw [if_pos c4] at H
          have c4b0 : decide (x5_1 < (l0.length : Int)) = true := decide_eq_true c4
          clear c4
          by_cases c5 : 0 ≤ x5_1
          · rw [if_pos c5] at H
            have c5b0 : decide (0 ≤ x5_1) = true := decide_eq_true c5
            clear c5
            by_cases c6 : x5_1 < (l1.length : Int)
            · rw [if_pos c6] at H
              have c6b0 : decide (x5_1 < (l1.length : Int)) = true := decide_eq_true c6
              clear c6
              by_cases c7 : (rd l0 x5_1) = (rd l1 x5_1)
              · rw [if_pos c7] at H
                have c7b0 : ((rd l0 x5_1) == (rd l1 x5_1)) = true := beq_iff_eq.mpr c7
                have c7b1 : ((rd l0 x5_1) != (rd l1 x5_1)) = false := bne_eq_false_iff_eq.mpr c7
                clear c7
                have H' := Aside0.mk H
                clear H
                have p128 : 0 ≤ (x5_1 : Int) := of_decide_eq_true (by first | (with_reducible assumption) | assumption)
                have q128 : x5_1 < (l0.length : Int) := of_decide_eq_true (by first | (with_reducible assumption) | assumption)
                obtain ⟨ad128, e128, hx128_0⟩ := Kd.at_int HR0.out x5_1 p128 q128
                cases e128
                replace p128 := eq_true p128
                replace q128 := eq_true q128
                have p129 : 0 ≤ (x5_1 : Int) := of_decide_eq_true (by first | (with_reducible assumption) | assumption)
                have q129 : x5_1 < (l1.length : Int) := of_decide_eq_true (by first | (with_reducible assumption) | assumption)
                obtain ⟨ad129, e129, hx129_0⟩ := Kd.at_int HR1.out x5_1 p129 q129
                cases e129
                replace p129 := eq_true p129
                replace q129 := eq_true q129
                go_wp2
                repeat (go_quiet (fail); try go_wp2)
                go_roundg k1
                case measure => have := HK1.out; omega
                case rel => exact ⟨(wrap64 (x5_1 + 1)), (by first | rfl | (simp; done) | (simp [*]; done)), H', ⟨by have := HK1.out; omega⟩, by repeat (first | exact Drawn0.refl _ | apply Drawn0.step)⟩
              · rw [if_neg c7] at H
                have c7b0 : ((rd l0 x5_1) == (rd l1 x5_1)) = false := beq_eq_false_iff_ne.mpr c7
                have c7b1 : ((rd l0 x5_1) != (rd l1 x5_1)) = true := bne_iff_ne.mpr c7
                obtain rfl := Option.some.inj H
                have p128 : 0 ≤ (x5_1 : Int) := of_decide_eq_true (by first | (with_reducible assumption) | assumption)
                have q128 : x5_1 < (l0.length : Int) := of_decide_eq_true (by first | (with_reducible assumption) | assumption)
                obtain ⟨ad128, e128, hx128_0⟩ := Kd.at_int HR0.out x5_1 p128 q128
                cases e128
                replace p128 := eq_true p128
                replace q128 := eq_true q128
                have p129 : 0 ≤ (x5_1 : Int) := of_decide_eq_true (by first | (with_reducible assumption) | assumption)
                have q129 : x5_1 < (l1.length : Int) := of_decide_eq_true (by first | (with_reducible assumption) | assumption)
                obtain ⟨ad129, e129, hx129_0⟩ := Kd.at_int HR1.out x5_1 p129 q129
                cases e129
                replace p129 := eq_true p129
                replace q129 := eq_true q129
                go_wp2
                repeat (go_quiet (fail); try go_wp2)
                go_ret
                exact ⟨by first | rfl | (simp; done) | (simp [*]; done), by repeat (first | exact Drawn0.refl _ | apply Drawn0.step)⟩
            · rw [if_neg c6] at H
              exact absurd H (by simp)
          · rw [if_neg c5] at H
            exact absurd H (by simp)
        · rw [if_neg c4] at H
          have c4b0 : decide (x5_1 < (l0.length : Int)) = false := decide_eq_false c4
          clear c4
          obtain rfl := Option.some.inj H
          go_wp2
          repeat (go_quiet (fail); try go_wp2)
          go_ret
          exact ⟨by first | rfl | (simp; done) | (simp [*]; done), by repeat (first | exact Drawn0.refl _ | apply Drawn0.step)⟩
  · rw [if_neg c3] at H
    have c3b0 : ((l0.length : Int) == (l1.length : Int)) = false := beq_eq_false_iff_ne.mpr c3
    have c3b1 : ((l0.length : Int) != (l1.length : Int)) = true := bne_iff_ne.mpr c3
    have c3b2 : (l0.length == l1.length) = false := by first | simpa using c3 | (simp at c3 ⊢; omega)
    obtain rfl := Option.some.inj H
    go_enter Tryd.func18, Tryd.ntmps18
    go_wp2
    repeat (go_quiet (fail); try go_wp2)
    go_ret
    exact ⟨by first | rfl | (simp; done) | (simp [*]; done), by repeat (first | exact Drawn0.refl _ | apply Drawn0.step)⟩
end Go.Proofs.YtkjdmbbaacjpmaaDoor.D
end
section
namespace Go.Proofs.YtkjdmbbaacjpmaaDoorW.PrintWords
open Go.RowKit
namespace Kd
variable {α : Type} {P : Program} {ops : Array Oper} {rest : List Oper} {o : Oper} {a : Act} {Q : Exit → Act → World → Prop}
end Kd
end Go.Proofs.YtkjdmbbaacjpmaaDoorW.PrintWords
namespace Go.Proofs.YtkjdmbbaacjpmaaDoor.T
open Go.RowKit Go.Proofs.YtkjdmbbaacjpmaaDoorW.PrintWords Go.Proofs.YtkjdmbbaacjpmaaDoorW.PrintLast
abbrev Tab (w : World) : Prop := C.Tab w
theorem tab_auto {w W : World} (h : Aside0 (Tab w)) (hb : Below w.heap.size w W) : Aside0 (Tab W) := C.tab_auto h hb
theorem tab_drawn {w : World} (h : Aside0 (Tab w)) (n : Nat) : Aside0 (Tab (w.drewN n)) := C.tab_drawn h n
def arrearsref20_CheckDigit.f (a0 : Int) : Option (Int × Bool) := some (DDigits.digitOf a0, DDigits.okN a0)
theorem arrearsref20_CheckDigit.calls (a0 : Int) (r1 : Int) (r2 : Bool) (w : World) (h : arrearsref20_CheckDigit.f a0 = some (r1, r2)) :
    Calls Tryd.prog 10 #[.int .i64 a0] w fun e w' => e = .returned (.tuple #[.int .i64 r1, .bool r2]) ∧ Below w.heap.size w w' := by
  unfold arrearsref20_CheckDigit.f at h
  simp only [Option.some.injEq, Prod.mk.injEq] at h
  obtain ⟨rfl, rfl⟩ := h
  exact DDigits.ref_calls a0 w
def calendar_Civil.f (a0 : Int) : Option (Int × Int × Int × Bool) := some ((CivilPure.civ a0).1, (CivilPure.civ a0).2.1, (CivilPure.civ a0).2.2, CivilPure.dayB a0)
theorem calendar_Civil.calls (a0 : Int) (r1 : Int) (r2 : Int) (r3 : Int) (r4 : Bool) (w : World) (h : calendar_Civil.f a0 = some (r1, r2, r3, r4)) (HT : Aside0 (Tab w) := by first | assumption | exact tab_auto (by assumption) (by repeat (first | (with_reducible first | (with_reducible exact Aside0.out (by assumption)) | apply below_alloc | apply pw_below_drewN | apply below_drew1) | (refine below_set ?_ (Aside0.out (by assumption))))) | exact tab_drawn (by assumption) _) :
    Calls Tryd.prog 33 #[.int .i64 a0] w fun e w' => e = .returned (.tuple #[.agg #[.int .i64 r1, .int .i64 r2, .int .i64 r3], .bool r4]) ∧ Below w.heap.size w w' := by
  obtain ⟨k, hk⟩ := (CivilPure.prog_ev a0).rounds
  exact C.calendar_Civil.calls k a0 r1 r2 r3 r4 w (hk.trans h) HT
def arrearsref2_Civil.f (a0 : Int) : Option (Int × Int × Int × Bool) := some ((CivilPure.civ a0).1, (CivilPure.civ a0).2.1, (CivilPure.civ a0).2.2, CivilPure.dayB a0)
theorem arrearsref2_Civil.calls (a0 : Int) (r1 : Int) (r2 : Int) (r3 : Int) (r4 : Bool) (w : World) (h : arrearsref2_Civil.f a0 = some (r1, r2, r3, r4)) :
    Calls Tryd.prog 36 #[.int .i64 a0] w fun e w' => e = .returned (.tuple #[.agg #[.int .i64 r1, .int .i64 r2, .int .i64 r3], .bool r4]) ∧ Below w.heap.size w w' := by
  obtain ⟨k, hk⟩ := (CivilPure.ref_ev a0).rounds
  exact D.arrearsref2_Civil.calls k a0 r1 r2 r3 r4 w (hk.trans h)
def arrearsref20_decimal.f (a0 a1 : Int) : Option (List Int) := if 0 ≤ a0 ∧ a0 ≤ 1000000000000000000 ∧ 0 ≤ a1 ∧ a1 ≤ 1000 then some (Num.dec a1.toNat a0) else none
theorem arrearsref20_decimal.calls (a0 : Int) (a1 : Int) (r : List Int) (w : World) (h : arrearsref20_decimal.f a0 a1 = some r) :
    Calls Tryd.prog 30 #[.int .i64 a0, .int .i64 a1] w fun e w' => ∃ v0_ : Value, e = .returned (v0_) ∧ Kd.R (Kd.int .u8) 5 w' w.heap.size (fun _ => True) v0_ r ∧ Below w.heap.size w w' := by
  unfold arrearsref20_decimal.f at h
  split at h
  case isFalse => cases h
  case isTrue hc =>
    obtain ⟨h0, h1, h2, h3⟩ := hc
    obtain ⟨n, rfl⟩ : ∃ n : Nat, a1 = n := ⟨a1.toNat, by omega⟩
    obtain rfl := Option.some.inj h
    rw [Int.toNat_natCast]
    obtain ⟨k, hk⟩ := (DDigits.decimal_ev a0 n h0 h1 (by omega)).rounds
    exact D.arrearsref20_decimal.calls k a0 n _ w hk
def arrearslaw19_SameBytes.f (l0 : List Int) (l1 : List Int) : Option Bool := if l0.length ≤ 140737488351232 then some (l0 == l1) else none
theorem same_ev (a b : List Int) (hl : a.length ≤ 140737488351232) : Ev (fun k => D.arrearslaw19_SameBytes.f k a b) (a == b) := by
  by_cases hlen : a.length = b.length
  · have go : ∀ d i : Nat, i + d = a.length → a.take i = b.take i → Ev (fun k => D.arrearslaw19_SameBytes.l0 k a b i) (a == b) := by
      intro d
      induction d with
      | zero =>
        intro i h ht
        rw [List.take_of_length_le (by omega), List.take_of_length_le (by omega)] at ht
        rw [show (a == b) = true by simpa using ht]
        refine Ev.step (fun k => ?_) (Ev.now true)
        simp only [D.arrearslaw19_SameBytes.l0]
        rw [if_neg (by omega)]
      | succ d ih =>
        intro i h ht
        have hi : i < a.length := by omega
        have hib : i < b.length := by omega
        have ea := DDigits.getD_at a i hi
        have eb := DDigits.getD_at b i hib
        by_cases c : a[i] = b[i]
        · refine Ev.step (fun k => ?_) (ih (i + 1) (by omega) (by rw [List.take_succ_eq_append_getElem hi, List.take_succ_eq_append_getElem hib, ht, c]))
          simp only [D.arrearslaw19_SameBytes.l0]
          rw [if_pos (by omega), if_pos (by omega), if_pos (by omega), DDigits.rd_nat, DDigits.rd_nat, ea, eb, if_pos c, DDigits.wrN i (by omega)]
        · rw [show (a == b) = false by
            rw [beq_eq_false_iff_ne]; intro e; subst e; exact c rfl]
          refine Ev.step (fun k => ?_) (Ev.now false)
          simp only [D.arrearslaw19_SameBytes.l0]
          rw [if_pos (by omega), if_pos (by omega), if_pos (by omega), DDigits.rd_nat, DDigits.rd_nat, ea, eb, if_neg c]
    refine Ev.congr (fun k => ?_) (go a.length 0 (by omega) (by simp))
    show D.arrearslaw19_SameBytes.f k a b = _
    unfold D.arrearslaw19_SameBytes.f
    rw [if_pos (by omega)]; rfl
  · rw [show (a == b) = false by
      rw [beq_eq_false_iff_ne]; intro e; subst e; exact hlen rfl]
    refine Ev.congr (fun k => ?_) (Ev.now false)
    show D.arrearslaw19_SameBytes.f k a b = _
    unfold D.arrearslaw19_SameBytes.f
    rw [if_neg (by omega)]
theorem arrearslaw19_SameBytes.calls (A0 : Option Addr) (c0 : Nat) (l0 : List Int) (A1 : Option Addr) (c1 : Nat) (l1 : List Int) (r : Bool) (w : World) (hr0 : Kd.C (Kd.int .u8) w A0 l0.length l0) (hc0 : l0.length ≤ c0) (hr1 : Kd.C (Kd.int .u8) w A1 l1.length l1) (hc1 : l1.length ≤ c1) (h : arrearslaw19_SameBytes.f l0 l1 = some r) :
    Calls Tryd.prog 18 #[.slice A0 l0.length c0, .slice A1 l1.length c1] w fun e w' => e = .returned (.bool r) ∧ Drawn0 w w' := by
  unfold arrearslaw19_SameBytes.f at h
  split at h
  case isFalse => cases h
  case isTrue hc =>
    obtain ⟨k, hk⟩ := (same_ev l0 l1 hc).rounds
    exact D.arrearslaw19_SameBytes.calls k A0 c0 l0 A1 c1 l1 r w hr0 hc0 hr1 hc1 (hk.trans h)
end Go.Proofs.YtkjdmbbaacjpmaaDoor.T
end
section
namespace Go.Proofs.YtkjdmbbaacjpmaaDoor.R
open Go.RowKit Go.Proofs.YtkjdmbbaacjpmaaDoorW.PrintWords Go.Proofs.YtkjdmbbaacjpmaaDoorW.PrintLast
structure Tab (w : World) : Prop where
  tab : C.Tab w
  ety : w.cell? ⟨0, 0, none⟩ = some (.iface 119 (.agg #[.pointer (some ⟨8, 69, none⟩)]))
theorem tab_below {w W : World} (h : Tab w) (hb : Below w.heap.size w W) : Tab W := ⟨C.tab_below h.tab hb, (hb.cell (p := ⟨0, 0, none⟩) (World.block_lt_of_cell? w _ h.ety)).trans h.ety⟩
theorem tab_auto {w W : World} (h : Aside0 (Tab w)) (hb : Below w.heap.size w W) : Aside0 (Tab W) := ⟨tab_below h.out hb⟩
theorem tab_drawn {w : World} (h : Aside0 (Tab w)) (n : Nat) : Aside0 (Tab (w.drewN n)) := ⟨tab_below h.out ⟨rfl, rfl, rfl, Nat.le_refl _, fun _ _ => rfl⟩⟩
theorem take_own {α : Type} {xs y : List α} {n : Nat} (h : y = xs.take n) : xs.take y.length = y := by
  rw [h, List.length_take]
  rcases Nat.le_total n xs.length with hn | hn
  · rw [Nat.min_eq_left hn]
  · rw [Nat.min_eq_right hn, List.take_length, List.take_of_length_le hn]
theorem take_le {α : Type} {xs y : List α} {n : Nat} (h : y = xs.take n) : y.length ≤ xs.length := by rw [h, List.length_take]; omega
def arrearsref20_CheckDigit.f (a0 : Int) : Option (Int × Bool) := some (DDigits.digitOf a0, DDigits.okN a0)
theorem arrearsref20_CheckDigit.calls (a0 : Int) (r1 : Int) (r2 : Bool) (w : World) (h : arrearsref20_CheckDigit.f a0 = some (r1, r2)) :
    Calls Tryd.prog 10 #[.int .i64 a0] w fun e w' => e = .returned (.tuple #[.int .i64 r1, .bool r2]) ∧ Below w.heap.size w w' := by
  unfold arrearsref20_CheckDigit.f at h
  simp only [Option.some.injEq, Prod.mk.injEq] at h
  obtain ⟨rfl, rfl⟩ := h
  exact DDigits.ref_calls a0 w
def arrearslaw19_SameBytes.f (l0 : List Int) (l1 : List Int) : Option Bool := if l0.length ≤ 140737488351232 then some (l0 == l1) else none
theorem arrearslaw19_SameBytes.calls (A0 : Option Addr) (c0 : Nat) (l0 : List Int) (A1 : Option Addr) (c1 : Nat) (l1 : List Int) (r : Bool) (w : World) (hr0 : Kd.C (Kd.int .u8) w A0 l0.length l0) (hc0 : l0.length ≤ c0) (hr1 : Kd.C (Kd.int .u8) w A1 l1.length l1) (hc1 : l1.length ≤ c1) (h : arrearslaw19_SameBytes.f l0 l1 = some r) :
    Calls Tryd.prog 18 #[.slice A0 l0.length c0, .slice A1 l1.length c1] w fun e w' => e = .returned (.bool r) ∧ Drawn0 w w' := T.arrearslaw19_SameBytes.calls A0 c0 l0 A1 c1 l1 r w hr0 hc0 hr1 hc1 h
def calendar_Civil.f (a0 : Int) : Option (Int × Int × Int × Bool) := some ((CivilPure.civ a0).1, (CivilPure.civ a0).2.1, (CivilPure.civ a0).2.2, CivilPure.dayB a0)
theorem calendar_Civil.calls (a0 : Int) (r1 : Int) (r2 : Int) (r3 : Int) (r4 : Bool) (w : World) (h : calendar_Civil.f a0 = some (r1, r2, r3, r4)) (HT : Aside0 (Tab w) := by first | assumption | exact tab_auto (by assumption) (by repeat (first | (with_reducible first | (with_reducible exact Aside0.out (by assumption)) | apply below_alloc | apply pw_below_drewN | apply below_drew1) | (refine below_set ?_ (Aside0.out (by assumption))))) | exact tab_drawn (by assumption) _) :
    Calls Tryd.prog 33 #[.int .i64 a0] w fun e w' => e = .returned (.tuple #[.agg #[.int .i64 r1, .int .i64 r2, .int .i64 r3], .bool r4]) ∧ Below w.heap.size w w' := T.calendar_Civil.calls a0 r1 r2 r3 r4 w h ⟨HT.out.tab⟩
end Go.Proofs.YtkjdmbbaacjpmaaDoor.R
end
section
namespace Go.Proofs.YtkjdmbbaacjpmaaDoor.Laid7
open Go.RowKit Go.ChangeShapes Go.WideShapes Go.Proofs.YtkjdmbbaacjpmaaDoorW.PrintWords
def plain : List (String × DataW Unit) := [("math/bits.deBruijn32tab", Rows.laid_math_bits_deBruijn32tab), ("math/bits.deBruijn64tab", Rows.laid_math_bits_deBruijn64tab), ("internal/strconv.uint64pow10", Rows.laid_internal_strconv_uint64pow10), ("arrears/calendar.ahead", Rows.laid_arrears_calendar_ahead), ("strconv.ErrRange", Rows.laid_strconv_ErrRange), ("strconv.ErrSyntax", Rows.laid_strconv_ErrSyntax)]
def all7 : List (String × DataW Unit) := [("math/bits.deBruijn32tab", Rows.laid_math_bits_deBruijn32tab), ("math/bits.deBruijn64tab", Rows.laid_math_bits_deBruijn64tab), ("internal/strconv.uint64pow10", Rows.laid_internal_strconv_uint64pow10), ("errors.errorType", Rows.laid_errors_errorType), ("arrears/calendar.ahead", Rows.laid_arrears_calendar_ahead), ("strconv.ErrRange", Rows.laid_strconv_ErrRange), ("strconv.ErrSyntax", Rows.laid_strconv_ErrSyntax)]
theorem et : Tryd.prog.globalNamed "errors.errorType" = some 0 := by kernel_rfl
theorem rt : (Tryd.prog.cutTypes.find? (·.1 == "internal/reflectlite.rtype")).map (·.2) = some 119 := by kernel_rfl
theorem oneRow : ((List.range 194).filter fun t => Tryd.prog.rowNamed t [101, 114, 114, 111, 114]) = [69] := by kernel_rfl
theorem size : Tryd.prog.types.size = 194 := by kernel_rfl
theorem parts {W : World} (h : laidMetH Tryd.prog all7 W) : laidMet Tryd.prog plain W ∧ handlesMet Tryd.prog [("errors.errorType", Rows.laid_errors_errorType)] W := h
theorem handle {W : World} (h : laidMetH Tryd.prog all7 W) : W.cell? ⟨0, 0, none⟩ = some (.iface 119 (.agg #[.pointer (some ⟨8, 69, none⟩)])) := by
  obtain ⟨name, u, ty, e1, e2, e3, e4, e5⟩ := (parts h).2 _ (List.mem_singleton.2 rfl)
  have en : name = [101, 114, 114, 111, 114] := (Option.some.inj e1).symm
  subst en
  obtain rfl := Option.some.inj (rt.symm.trans e2)
  have hm : ty ∈ (List.range 194).filter fun t => Tryd.prog.rowNamed t [101, 114, 114, 111, 114] := List.mem_filter.2 ⟨List.mem_range.2 (by rw [← size]; exact e3), e4⟩
  rw [oneRow] at hm
  obtain rfl := List.mem_singleton.1 hm
  have hh : typeHandle Tryd.prog 69 = .pointer (some ⟨8, 69, none⟩) := by kernel_rfl
  rw [hh] at e5
  simpa using World.var?_cell et e5 0
theorem tab {W : World} (h : laidMetH Tryd.prog all7 W) : R.Tab W :=
  ⟨⟨Lib.tabIs_of_head (rest := []) (zs := Lib.pow10Tab) (g := 2) (by kernel_rfl) (by kernel_rfl) Tryd.underlying142 Tryd.underlying133 (by kernel_rfl) (by kernel_rfl) ((parts h).1.filter fun x => x.1 == "internal/strconv.uint64pow10"),
    Lib.tabIs_of_head (rest := []) (zs := C.aheadTab) (g := 1) (by kernel_rfl) (by kernel_rfl) Tryd.underlying114 Tryd.underlying3 (by kernel_rfl) (by kernel_rfl) ((parts h).1.filter fun x => x.1 == "arrears/calendar.ahead")⟩,
   handle h⟩
noncomputable def world0 (os : Os) : World :=
  let w0 := World.holding Tryd.prog os ⟨#[], #[], []⟩
  { w0 with heap := w0.heap.modify 0 fun
      | .cells _ t frozen => .cells #[.iface 119 (.agg #[.pointer (some ⟨8, 69, none⟩)])] t frozen
      | o => o }
noncomputable def world (os : Os) : World := (world0 os).layVars Tryd.prog plain
theorem world_os (os : Os) : (world os).os = os := (World.layVars_os _ _ _).trans rfl
theorem world_plain (os : Os) : laidMet Tryd.prog plain (world os) := by
  have e1 : (plain.filter fun x => (plain.map (·.1)).contains x.1) = plain := List.filter_eq_self.2 fun x hx => List.contains_iff_mem.2 (List.mem_map.2 ⟨x, hx, rfl⟩)
  have e2 : (plain.filter fun x => !(plain.map (·.1)).contains x.1) = [] := List.filter_eq_nil_iff.2 fun x hx => by rw [List.contains_iff_mem.2 (List.mem_map.2 ⟨x, hx, rfl⟩)]; simp
  exact laidMet_layVars (w0 := world0 os) (plain.map (·.1)) [] (by rw [e1]; rfl) (by rw [e1]; kernel_rfl) (by rw [e1]; kernel_rfl) (by rw [e2]; exact LaidIn.none)
theorem world_met (os : Os) (args : Array Value) : laidMetH Tryd.prog all7 ((world os).forCall (fun _ _ => 0) ⟨#[], args, []⟩).memory :=
  laidMetH_of_parts ((world_plain os).of_heap (by simp [World.memory, World.forCall, Input.heap])) (by kernel_rfl)
end Go.Proofs.YtkjdmbbaacjpmaaDoor.Laid7
end
section
namespace Go.Proofs.YtkjdmbbaacjpmaaDoor.R
open Go.RowKit Go.Proofs.YtkjdmbbaacjpmaaDoorW.PrintWords Go.Proofs.YtkjdmbbaacjpmaaDoorW.PrintLast Go.Proofs.YtkjdmbbaacjpmaaDoorW.PrintMore
attribute [local go_sem] max2_int min2_int max_two min_two max_three min_three max_four min_four
set_option linter.unusedVariables false
set_option linter.unusedSimpArgs false
def errW : Option Int → Value
  | none => .nilIface
  | some c => .iface 0 (.int .i64 c)
theorem errW_none : errW none = .nilIface := rfl
theorem errW_some (c : Int) : errW (some c) = .iface 0 (.int .i64 c) := rfl
theorem info5 : (Tryd.prog.info? 5).map (fun i => (i.zero, i.size, i.bytes)) = some (some (.int .u8 0), 1, 1) := by kernel_rfl
theorem info26 : (Tryd.prog.info? 26).map (fun i => (i.zero, i.size, i.bytes)) = some (some (.slice none 0 0), 1, 24) := by kernel_rfl
theorem info50 : (Tryd.prog.info? 50).map (fun i => (i.zero, i.size, i.bytes)) = some (some (.agg #[(.int .i64 0), (.int .i64 0)]), 2, 16) := by kernel_rfl
structure S50 where
  f0 : Int
  f1 : Int
def z50 : S50 := ⟨(0 : Int), (0 : Int)⟩
def k50 : Kd S50 := Kd.iso (Kd.pair (Kd.int .i64) (Kd.int .i64)) (fun x : S50 => (x.f0, x.f1))
theorem k50_open {w : World} {x : S50} {cs : List Value} (h : k50.K w x cs) : cs = [.int .i64 x.f0, .int .i64 x.f1] := by
  obtain ⟨_, _, rfl, rfl, rfl⟩ := h
  exact rfl
theorem k50_openM {w : World} {base : Nat} {ok : Nat → Prop} {x : S50} {cs : List Value} (h : k50.M w base ok x cs) : cs = [.int .i64 x.f0, .int .i64 x.f1] := by
  obtain ⟨_, _, rfl, rfl, rfl⟩ := h
  exact rfl
theorem k50_mkM (w : World) (base : Nat) (ok : Nat → Prop) (x : S50)  : k50.M w base ok x [.int .i64 x.f0, .int .i64 x.f1] := ⟨[.int .i64 x.f0], [.int .i64 x.f1], rfl, rfl, rfl⟩
def rd_T50 (xs : List S50) (i : Int) : S50 := xs.getD i.toNat z50
theorem at_T50 {w : World} {A : Option Addr} {n : Nat} {xs : List S50} (h : Kd.C k50 w A n xs) (i : Int) (h0 : 0 ≤ i) (h1 : i < n) : ∃ ad , A = some ad ∧ w.cell? (ad.add (i.toNat * 2)) = some (.int .i64 (rd_T50 xs i).f0) ∧ w.cell? ⟨(ad.add (i.toNat * 2)).block, (ad.add (i.toNat * 2)).off + 1, none⟩ = some (.int .i64 (rd_T50 xs i).f1) := by
  obtain ⟨ad, c, e, _, hK, hc0⟩ := Kd.C_get h z50 i h0 h1
  have hc : ∀ j u, c[j]? = some u → w.cell? (ad.add (i.toNat * 2 + j)) = some u := hc0
  obtain rfl := k50_open hK
  exact ⟨ad, e, hc 0 _ rfl, by rw [← add_field _ _ 1 (by omega)]; exact hc 1 _ rfl⟩
def rd_L3 (xs : List (List Int)) (i : Int) : (List Int) := xs.getD i.toNat ([] : List Int)
theorem at_L3 {w : World} {A : Option Addr} {n : Nat} {xs : List (List Int)} (h : Kd.C (Kd.slice 5 (Kd.int .u8)) w A n xs) (i : Int) (h0 : 0 ≤ i) (h1 : i < n) : ∃ ad A0 c0, A = some ad ∧ w.cell? (ad.add i.toNat) = some (.slice A0 (rd_L3 xs i).length c0) ∧ (rd_L3 xs i).length ≤ c0 ∧ (Kd.int .u8).C w A0 (rd_L3 xs i).length (rd_L3 xs i) := by
  obtain ⟨ad, c, e, _, hK, hc0⟩ := Kd.C_get h ([] : List Int) i h0 h1
  have hc : ∀ j u, c[j]? = some u → w.cell? (ad.add (i.toNat * 1 + j)) = some u := hc0
  obtain ⟨A0, c0, rfl, l0, g0⟩ := hK
  exact ⟨ad, A0, c0, e, by have hq := hc 0 _ rfl; rwa [Nat.mul_one, Nat.add_zero] at hq, l0, g0⟩
end Go.Proofs.YtkjdmbbaacjpmaaDoor.R
end
section
namespace Go.Proofs.YtkjdmbbaacjpmaaDoor.R
open Go.RowKit Go.Proofs.YtkjdmbbaacjpmaaDoorW.PrintWords Go.Proofs.YtkjdmbbaacjpmaaDoorW.PrintLast Go.Proofs.YtkjdmbbaacjpmaaDoorW.PrintMore
attribute [local go_sem] max2_int min2_int max_two min_two max_three min_three max_four min_four
set_option linter.unusedVariables false
set_option linter.unusedSimpArgs false
def arrearsref20_lines.l0 : Nat → List Int → List (List Int) → Int → Int → Option ((List (List Int)) × Bool)
  | 0, _, _, _, _ => none
  | k + 1, x0, x4, x5, x6 => if x6 < (x0.length : Int) then (if 0 ≤ x6 then (if (rd x0 x6) = 10 then (if 0 ≤ x5 then (if x5 ≤ x6 then (if x6 ≤ (x0.length : Int) then (if x4.length < 5864062014805 then (arrearsref20_lines.l0 k x0 (x4 ++ [((x0.take (x6 : Int).toNat).drop (x5 : Int).toNat)]) (wrap64 (x6 + 1)) (wrap64 (x6 + 1))) else (none)) else (none)) else (none)) else (none)) else (arrearsref20_lines.l0 k x0 x4 x5 (wrap64 (x6 + 1)))) else (none)) else (some (x4, decide (x5 < (x0.length : Int))))
def arrearsref20_lines.f (k : Nat) (l0 : List Int) : Option ((List (List Int)) × Bool) := arrearsref20_lines.l0 k l0 ([] : List (List Int)) 0 0
theorem arrearsref20_lines.mono_l : ∀ k, (∀ y0 y1 y2 y3, LeO (arrearsref20_lines.l0 k y0 y1 y2 y3) (arrearsref20_lines.l0 (k + 1) y0 y1 y2 y3))
  | 0 => fun _ _ _ _ r h => by simp [arrearsref20_lines.l0] at h
  | k + 1 => by
    have ih0 := arrearsref20_lines.mono_l k
    · intro y0 y1 y2 y3
      unfold arrearsref20_lines.l0
      repeat' first
      | (with_reducible exact ih0 _ _ _ _)
      | (with_reducible exact LeO.refl _)
      | (with_reducible exact LeO.none _)
      | (with_reducible refine LeO.ite ?_ ?_)
      | (with_reducible refine LeO.bind ?_ (fun _ => ?_))
      | exact ih0 _ _ _ _
      | exact LeO.none _
      | refine LeO.ite ?_ ?_
      | refine LeO.bind ?_ (fun _ => ?_)
theorem arrearsref20_lines.mono : ∀ a0 k, LeO (arrearsref20_lines.f k a0) (arrearsref20_lines.f (k + 1) a0) := by
  intro a0 k
  have ih0 := arrearsref20_lines.mono_l k
  unfold arrearsref20_lines.f
  repeat' first
      | (with_reducible exact ih0 _ _ _ _)
      | (with_reducible exact LeO.refl _)
      | (with_reducible exact LeO.none _)
      | (with_reducible refine LeO.ite ?_ ?_)
      | (with_reducible refine LeO.bind ?_ (fun _ => ?_))
      | exact ih0 _ _ _ _
      | exact LeO.none _
      | refine LeO.ite ?_ ?_
      | refine LeO.bind ?_ (fun _ => ?_)
set_option maxHeartbeats 8000000 in
set_option maxRecDepth 100000 in
theorem arrearsref20_lines.calls (k : Nat) (P0_ : Nat → Prop) (A0 : Option Addr) (c0 : Nat) (l0 : List Int) (r1 : List (List Int)) (r2 : Bool) (w : World) (hs0 : Kd.V (Kd.int .u8) 5 w w.heap.size (fun k_ => P0_ k_) (.slice A0 l0.length c0) l0) (h : arrearsref20_lines.f k l0 = some (r1, r2)) :
    Calls Tryd.prog 41 #[.slice A0 l0.length c0] w fun e w' => ∃ v0_ : Value, e = .returned (.tuple #[v0_, .bool r2]) ∧ Kd.N (Kd.slice 5 (Kd.int .u8)) 26 w' w.heap.size (fun k_ => (P0_ k_ ∨ w.heap.size ≤ k_)) v0_ r1 ∧ Below w.heap.size w w' := by
  have HO0 := Aside0.mk (show Kd.V (Kd.int .u8) 5 w w.heap.size (fun k_ => (P0_ k_ ∨ w.heap.size ≤ k_)) (.slice A0 l0.length c0) l0 from Kd.V_mono hs0 (fun k_ hk => .inl hk))
  have HB := Aside0.mk (Below.refl w.heap.size w)
  have H : (arrearsref20_lines.l0 k l0 ([] : List (List Int)) 0 0) = some (r1, r2) := h
  clear h
  have H' := Aside0.mk H
  clear H
  go_enter Tryd.func41, Tryd.ntmps41
  go_wp2
  go_loopg [4, 5, 6] k (fun kq v4 v5 v6 w' => ∃ (x4_1 : List (List Int)) (x5_1 : Int) (x6_1 : Int), v5 = .int .i64 x5_1 ∧ v6 = .int .i64 x6_1 ∧ Aside0 (arrearsref20_lines.l0 kq l0 x4_1 x5_1 x6_1 = some (r1, r2)) ∧ Aside0 (kq ≤ k) ∧ Aside0 (Kd.V (Kd.int .u8) 5 w' w.heap.size (fun k_ => (P0_ k_ ∨ w.heap.size ≤ k_) ∧ some k_ ≠ (v4 : Value).ownBlock) (.slice A0 l0.length c0) l0) ∧ Aside0 (Kd.N (Kd.slice 5 (Kd.int .u8)) 26 w' w.heap.size (fun k_ => (P0_ k_ ∨ w.heap.size ≤ k_)) v4 x4_1) ∧ Aside0 (Below w.heap.size w w'))
  case atStart => exact ⟨(([] : List (List Int))), (0), (0), (by first | rfl | (simp; done) | (simp [*]; done)), (by first | rfl | (simp; done) | (simp [*]; done)), H', ⟨Nat.le_refl _⟩, ⟨by (with_reducible repeat (first | apply Kd.V_alloc | apply Kd.V_drewN | apply Kd.V_drew)); exact Kd.V_mono HO0.out (fun _ hk => ⟨hk, (by simp [Value.ownBlock])⟩)⟩, ⟨by first | exact Kd.S_nil _ _ _ _ _ | exact Kd.N_nil _ _ _ _ _ | exact Kd.V_nil _ _ _ _ _ | exact Kd.Q_nil _ _ _ _ _ | exact Kd.R_nil _ _ _ _ _⟩, ⟨by repeat (first | (with_reducible first | exact HB.out | apply below_alloc | apply pw_below_drewN | apply below_drew1) | exact HB.out)⟩⟩
  case round =>
    clear H'
    obtain ⟨x4_1, x5_1, x6_1, rfl, rfl, HA, HK1, HO_0, HO_4, HB⟩ := hrel
    cases gk with
    | zero => exact absurd HA.out (by simp [arrearsref20_lines.l0])
    | succ k1 =>
      have H := HA.out
      clear HA
      simp only [arrearsref20_lines.l0] at H
      by_cases c2 : x6_1 < (l0.length : Int)
      · rw [if_pos c2] at H
        have c2b0 : decide (x6_1 < (l0.length : Int)) = true := decide_eq_true c2
        clear c2
        by_cases c3 : 0 ≤ x6_1
        · rw [if_pos c3] at H
          have c3b0 : decide (0 ≤ x6_1) = true := decide_eq_true c3
          clear c3
          by_cases c4 : (rd l0 x6_1) = 10
          · rw [if_pos c4] at H
            have c4b0 : ((rd l0 x6_1) == 10) = true := beq_iff_eq.mpr c4
            have c4b1 : ((rd l0 x6_1) != 10) = false := bne_eq_false_iff_eq.mpr c4
            clear c4
            by_cases c5 : 0 ≤ x5_1
            · rw [if_pos c5] at H
              have c5b0 := eq_true c5
              have c5b1 : decide (0 ≤ x5_1) = true := decide_eq_true c5
              clear c5
              by_cases c6 : x5_1 ≤ x6_1
              · rw [if_pos c6] at H
                have c6b0 := eq_true c6
                have c6b1 : decide (x5_1 ≤ x6_1) = true := decide_eq_true c6
                clear c6
                by_cases c7 : x6_1 ≤ (l0.length : Int)
                · rw [if_pos c7] at H
                  have c7b0 := eq_true c7
                  have c7b1 : decide (x6_1 ≤ (l0.length : Int)) = true := decide_eq_true c7
                  clear c7
                  obtain ⟨y110, hy110⟩ : ∃ y_ : List Int, y_ = ((l0.take (x6_1 : Int).toNat).drop (x5_1 : Int).toNat) := ⟨_, rfl⟩
                  replace H : (if x4_1.length < 5864062014805 then (arrearsref20_lines.l0 k1 l0 (x4_1 ++ [y110]) (wrap64 (x6_1 + 1)) (wrap64 (x6_1 + 1))) else (none)) = some (r1, r2) := by first | (rw [hy110]; with_reducible exact H) | (have H2_ := (Option.bind_some _ _).symm.trans H; rw [hy110]; with_reducible exact H2_) | (have H2_ := (Option.bind_some _ _).symm.trans H; with_reducible exact H2_) | with_reducible exact H | (rw [hy110]; exact H) | exact H
                  have Ny110 := Aside0.mk hy110
                  clear hy110
                  by_cases c8 : x4_1.length < 5864062014805
                  · rw [if_pos c8] at H
                    have LMc8 := Aside0.mk c8
                    clear c8
                    obtain ⟨y115, hy115⟩ : ∃ y_ : List (List Int), y_ = (x4_1 ++ [y110]) := ⟨_, rfl⟩
                    replace H : (arrearsref20_lines.l0 k1 l0 y115 (wrap64 (x6_1 + 1)) (wrap64 (x6_1 + 1))) = some (r1, r2) := by first | (rw [hy115]; with_reducible exact H) | (have H2_ := (Option.bind_some _ _).symm.trans H; rw [hy115]; with_reducible exact H2_) | (have H2_ := (Option.bind_some _ _).symm.trans H; with_reducible exact H2_) | with_reducible exact H | (rw [hy115]; exact H) | exact H
                    have Ny115 := Aside0.mk hy115
                    clear hy115
                    have H' := Aside0.mk H
                    clear H
                    have p109 : 0 ≤ (x6_1 : Int) := of_decide_eq_true (by first | (with_reducible assumption) | assumption)
                    have q109 : x6_1 < (l0.length : Int) := of_decide_eq_true (by first | (with_reducible assumption) | assumption)
                    obtain ⟨ad109, e109, hx109_0⟩ := Kd.at_int (Kd.V_reads' HO_0.out).2.2 x6_1 p109 q109
                    cases e109
                    replace p109 := eq_true p109
                    replace q109 := eq_true q109
                    have q9 : (x6_1 : Int) ≤ ((l0.length : Int) : Int) := of_decide_eq_true (by first | (with_reducible assumption) | assumption)
                    obtain ⟨i09, hi09, _, hsz9, _⟩ := info_parts info5
                    have hroom9 : l0.length ≤ c0 := (Kd.V_reads' HO_0.out).2.1
                    have hC9 : Kd.F (Kd.int .u8) _ _ (some ad109) l0.length l0 := (Kd.V_at (base := w.heap.size) HO_0.out).2.2
                    have ql9 : (x5_1 : Int) ≤ (x6_1 : Int) := of_decide_eq_true (by first | (with_reducible assumption) | assumption)
                    have q09 : (0 : Int) ≤ (x5_1 : Int) := of_decide_eq_true (by first | (with_reducible assumption) | assumption)
                    have hcut9 := cut_mid (P := Tryd.prog) 26 5 .i64 .i64 Tryd.underlying26 hi09 1 hsz9 (some ad109) l0.length c0 x5_1 x6_1 q09 ql9 q9 hroom9
                    have hr9 := Kd.F_mid (lo := (x5_1 : Int).toNat) (hi := (x6_1 : Int).toNat) (c := c0) hC9 (by omega) (by omega) hroom9
                    obtain ⟨A9, hA9⟩ : ∃ A1, A1 = (if c0 = (x5_1 : Int).toNat then (some ad109) else ((some ad109) : Option Addr).map (·.add ((x5_1 : Int).toNat * 1))) := ⟨_, rfl⟩
                    obtain ⟨c9, hc9⟩ : ∃ c1, c1 = c0 - (x5_1 : Int).toNat := ⟨_, rfl⟩
                    have hy9 : y110.length = (x6_1 : Int).toNat - (x5_1 : Int).toNat := (by rw [Ny110.out, List.length_drop, List.length_take] <;> omega)
                    rw [show ((l0).take (x6_1 : Int).toNat).drop (x5_1 : Int).toNat = y110 from Ny110.out.symm] at hr9
                    replace hr9 : Kd.F (Kd.int .u8) _ _ A9 y110.length y110 := (by rw [hA9]; exact hr9)
                    rw [← hy9, ← hA9, ← hc9] at hcut9
                    have HO114 := Aside0.mk (show Kd.V (Kd.int .u8) 5 _ w.heap.size _ (.slice A9 y110.length c9) y110 from Kd.V_mk (by rw [hy9, hc9]; exact Nat.sub_le_sub_right (Nat.le_trans (by omega) hroom9) _) hr9)
                    have HC114 := Aside0.mk (show y110.length ≤ c9 from by rw [hy9, hc9]; exact Nat.sub_le_sub_right (Nat.le_trans (by omega) hroom9) _)
                    clear hr9 hC9 hroom9 hi09 hsz9 hc9
                    have KY9 := Aside0.mk hy9
                    have KA9 := Aside0.mk hA9
                    clear hy9 hA9
                    replace q9 := eq_true q9
                    go_wp2_with (first | ((with_reducible refine gate_builtin (b := .append) (xs := #[.tmp 18, .tmp 23]) rfl ?_); at_builtin; refine Kd.N_append (Kd.slice 5 (Kd.int .u8)) (w0 := w) w.heap.size rfl (.tmp 18) (.tmp 23) 79 26 (.slice none 0 0) 24 rfl Tryd.underlying79 info26 rfl (by decide) (by omega) u4 x4_1 y110 [.slice A9 y110.length c9] (fun k_ => (P0_ k_ ∨ w.heap.size ≤ k_)) (fun k_ => ((fun k_ => (P0_ k_ ∨ w.heap.size ≤ k_))) k_ ∧ some k_ ≠ (u4 : Value).ownBlock) rfl rfl ?aP (fun _ hk => hk) ?aF ?aO ?aB ?aS ?aL ?_; (case aP => exact (Kd.FK_slice_mk (Kd.V_reads' (Kd.V_mono (ok' := (fun k_ => ((fun k_ => (P0_ k_ ∨ w.heap.size ≤ k_))) k_ ∧ some k_ ≠ (u4 : Value).ownBlock)) (HO114.out) (fun k_ hk => ⟨hk.1, hk.2⟩))).2.1 (Kd.V_F (Kd.V_mono (ok' := (fun k_ => ((fun k_ => (P0_ k_ ∨ w.heap.size ≤ k_))) k_ ∧ some k_ ≠ (u4 : Value).ownBlock)) (HO114.out) (fun k_ hk => ⟨hk.1, hk.2⟩))))); (case aB => exact (by repeat (first | (with_reducible first | exact HB.out | apply below_alloc | apply pw_below_drewN | apply below_drew1) | exact HB.out))); (case aF => exact (fun k_ hk => (.inr (Nat.le_trans (below_size (by repeat (first | (with_reducible first | exact HB.out | apply below_alloc | apply pw_below_drewN | apply below_drew1) | exact HB.out))) hk)))); (case aO => exact (by (with_reducible repeat (first | apply Kd.N_alloc | apply Kd.N_drewN | apply Kd.N_drew)); exact HO_4.out)); (case aS => exact (below_size (by repeat (first | (with_reducible first | exact HB.out | apply below_alloc | apply pw_below_drewN | apply below_drew1) | exact HB.out)))); (case aL => have := LMc8.out; omega); intro v116 w10 ho hb hg hat; rw [← Ny115.out] at ho; have n0_ := Aside0.mk (Kd.V_afterv (ok := (fun k_ => (P0_ k_ ∨ w.heap.size ≤ k_))) (by (with_reducible repeat (first | apply Kd.V_alloc | apply Kd.V_drewN | apply Kd.V_drew)); exact HO_0.out) hg hat); have n1_ := Aside0.mk (Kd.V_afterv (ok := (fun k_ => (P0_ k_ ∨ w.heap.size ≤ k_))) (by (with_reducible repeat (first | apply Kd.V_alloc | apply Kd.V_drewN | apply Kd.V_drew)); exact HO114.out) hg hat); have n2_ := Aside0.mk (hb); have n3_ := Aside0.mk (ho); clear HO_0; clear HO114; clear HB; clear HO_4; have HO_0 := n0_; have HO114 := n1_; have HB := n2_; have HO117 := n3_; clear n0_ n1_ n2_ n3_; clear ho hb hg hat))
                    go_roundg k1
                    case measure => have := HK1.out; omega
                    case rel => exact ⟨(y115), (wrap64 (x6_1 + 1)), (wrap64 (x6_1 + 1)), (by first | rfl | (simp; done) | (simp [*]; done)), (by first | rfl | (simp; done) | (simp [*]; done)), H', ⟨by have := HK1.out; omega⟩, ⟨by (with_reducible repeat (first | apply Kd.V_alloc | apply Kd.V_drewN | apply Kd.V_drew)); exact HO_0.out⟩, ⟨by (with_reducible repeat (first | apply Kd.N_alloc | apply Kd.N_drewN | apply Kd.N_drew)); exact HO117.out⟩, ⟨by repeat (first | (with_reducible first | exact HB.out | apply below_alloc | apply pw_below_drewN | apply below_drew1) | exact HB.out)⟩⟩
                  · rw [if_neg c8] at H
                    exact absurd H (by simp)
                · rw [if_neg c7] at H
                  exact absurd H (by simp)
              · rw [if_neg c6] at H
                exact absurd H (by simp)
            · rw [if_neg c5] at H
              exact absurd H (by simp)
          · rw [if_neg c4] at H
            have c4b0 : ((rd l0 x6_1) == 10) = false := beq_eq_false_iff_ne.mpr c4
            have c4b1 : ((rd l0 x6_1) != 10) = true := bne_iff_ne.mpr c4
            have H' := Aside0.mk H
            clear H
            have p109 : 0 ≤ (x6_1 : Int) := of_decide_eq_true (by first | (with_reducible assumption) | assumption)
            have q109 : x6_1 < (l0.length : Int) := of_decide_eq_true (by first | (with_reducible assumption) | assumption)
            obtain ⟨ad109, e109, hx109_0⟩ := Kd.at_int (Kd.V_reads' HO_0.out).2.2 x6_1 p109 q109
            cases e109
            replace p109 := eq_true p109
            replace q109 := eq_true q109
            go_wp2
            go_roundg k1
            case measure => have := HK1.out; omega
            case rel => exact ⟨(x4_1), (x5_1), (wrap64 (x6_1 + 1)), (by first | rfl | (simp; done) | (simp [*]; done)), (by first | rfl | (simp; done) | (simp [*]; done)), H', ⟨by have := HK1.out; omega⟩, ⟨by (with_reducible repeat (first | apply Kd.V_alloc | apply Kd.V_drewN | apply Kd.V_drew)); exact HO_0.out⟩, ⟨by (with_reducible repeat (first | apply Kd.N_alloc | apply Kd.N_drewN | apply Kd.N_drew)); exact HO_4.out⟩, ⟨by repeat (first | (with_reducible first | exact HB.out | apply below_alloc | apply pw_below_drewN | apply below_drew1) | exact HB.out)⟩⟩
        · rw [if_neg c3] at H
          exact absurd H (by simp)
      · rw [if_neg c2] at H
        have c2b0 : decide (x6_1 < (l0.length : Int)) = false := decide_eq_false c2
        clear c2
        simp only [Option.some.injEq, Prod.mk.injEq] at H
        obtain ⟨rfl, rfl⟩ := H
        go_wp2
        go_ret2
        exact ⟨_, by first | rfl | (simp [errW_none, errW_some] <;> rfl) | (simp [*, errW_none, errW_some] <;> rfl), by (with_reducible repeat (first | apply Kd.N_alloc | apply Kd.N_drewN | apply Kd.N_drew)); exact HO_4.out, by repeat (first | (with_reducible first | exact HB.out | apply below_alloc | apply pw_below_drewN | apply below_drew1) | exact HB.out)⟩
end Go.Proofs.YtkjdmbbaacjpmaaDoor.R
end
section
namespace Go.Proofs.YtkjdmbbaacjpmaaDoor.R
open Go.RowKit Go.Proofs.YtkjdmbbaacjpmaaDoorW.PrintWords Go.Proofs.YtkjdmbbaacjpmaaDoorW.PrintLast Go.Proofs.YtkjdmbbaacjpmaaDoorW.PrintMore
attribute [local go_sem] max2_int min2_int max_two min_two max_three min_three max_four min_four
set_option linter.unusedVariables false
set_option linter.unusedSimpArgs false
mutual
def arrearsref20_formed.j0 : Nat → List Int → Bool → Option (Bool)
  | 0, _, _ => none
  | k + 1, x0, x19 => if x19 = true then (some false) else (arrearsref20_formed.l0 k x0 1)
def arrearsref20_formed.l0 : Nat → List Int → Int → Option (Bool)
  | 0, _, _ => none
  | k + 1, x0, x7 => if x7 < (x0.length : Int) then (if 0 ≤ x7 then (if (rd x0 x7) < 48 then (some false) else (if (rd x0 x7) > 57 then (some false) else (arrearsref20_formed.l0 k x0 (wrap64 (x7 + 1))))) else (none)) else (some true)
end
def arrearsref20_formed.f (k : Nat) (l0 : List Int) (a1 : Int) (a2 : Int) : Option (Bool) := if (l0.length : Int) = (wrap64 (a2 + 1)) then (if 0 < (l0.length : Int) then (arrearsref20_formed.j0 k l0 ((rd l0 0) != a1)) else (none)) else (arrearsref20_formed.j0 k l0 true)
theorem arrearsref20_formed.mono_l : ∀ k, (∀ y0 y1, LeO (arrearsref20_formed.j0 k y0 y1) (arrearsref20_formed.j0 (k + 1) y0 y1)) ∧ (∀ y0 y1, LeO (arrearsref20_formed.l0 k y0 y1) (arrearsref20_formed.l0 (k + 1) y0 y1))
  | 0 => ⟨fun _ _ r h => by simp [arrearsref20_formed.j0] at h, fun _ _ r h => by simp [arrearsref20_formed.l0] at h⟩
  | k + 1 => by
    obtain ⟨ih0, ih1⟩ := arrearsref20_formed.mono_l k
    refine ⟨?_, ?_⟩
    · intro y0 y1
      unfold arrearsref20_formed.j0
      repeat' first
      | (with_reducible exact ih0 _ _)
      | (with_reducible exact ih1 _ _)
      | (with_reducible exact LeO.refl _)
      | (with_reducible exact LeO.none _)
      | (with_reducible refine LeO.ite ?_ ?_)
      | (with_reducible refine LeO.bind ?_ (fun _ => ?_))
      | exact ih0 _ _
      | exact ih1 _ _
      | exact LeO.none _
      | refine LeO.ite ?_ ?_
      | refine LeO.bind ?_ (fun _ => ?_)
    · intro y0 y1
      unfold arrearsref20_formed.l0
      repeat' first
      | (with_reducible exact ih0 _ _)
      | (with_reducible exact ih1 _ _)
      | (with_reducible exact LeO.refl _)
      | (with_reducible exact LeO.none _)
      | (with_reducible refine LeO.ite ?_ ?_)
      | (with_reducible refine LeO.bind ?_ (fun _ => ?_))
      | exact ih0 _ _
      | exact ih1 _ _
      | exact LeO.none _
      | refine LeO.ite ?_ ?_
      | refine LeO.bind ?_ (fun _ => ?_)
theorem arrearsref20_formed.mono : ∀ a0 a1 a2 k, LeO (arrearsref20_formed.f k a0 a1 a2) (arrearsref20_formed.f (k + 1) a0 a1 a2) := by
  intro a0 a1 a2 k
  obtain ⟨ih0, ih1⟩ := arrearsref20_formed.mono_l k
  unfold arrearsref20_formed.f
  repeat' first
      | (with_reducible exact ih0 _ _)
      | (with_reducible exact ih1 _ _)
      | (with_reducible exact LeO.refl _)
      | (with_reducible exact LeO.none _)
      | (with_reducible refine LeO.ite ?_ ?_)
      | (with_reducible refine LeO.bind ?_ (fun _ => ?_))
      | exact ih0 _ _
      | exact ih1 _ _
      | exact LeO.none _
      | refine LeO.ite ?_ ?_
      | refine LeO.bind ?_ (fun _ => ?_)
set_option maxHeartbeats 8000000 in
set_option maxRecDepth 100000 in
theorem arrearsref20_formed.calls (k : Nat) (A0 : Option Addr) (c0 : Nat) (l0 : List Int) (a1 : Int) (a2 : Int) (r : Bool) (w : World) (hr0 : Kd.C (Kd.int .u8) w A0 l0.length l0) (hc0 : l0.length ≤ c0) (h : arrearsref20_formed.f k l0 a1 a2 = some r) :
    Calls Tryd.prog 58 #[.slice A0 l0.length c0, .int .u8 a1, .int .i64 a2] w fun e w' => e = .returned (.bool r) ∧ Drawn0 w w' := by
  have HR0 := Aside0.mk hr0
  have HC0 := Aside0.mk hc0
  clear hr0 hc0
  have H : (if (l0.length : Int) = (wrap64 (a2 + 1)) then (if 0 < (l0.length : Int) then (arrearsref20_formed.j0 k l0 ((rd l0 0) != a1)) else (none)) else (arrearsref20_formed.j0 k l0 true)) = some r := h
  clear h
  have HC4 := Aside0.mk H
  clear H
  go_enter Tryd.func58, Tryd.ntmps58
  go_upto_region 1 with (fail)
  go_cut [19] (fun v19 wc => ∃ (kq : Nat) (x19_3 : Bool), v19 = .bool x19_3 ∧ Aside0 (arrearsref20_formed.j0 kq l0 x19_3 = some r) ∧ Aside0 (kq ≤ k) ∧ Drawn0 w wc)
  case first =>
    have H := HC4.out
    clear HC4
    by_cases c5 : (l0.length : Int) = (wrap64 (a2 + 1))
    · rw [if_pos c5] at H
      have c5b0 : ((l0.length : Int) == (wrap64 (a2 + 1))) = true := beq_iff_eq.mpr c5
      have c5b1 : ((l0.length : Int) != (wrap64 (a2 + 1))) = false := bne_eq_false_iff_eq.mpr c5
      clear c5
      (first | rw [c5b0] | (simp only [i64_w, i32_w]; rw [c5b0]) | skip)
      by_cases c6 : 0 < (l0.length : Int)
      · rw [if_pos c6] at H
        have c6b0 : decide (0 < (l0.length : Int)) = true := decide_eq_true c6
        have c6b1 : decide (0 < l0.length) = true := decide_eq_true (by omega)
        clear c6
        have H' := Aside0.mk H
        clear H
        have p118 : 0 ≤ (0 : Int) := (by omega)
        have q118 : 0 < (l0.length : Int) := of_decide_eq_true (by first | (with_reducible assumption) | assumption)
        obtain ⟨ad118, e118, hx118_0⟩ := Kd.at_int HR0.out 0 p118 q118
        cases e118
        have qi118 : (0 < l0.length) = True := eq_true (by omega)
        (try rw [show ((0 : Int)).toNat = 0 from rfl] at hx118_0)
        (try rw [Addr.add_zero'] at hx118_0)
        replace p118 := eq_true p118
        replace q118 := eq_true q118
        go_wp2
        go_meet
        case rel => exact ⟨_, (((rd l0 0) != a1)), (by first | rfl | (simp; done) | (simp [*]; done)), H', ⟨by first | omega | exact Nat.le_refl _⟩, by repeat (first | exact Drawn0.refl _ | apply Drawn0.step)⟩
      · rw [if_neg c6] at H
        exact absurd H (by simp)
    · rw [if_neg c5] at H
      have c5b0 : ((l0.length : Int) == (wrap64 (a2 + 1))) = false := beq_eq_false_iff_ne.mpr c5
      have c5b1 : ((l0.length : Int) != (wrap64 (a2 + 1))) = true := bne_iff_ne.mpr c5
      (first | rw [c5b0] | (simp only [i64_w, i32_w]; rw [c5b0]) | skip)
      have H' := Aside0.mk H
      clear H
      go_wp2
      go_meet
      case rel => exact ⟨_, (true), (by first | rfl | (simp; done) | (simp [*]; done)), H', ⟨by first | omega | exact Nat.le_refl _⟩, by repeat (first | exact Drawn0.refl _ | apply Drawn0.step)⟩
  case rest =>
    clear HC4
    try clear p1
    try clear q1
    try clear hx1
    try clear qi1
    try clear p2
    try clear c5
    try clear c5b0
    try clear c5b1
    try clear c6
    try clear c6b0
    try clear c6b1
    try clear p6
    try clear hx118_0
    try clear p118
    try clear q118
    obtain ⟨kq, x19_3, rfl, HA, HJ3, ⟨mc3, rfl⟩⟩ := hcut
    cases kq with
    | zero => exact absurd HA.out (by simp [arrearsref20_formed.j0])
    | succ kj3 =>
      have H := HA.out
      clear HA
      simp only [arrearsref20_formed.j0] at H
      by_cases c7 : x19_3 = true
      · subst c7
        have H1 : (some false) = some r := by rw [if_pos rfl] at H; exact H
        clear H
        have H := H1
        clear H1
        obtain rfl := Option.some.inj H
        go_wp2
        go_ret
        exact ⟨by first | rfl | (simp; done) | (simp [*]; done), by repeat (first | exact Drawn0.refl _ | apply Drawn0.step)⟩
      · replace c7 := Bool.eq_false_iff.mpr c7
        subst c7
        have H1 : (arrearsref20_formed.l0 kj3 l0 1) = some r := by rw [if_neg (show ¬ (false = true) by decide)] at H; exact H
        clear H
        have H := H1
        clear H1
        have H' := Aside0.mk H
        clear H
        go_wp2
        go_loopg [7] kj3 (fun kq v7 w' => ∃ (x7_2 : Int), v7 = .int .i64 x7_2 ∧ Aside0 (arrearsref20_formed.l0 kq l0 x7_2 = some r) ∧ Aside0 (kq ≤ kj3) ∧ Drawn0 w w')
        case atStart => exact ⟨(1), (by first | rfl | (simp; done) | (simp [*]; done)), H', ⟨Nat.le_refl _⟩, by repeat (first | exact Drawn0.refl _ | apply Drawn0.step)⟩
        case round =>
          clear H'
          try clear p1
          try clear q1
          try clear hx1
          try clear qi1
          try clear p2
          try clear c3
          try clear c5
          try clear c5b0
          try clear c5b1
          try clear c6
          try clear c6b0
          try clear c6b1
          try clear p6
          try clear c7
          try clear hx118_0
          try clear p1
          try clear p118
          try clear p2
          try clear p6
          try clear q1
          try clear q118
          obtain ⟨x7_2, rfl, HA, HK2, ⟨m2, rfl⟩⟩ := hrel
          cases gk with
          | zero => exact absurd HA.out (by simp [arrearsref20_formed.l0])
          | succ k2 =>
            have H := HA.out
            clear HA
            simp only [arrearsref20_formed.l0] at H
            by_cases c8 : x7_2 < (l0.length : Int)
            · rw [if_pos c8] at H
              have c8b0 : decide (x7_2 < (l0.length : Int)) = true := decide_eq_true c8
              clear c8
              by_cases c9 : 0 ≤ x7_2
              · rw [if_pos c9] at H
                have c9b0 : decide (0 ≤ x7_2) = true := decide_eq_true c9
                clear c9
                by_cases c10 : (rd l0 x7_2) < 48
                · rw [if_pos c10] at H
                  have c10b0 : decide ((rd l0 x7_2) < 48) = true := decide_eq_true c10
                  clear c10
                  obtain rfl := Option.some.inj H
                  have p119 : 0 ≤ (x7_2 : Int) := of_decide_eq_true (by first | (with_reducible assumption) | assumption)
                  have q119 : x7_2 < (l0.length : Int) := of_decide_eq_true (by first | (with_reducible assumption) | assumption)
                  obtain ⟨ad119, e119, hx119_0⟩ := Kd.at_int HR0.out x7_2 p119 q119
                  cases e119
                  replace p119 := eq_true p119
                  replace q119 := eq_true q119
                  go_wp2
                  go_ret
                  exact ⟨by first | rfl | (simp; done) | (simp [*]; done), by repeat (first | exact Drawn0.refl _ | apply Drawn0.step)⟩
                · rw [if_neg c10] at H
                  have c10b0 : decide ((rd l0 x7_2) < 48) = false := decide_eq_false c10
                  clear c10
                  by_cases c11 : (rd l0 x7_2) > 57
                  · rw [if_pos c11] at H
                    have c11b0 : decide (57 < (rd l0 x7_2)) = true := decide_eq_true c11
                    clear c11
                    obtain rfl := Option.some.inj H
                    have p119 : 0 ≤ (x7_2 : Int) := of_decide_eq_true (by first | (with_reducible assumption) | assumption)
                    have q119 : x7_2 < (l0.length : Int) := of_decide_eq_true (by first | (with_reducible assumption) | assumption)
                    obtain ⟨ad119, e119, hx119_0⟩ := Kd.at_int HR0.out x7_2 p119 q119
                    cases e119
                    replace p119 := eq_true p119
                    replace q119 := eq_true q119
                    have p120 : 0 ≤ (x7_2 : Int) := of_decide_eq_true (by first | (with_reducible assumption) | assumption)
                    have q120 : x7_2 < (l0.length : Int) := of_decide_eq_true (by first | (with_reducible assumption) | assumption)
                    obtain ⟨ad120, e120, hx120_0⟩ := Kd.at_int HR0.out x7_2 p120 q120
                    obtain rfl : ad119 = ad120 := (by injection e120)
                    replace p120 := eq_true p120
                    replace q120 := eq_true q120
                    go_wp2
                    go_ret
                    exact ⟨by first | rfl | (simp; done) | (simp [*]; done), by repeat (first | exact Drawn0.refl _ | apply Drawn0.step)⟩
                  · rw [if_neg c11] at H
                    have c11b0 : decide (57 < (rd l0 x7_2)) = false := decide_eq_false c11
                    clear c11
                    have H' := Aside0.mk H
                    clear H
                    have p119 : 0 ≤ (x7_2 : Int) := of_decide_eq_true (by first | (with_reducible assumption) | assumption)
                    have q119 : x7_2 < (l0.length : Int) := of_decide_eq_true (by first | (with_reducible assumption) | assumption)
                    obtain ⟨ad119, e119, hx119_0⟩ := Kd.at_int HR0.out x7_2 p119 q119
                    cases e119
                    replace p119 := eq_true p119
                    replace q119 := eq_true q119
                    have p120 : 0 ≤ (x7_2 : Int) := of_decide_eq_true (by first | (with_reducible assumption) | assumption)
                    have q120 : x7_2 < (l0.length : Int) := of_decide_eq_true (by first | (with_reducible assumption) | assumption)
                    obtain ⟨ad120, e120, hx120_0⟩ := Kd.at_int HR0.out x7_2 p120 q120
                    obtain rfl : ad119 = ad120 := (by injection e120)
                    replace p120 := eq_true p120
                    replace q120 := eq_true q120
                    go_wp2
                    go_roundg k2
                    case measure => have := HJ3.out; have := HK2.out; omega
                    case rel => exact ⟨(wrap64 (x7_2 + 1)), (by first | rfl | (simp; done) | (simp [*]; done)), H', ⟨by have := HJ3.out; have := HK2.out; omega⟩, by repeat (first | exact Drawn0.refl _ | apply Drawn0.step)⟩
              · rw [if_neg c9] at H
                exact absurd H (by simp)
            · rw [if_neg c8] at H
              have c8b0 : decide (x7_2 < (l0.length : Int)) = false := decide_eq_false c8
              clear c8
              obtain rfl := Option.some.inj H
              go_wp2
              go_ret
              exact ⟨by first | rfl | (simp; done) | (simp [*]; done), by repeat (first | exact Drawn0.refl _ | apply Drawn0.step)⟩
end Go.Proofs.YtkjdmbbaacjpmaaDoor.R
end
section
namespace Go.Proofs.YtkjdmbbaacjpmaaDoor.R
open Go.RowKit Go.Proofs.YtkjdmbbaacjpmaaDoorW.PrintWords Go.Proofs.YtkjdmbbaacjpmaaDoorW.PrintLast Go.Proofs.YtkjdmbbaacjpmaaDoorW.PrintMore
attribute [local go_sem] max2_int min2_int max_two min_two max_three min_three max_four min_four
set_option linter.unusedVariables false
set_option linter.unusedSimpArgs false
def arrearsref20_field.l0 : Nat → List Int → Int → Int → Int → Int → Option (Int)
  | 0, _, _, _, _, _ => none
  | k + 1, x0, x1, x2, x7, x8 => if x8 < (wrap64 (x1 + x2)) then (if 0 ≤ x8 then (if x8 < (x0.length : Int) then (arrearsref20_field.l0 k x0 x1 x2 (wrap64 ((wrap64 (10 * x7)) + (((rd x0 x8) - 48) % 256))) (wrap64 (x8 + 1))) else (none)) else (none)) else (some x7)
def arrearsref20_field.f (k : Nat) (l0 : List Int) (a1 : Int) (a2 : Int) : Option (Int) := arrearsref20_field.l0 k l0 a1 a2 0 a1
theorem arrearsref20_field.mono_l : ∀ k, (∀ y0 y1 y2 y3 y4, LeO (arrearsref20_field.l0 k y0 y1 y2 y3 y4) (arrearsref20_field.l0 (k + 1) y0 y1 y2 y3 y4))
  | 0 => fun _ _ _ _ _ r h => by simp [arrearsref20_field.l0] at h
  | k + 1 => by
    have ih0 := arrearsref20_field.mono_l k
    · intro y0 y1 y2 y3 y4
      unfold arrearsref20_field.l0
      repeat' first
      | (with_reducible exact ih0 _ _ _ _ _)
      | (with_reducible exact LeO.refl _)
      | (with_reducible exact LeO.none _)
      | (with_reducible refine LeO.ite ?_ ?_)
      | (with_reducible refine LeO.bind ?_ (fun _ => ?_))
      | exact ih0 _ _ _ _ _
      | exact LeO.none _
      | refine LeO.ite ?_ ?_
      | refine LeO.bind ?_ (fun _ => ?_)
theorem arrearsref20_field.mono : ∀ a0 a1 a2 k, LeO (arrearsref20_field.f k a0 a1 a2) (arrearsref20_field.f (k + 1) a0 a1 a2) := by
  intro a0 a1 a2 k
  have ih0 := arrearsref20_field.mono_l k
  unfold arrearsref20_field.f
  repeat' first
      | (with_reducible exact ih0 _ _ _ _ _)
      | (with_reducible exact LeO.refl _)
      | (with_reducible exact LeO.none _)
      | (with_reducible refine LeO.ite ?_ ?_)
      | (with_reducible refine LeO.bind ?_ (fun _ => ?_))
      | exact ih0 _ _ _ _ _
      | exact LeO.none _
      | refine LeO.ite ?_ ?_
      | refine LeO.bind ?_ (fun _ => ?_)
set_option maxHeartbeats 8000000 in
set_option maxRecDepth 100000 in
theorem arrearsref20_field.calls (k : Nat) (A0 : Option Addr) (c0 : Nat) (l0 : List Int) (a1 : Int) (a2 : Int) (r : Int) (w : World) (hr0 : Kd.C (Kd.int .u8) w A0 l0.length l0) (hc0 : l0.length ≤ c0) (h : arrearsref20_field.f k l0 a1 a2 = some r) :
    Calls Tryd.prog 59 #[.slice A0 l0.length c0, .int .i64 a1, .int .i64 a2] w fun e w' => e = .returned (.int .i64 r) ∧ Drawn0 w w' := by
  have HR0 := Aside0.mk hr0
  have HC0 := Aside0.mk hc0
  clear hr0 hc0
  have H : (arrearsref20_field.l0 k l0 a1 a2 0 a1) = some r := h
  clear h
  have H' := Aside0.mk H
  clear H
  go_enter Tryd.func59, Tryd.ntmps59
  go_wp2
  go_loopg [7, 8] k (fun kq v7 v8 w' => ∃ (x7_1 : Int) (x8_1 : Int), v7 = .int .i64 x7_1 ∧ v8 = .int .i64 x8_1 ∧ Aside0 (arrearsref20_field.l0 kq l0 a1 a2 x7_1 x8_1 = some r) ∧ Aside0 (kq ≤ k) ∧ Drawn0 w w')
  case atStart => exact ⟨(0), (a1), (by first | rfl | (simp; done) | (simp [*]; done)), (by first | rfl | (simp; done) | (simp [*]; done)), H', ⟨Nat.le_refl _⟩, by repeat (first | exact Drawn0.refl _ | apply Drawn0.step)⟩
  case round =>
    clear H'
    try clear p2
    obtain ⟨x7_1, x8_1, rfl, rfl, HA, HK1, ⟨m1, rfl⟩⟩ := hrel
    cases gk with
    | zero => exact absurd HA.out (by simp [arrearsref20_field.l0])
    | succ k1 =>
      have H := HA.out
      clear HA
      simp only [arrearsref20_field.l0] at H
      by_cases c4 : x8_1 < (wrap64 (a1 + a2))
      · rw [if_pos c4] at H
        have c4b0 : decide (x8_1 < (wrap64 (a1 + a2))) = true := decide_eq_true c4
        clear c4
        by_cases c5 : 0 ≤ x8_1
        · rw [if_pos c5] at H
          have c5b0 : decide (0 ≤ x8_1) = true := decide_eq_true c5
          clear c5
          by_cases c6 : x8_1 < (l0.length : Int)
          · rw [if_pos c6] at H
            have c6b0 : decide (x8_1 < (l0.length : Int)) = true := decide_eq_true c6
            clear c6
            have H' := Aside0.mk H
            clear H
            have p121 : 0 ≤ (x8_1 : Int) := of_decide_eq_true (by first | (with_reducible assumption) | assumption)
            have q121 : x8_1 < (l0.length : Int) := of_decide_eq_true (by first | (with_reducible assumption) | assumption)
            obtain ⟨ad121, e121, hx121_0⟩ := Kd.at_int HR0.out x8_1 p121 q121
            cases e121
            replace p121 := eq_true p121
            replace q121 := eq_true q121
            go_wp2
            go_roundg k1
            case measure => have := HK1.out; omega
            case rel => exact ⟨(wrap64 ((wrap64 (10 * x7_1)) + (((rd l0 x8_1) - 48) % 256))), (wrap64 (x8_1 + 1)), (by first | rfl | (simp; done) | (simp [*]; done)), (by first | rfl | (simp; done) | (simp [*]; done)), H', ⟨by have := HK1.out; omega⟩, by repeat (first | exact Drawn0.refl _ | apply Drawn0.step)⟩
          · rw [if_neg c6] at H
            exact absurd H (by simp)
        · rw [if_neg c5] at H
          exact absurd H (by simp)
      · rw [if_neg c4] at H
        have c4b0 : decide (x8_1 < (wrap64 (a1 + a2))) = false := decide_eq_false c4
        clear c4
        obtain rfl := Option.some.inj H
        go_wp2
        go_ret
        exact ⟨by first | rfl | (simp; done) | (simp [*]; done), by repeat (first | exact Drawn0.refl _ | apply Drawn0.step)⟩
end Go.Proofs.YtkjdmbbaacjpmaaDoor.R
end
section
namespace Go.Proofs.YtkjdmbbaacjpmaaDoor.R
open Go.RowKit Go.Proofs.YtkjdmbbaacjpmaaDoorW.PrintWords Go.Proofs.YtkjdmbbaacjpmaaDoorW.PrintLast Go.Proofs.YtkjdmbbaacjpmaaDoorW.PrintMore
attribute [local go_sem] max2_int min2_int max_two min_two max_three min_three max_four min_four
set_option linter.unusedVariables false
set_option linter.unusedSimpArgs false
def arrearsref2_divides.f (a0 : Int) : Option (Bool) := if (Int.tmod a0 4) = 0 then (if (Int.tmod a0 100) = 0 then (some ((Int.tmod a0 400) == 0)) else (some true)) else (some false)
set_option maxHeartbeats 8000000 in
set_option maxRecDepth 100000 in
theorem arrearsref2_divides.calls (a0 : Int) (r : Bool) (w : World) (h : arrearsref2_divides.f a0 = some r) :
    Calls Tryd.prog 63 #[.int .i64 a0] w fun e w' => e = .returned (.bool r) ∧ Drawn0 w w' := by
  have H : (if (Int.tmod a0 4) = 0 then (if (Int.tmod a0 100) = 0 then (some ((Int.tmod a0 400) == 0)) else (some true)) else (some false)) = some r := h
  clear h
  by_cases c2 : (Int.tmod a0 4) = 0
  · rw [if_pos c2] at H
    have c2b0 : ((Int.tmod a0 4) == 0) = true := beq_iff_eq.mpr c2
    have c2b1 : ((Int.tmod a0 4) != 0) = false := bne_eq_false_iff_eq.mpr c2
    clear c2
    by_cases c3 : (Int.tmod a0 100) = 0
    · rw [if_pos c3] at H
      have c3b0 : ((Int.tmod a0 100) == 0) = true := beq_iff_eq.mpr c3
      have c3b1 : ((Int.tmod a0 100) != 0) = false := bne_eq_false_iff_eq.mpr c3
      clear c3
      obtain rfl := Option.some.inj H
      go_enter Tryd.func63, Tryd.ntmps63
      go_wp2
      go_ret
      exact ⟨by first | rfl | (simp; done) | (simp [*]; done), by repeat (first | exact Drawn0.refl _ | apply Drawn0.step)⟩
    · rw [if_neg c3] at H
      have c3b0 : ((Int.tmod a0 100) == 0) = false := beq_eq_false_iff_ne.mpr c3
      have c3b1 : ((Int.tmod a0 100) != 0) = true := bne_iff_ne.mpr c3
      obtain rfl := Option.some.inj H
      go_enter Tryd.func63, Tryd.ntmps63
      go_wp2
      go_ret
      exact ⟨by first | rfl | (simp; done) | (simp [*]; done), by repeat (first | exact Drawn0.refl _ | apply Drawn0.step)⟩
  · rw [if_neg c2] at H
    have c2b0 : ((Int.tmod a0 4) == 0) = false := beq_eq_false_iff_ne.mpr c2
    have c2b1 : ((Int.tmod a0 4) != 0) = true := bne_iff_ne.mpr c2
    obtain rfl := Option.some.inj H
    go_enter Tryd.func63, Tryd.ntmps63
    go_wp2
    go_ret
    exact ⟨by first | rfl | (simp; done) | (simp [*]; done), by repeat (first | exact Drawn0.refl _ | apply Drawn0.step)⟩
end Go.Proofs.YtkjdmbbaacjpmaaDoor.R
end
section
namespace Go.Proofs.YtkjdmbbaacjpmaaDoor.R
open Go.RowKit Go.Proofs.YtkjdmbbaacjpmaaDoorW.PrintWords Go.Proofs.YtkjdmbbaacjpmaaDoorW.PrintLast Go.Proofs.YtkjdmbbaacjpmaaDoorW.PrintMore
attribute [local go_sem] max2_int min2_int max_two min_two max_three min_three max_four min_four
set_option linter.unusedVariables false
set_option linter.unusedSimpArgs false
def arrearsref2_yearLen.f (a0 : Int) : Option (Int) := (arrearsref2_divides.f a0).bind fun t122 => (if t122 = true then (some 366) else (some 365))
set_option maxHeartbeats 8000000 in
set_option maxRecDepth 100000 in
theorem arrearsref2_yearLen.calls (a0 : Int) (r : Int) (w : World) (h : arrearsref2_yearLen.f a0 = some r) :
    Calls Tryd.prog 49 #[.int .i64 a0] w fun e w' => e = .returned (.int .i64 r) ∧ Drawn0 w w' := by
  have H : ((arrearsref2_divides.f a0).bind fun t122 => (if t122 = true then (some 366) else (some 365))) = some r := h
  clear h
  replace H := Option.bind_eq_some_iff.mp H
  obtain ⟨t122, A20, H⟩ := H
  replace H : (if t122 = true then (some 366) else (some 365)) = some r := H
  have A2 := Aside0.mk A20
  clear A20
  by_cases c3 : t122 = true
  · subst c3
    have H1 : (some 366) = some r := by rw [if_pos rfl] at H; exact H
    clear H
    have H := H1
    clear H1
    obtain rfl := Option.some.inj H
    go_enter Tryd.func49, Tryd.ntmps49
    go_wp2_with (first | ((with_reducible refine gate_callee (f := 63) rfl ?_); refine goesL_ (some 4) rfl rfl Tryd.func63 (by kernel_rfl) rfl #[.int .i64 a0] rfl (by (try simp only [List.map_toArray, List.map_cons, List.map_nil]); first | done | rfl | (simp only [List.length_drop, List.length_take]; rfl)) ?_; (with_reducible refine (arrearsref2_divides.calls a0 true _ A2.out).mono ?_); rintro e w' ⟨rfl, ⟨nd, rfl⟩⟩; refine ⟨_, rfl, ?_⟩))
    go_ret
    exact ⟨by first | rfl | (simp; done) | (simp [*]; done), by repeat (first | exact Drawn0.refl _ | apply Drawn0.step)⟩
  · replace c3 := Bool.eq_false_iff.mpr c3
    subst c3
    have H1 : (some 365) = some r := by rw [if_neg (show ¬ (false = true) by decide)] at H; exact H
    clear H
    have H := H1
    clear H1
    obtain rfl := Option.some.inj H
    go_enter Tryd.func49, Tryd.ntmps49
    go_wp2_with (first | ((with_reducible refine gate_callee (f := 63) rfl ?_); refine goesL_ (some 4) rfl rfl Tryd.func63 (by kernel_rfl) rfl #[.int .i64 a0] rfl (by (try simp only [List.map_toArray, List.map_cons, List.map_nil]); first | done | rfl | (simp only [List.length_drop, List.length_take]; rfl)) ?_; (with_reducible refine (arrearsref2_divides.calls a0 false _ A2.out).mono ?_); rintro e w' ⟨rfl, ⟨nd, rfl⟩⟩; refine ⟨_, rfl, ?_⟩))
    go_ret
    exact ⟨by first | rfl | (simp; done) | (simp [*]; done), by repeat (first | exact Drawn0.refl _ | apply Drawn0.step)⟩
end Go.Proofs.YtkjdmbbaacjpmaaDoor.R
end
section
namespace Go.Proofs.YtkjdmbbaacjpmaaDoor.R
open Go.RowKit Go.Proofs.YtkjdmbbaacjpmaaDoorW.PrintWords Go.Proofs.YtkjdmbbaacjpmaaDoorW.PrintLast Go.Proofs.YtkjdmbbaacjpmaaDoorW.PrintMore
attribute [local go_sem] max2_int min2_int max_two min_two max_three min_three max_four min_four
set_option linter.unusedVariables false
set_option linter.unusedSimpArgs false
def arrearsref2_lenOf.f (a0 : Int) (a1 : Int) : Option (Int) := if a1 = 2 then ((arrearsref2_divides.f a0).bind fun t123 => (if t123 = true then (some 29) else (some 28))) else (if a1 = 4 then (some 30) else (if a1 = 6 then (some 30) else (if a1 = 9 then (some 30) else (if a1 = 11 then (some 30) else (some 31)))))
set_option maxHeartbeats 8000000 in
set_option maxRecDepth 100000 in
theorem arrearsref2_lenOf.calls (a0 : Int) (a1 : Int) (r : Int) (w : World) (h : arrearsref2_lenOf.f a0 a1 = some r) :
    Calls Tryd.prog 50 #[.int .i64 a0, .int .i64 a1] w fun e w' => e = .returned (.int .i64 r) ∧ Drawn0 w w' := by
  have H : (if a1 = 2 then ((arrearsref2_divides.f a0).bind fun t123 => (if t123 = true then (some 29) else (some 28))) else (if a1 = 4 then (some 30) else (if a1 = 6 then (some 30) else (if a1 = 9 then (some 30) else (if a1 = 11 then (some 30) else (some 31)))))) = some r := h
  clear h
  by_cases c3 : a1 = 2
  · rw [if_pos c3] at H
    have c3b0 : (a1 == 2) = true := beq_iff_eq.mpr c3
    have c3b1 : (a1 != 2) = false := bne_eq_false_iff_eq.mpr c3
    clear c3
    replace H := Option.bind_eq_some_iff.mp H
    obtain ⟨t123, A40, H⟩ := H
    replace H : (if t123 = true then (some 29) else (some 28)) = some r := H
    have A4 := Aside0.mk A40
    clear A40
    by_cases c5 : t123 = true
    · subst c5
      have H1 : (some 29) = some r := by rw [if_pos rfl] at H; exact H
      clear H
      have H := H1
      clear H1
      obtain rfl := Option.some.inj H
      go_enter Tryd.func50, Tryd.ntmps50
      go_wp2_with (first | ((with_reducible refine gate_callee (f := 63) rfl ?_); refine goesL_ (some 9) rfl rfl Tryd.func63 (by kernel_rfl) rfl #[.int .i64 a0] rfl (by (try simp only [List.map_toArray, List.map_cons, List.map_nil]); first | done | rfl | (simp only [List.length_drop, List.length_take]; rfl)) ?_; (with_reducible refine (arrearsref2_divides.calls a0 true _ A4.out).mono ?_); rintro e w' ⟨rfl, ⟨nd, rfl⟩⟩; refine ⟨_, rfl, ?_⟩))
      go_ret
      exact ⟨by first | rfl | (simp; done) | (simp [*]; done), by repeat (first | exact Drawn0.refl _ | apply Drawn0.step)⟩
    · replace c5 := Bool.eq_false_iff.mpr c5
      subst c5
      have H1 : (some 28) = some r := by rw [if_neg (show ¬ (false = true) by decide)] at H; exact H
      clear H
      have H := H1
      clear H1
      obtain rfl := Option.some.inj H
      go_enter Tryd.func50, Tryd.ntmps50
      go_wp2_with (first | ((with_reducible refine gate_callee (f := 63) rfl ?_); refine goesL_ (some 9) rfl rfl Tryd.func63 (by kernel_rfl) rfl #[.int .i64 a0] rfl (by (try simp only [List.map_toArray, List.map_cons, List.map_nil]); first | done | rfl | (simp only [List.length_drop, List.length_take]; rfl)) ?_; (with_reducible refine (arrearsref2_divides.calls a0 false _ A4.out).mono ?_); rintro e w' ⟨rfl, ⟨nd, rfl⟩⟩; refine ⟨_, rfl, ?_⟩))
      go_ret
      exact ⟨by first | rfl | (simp; done) | (simp [*]; done), by repeat (first | exact Drawn0.refl _ | apply Drawn0.step)⟩
  · rw [if_neg c3] at H
    have c3b0 : (a1 == 2) = false := beq_eq_false_iff_ne.mpr c3
    have c3b1 : (a1 != 2) = true := bne_iff_ne.mpr c3
    by_cases c6 : a1 = 4
    · rw [if_pos c6] at H
      have c6b0 : (a1 == 4) = true := beq_iff_eq.mpr c6
      have c6b1 : (a1 != 4) = false := bne_eq_false_iff_eq.mpr c6
      clear c6
      obtain rfl := Option.some.inj H
      go_enter Tryd.func50, Tryd.ntmps50
      go_wp2
      go_ret
      exact ⟨by first | rfl | (simp; done) | (simp [*]; done), by repeat (first | exact Drawn0.refl _ | apply Drawn0.step)⟩
    · rw [if_neg c6] at H
      have c6b0 : (a1 == 4) = false := beq_eq_false_iff_ne.mpr c6
      have c6b1 : (a1 != 4) = true := bne_iff_ne.mpr c6
      by_cases c7 : a1 = 6
      · rw [if_pos c7] at H
        have c7b0 : (a1 == 6) = true := beq_iff_eq.mpr c7
        have c7b1 : (a1 != 6) = false := bne_eq_false_iff_eq.mpr c7
        clear c7
        obtain rfl := Option.some.inj H
        go_enter Tryd.func50, Tryd.ntmps50
        go_wp2
        go_ret
        exact ⟨by first | rfl | (simp; done) | (simp [*]; done), by repeat (first | exact Drawn0.refl _ | apply Drawn0.step)⟩
      · rw [if_neg c7] at H
        have c7b0 : (a1 == 6) = false := beq_eq_false_iff_ne.mpr c7
        have c7b1 : (a1 != 6) = true := bne_iff_ne.mpr c7
        by_cases c8 : a1 = 9
        · rw [if_pos c8] at H
          have c8b0 : (a1 == 9) = true := beq_iff_eq.mpr c8
          have c8b1 : (a1 != 9) = false := bne_eq_false_iff_eq.mpr c8
          clear c8
          obtain rfl := Option.some.inj H
          go_enter Tryd.func50, Tryd.ntmps50
          go_wp2
          go_ret
          exact ⟨by first | rfl | (simp; done) | (simp [*]; done), by repeat (first | exact Drawn0.refl _ | apply Drawn0.step)⟩
        · rw [if_neg c8] at H
          have c8b0 : (a1 == 9) = false := beq_eq_false_iff_ne.mpr c8
          have c8b1 : (a1 != 9) = true := bne_iff_ne.mpr c8
          by_cases c9 : a1 = 11
          · rw [if_pos c9] at H
            have c9b0 : (a1 == 11) = true := beq_iff_eq.mpr c9
            have c9b1 : (a1 != 11) = false := bne_eq_false_iff_eq.mpr c9
            clear c9
            obtain rfl := Option.some.inj H
            go_enter Tryd.func50, Tryd.ntmps50
            go_wp2
            go_ret
            exact ⟨by first | rfl | (simp; done) | (simp [*]; done), by repeat (first | exact Drawn0.refl _ | apply Drawn0.step)⟩
          · rw [if_neg c9] at H
            have c9b0 : (a1 == 11) = false := beq_eq_false_iff_ne.mpr c9
            have c9b1 : (a1 != 11) = true := bne_iff_ne.mpr c9
            obtain rfl := Option.some.inj H
            go_enter Tryd.func50, Tryd.ntmps50
            go_wp2
            go_ret
            exact ⟨by first | rfl | (simp; done) | (simp [*]; done), by repeat (first | exact Drawn0.refl _ | apply Drawn0.step)⟩
end Go.Proofs.YtkjdmbbaacjpmaaDoor.R
end
section
namespace Go.Proofs.YtkjdmbbaacjpmaaDoor.R
open Go.RowKit Go.Proofs.YtkjdmbbaacjpmaaDoorW.PrintWords Go.Proofs.YtkjdmbbaacjpmaaDoorW.PrintLast Go.Proofs.YtkjdmbbaacjpmaaDoorW.PrintMore
attribute [local go_sem] max2_int min2_int max_two min_two max_three min_three max_four min_four
set_option linter.unusedVariables false
set_option linter.unusedSimpArgs false
def arrearsref2_MonthLen.f (a0 : Int) (a1 : Int) : Option (Int) := if a0 < 1 then (some 0) else (if a0 > 9999 then (some 0) else (if a1 < 1 then (some 0) else (if a1 > 12 then (some 0) else ((arrearsref2_lenOf.f a0 a1).bind fun t124 => (some t124)))))
set_option maxHeartbeats 8000000 in
set_option maxRecDepth 100000 in
theorem arrearsref2_MonthLen.calls (a0 : Int) (a1 : Int) (r : Int) (w : World) (h : arrearsref2_MonthLen.f a0 a1 = some r) :
    Calls Tryd.prog 70 #[.int .i64 a0, .int .i64 a1] w fun e w' => e = .returned (.int .i64 r) ∧ Drawn0 w w' := by
  have H : (if a0 < 1 then (some 0) else (if a0 > 9999 then (some 0) else (if a1 < 1 then (some 0) else (if a1 > 12 then (some 0) else ((arrearsref2_lenOf.f a0 a1).bind fun t124 => (some t124)))))) = some r := h
  clear h
  by_cases c3 : a0 < 1
  · rw [if_pos c3] at H
    have c3b0 : decide (a0 < 1) = true := decide_eq_true c3
    clear c3
    obtain rfl := Option.some.inj H
    go_enter Tryd.func70, Tryd.ntmps70
    go_wp2
    go_ret
    exact ⟨by first | rfl | (simp; done) | (simp [*]; done), by repeat (first | exact Drawn0.refl _ | apply Drawn0.step)⟩
  · rw [if_neg c3] at H
    have c3b0 : decide (a0 < 1) = false := decide_eq_false c3
    clear c3
    by_cases c4 : a0 > 9999
    · rw [if_pos c4] at H
      have c4b0 : decide (9999 < a0) = true := decide_eq_true c4
      clear c4
      obtain rfl := Option.some.inj H
      go_enter Tryd.func70, Tryd.ntmps70
      go_wp2
      go_ret
      exact ⟨by first | rfl | (simp; done) | (simp [*]; done), by repeat (first | exact Drawn0.refl _ | apply Drawn0.step)⟩
    · rw [if_neg c4] at H
      have c4b0 : decide (9999 < a0) = false := decide_eq_false c4
      clear c4
      by_cases c5 : a1 < 1
      · rw [if_pos c5] at H
        have c5b0 : decide (a1 < 1) = true := decide_eq_true c5
        clear c5
        obtain rfl := Option.some.inj H
        go_enter Tryd.func70, Tryd.ntmps70
        go_wp2
        go_ret
        exact ⟨by first | rfl | (simp; done) | (simp [*]; done), by repeat (first | exact Drawn0.refl _ | apply Drawn0.step)⟩
      · rw [if_neg c5] at H
        have c5b0 : decide (a1 < 1) = false := decide_eq_false c5
        clear c5
        by_cases c6 : a1 > 12
        · rw [if_pos c6] at H
          have c6b0 : decide (12 < a1) = true := decide_eq_true c6
          clear c6
          obtain rfl := Option.some.inj H
          go_enter Tryd.func70, Tryd.ntmps70
          go_wp2
          go_ret
          exact ⟨by first | rfl | (simp; done) | (simp [*]; done), by repeat (first | exact Drawn0.refl _ | apply Drawn0.step)⟩
        · rw [if_neg c6] at H
          have c6b0 : decide (12 < a1) = false := decide_eq_false c6
          clear c6
          replace H := Option.bind_eq_some_iff.mp H
          obtain ⟨t124, A70, H⟩ := H
          replace H : (some t124) = some r := H
          have A7 := Aside0.mk A70
          clear A70
          obtain rfl := Option.some.inj H
          go_enter Tryd.func70, Tryd.ntmps70
          go_wp2_with (first | ((with_reducible refine gate_callee (f := 50) rfl ?_); refine goesL_ (some 21) rfl rfl Tryd.func50 (by kernel_rfl) rfl #[.int .i64 a0, .int .i64 a1] rfl (by (try simp only [List.map_toArray, List.map_cons, List.map_nil]); first | done | rfl | (simp only [List.length_drop, List.length_take]; rfl)) ?_; (with_reducible refine (arrearsref2_lenOf.calls a0 a1 t124 _ A7.out).mono ?_); rintro e w' ⟨rfl, ⟨nd, rfl⟩⟩; refine ⟨_, rfl, ?_⟩))
          go_ret
          exact ⟨by first | rfl | (simp; done) | (simp [*]; done), by repeat (first | exact Drawn0.refl _ | apply Drawn0.step)⟩
end Go.Proofs.YtkjdmbbaacjpmaaDoor.R
end
section
namespace Go.Proofs.YtkjdmbbaacjpmaaDoor.R
open Go.RowKit Go.Proofs.YtkjdmbbaacjpmaaDoorW.PrintWords Go.Proofs.YtkjdmbbaacjpmaaDoorW.PrintLast Go.Proofs.YtkjdmbbaacjpmaaDoorW.PrintMore
attribute [local go_sem] max2_int min2_int max_two min_two max_three min_three max_four min_four
set_option linter.unusedVariables false
set_option linter.unusedSimpArgs false
mutual
def arrearsref2_Number.j0 : Nat → Bool → Int → Int → Int → Option (Int × Bool)
  | 0, _, _, _, _ => none
  | k + 1, x20, x126000, x126001, x126002 => if x20 = true then (some (0, false)) else (arrearsref2_Number.l0 k (wrap64 ((wrap64 (Int.tdiv (wrap64 (x126000 - 1)) 400)) * 146097)) (wrap64 ((wrap64 (400 * (wrap64 (Int.tdiv (wrap64 (x126000 - 1)) 400)))) + 1)) x126000 x126001 x126002)
def arrearsref2_Number.l0 : Nat → Int → Int → Int → Int → Int → Option (Int × Bool)
  | 0, _, _, _, _, _ => none
  | k + 1, x5, x6, x126000, x126001, x126002 => if x6 < x126000 then ((arrearsref2_yearLen.f x6).bind fun t127 => (arrearsref2_Number.l0 k (wrap64 (x5 + t127)) (wrap64 (x6 + 1)) x126000 x126001 x126002)) else (arrearsref2_Number.l1 k x5 1 x126000 x126001 x126002)
def arrearsref2_Number.l1 : Nat → Int → Int → Int → Int → Int → Option (Int × Bool)
  | 0, _, _, _, _, _ => none
  | k + 1, x5, x7, x126000, x126001, x126002 => if x7 < x126001 then ((arrearsref2_lenOf.f x126000 x7).bind fun t128 => (arrearsref2_Number.l1 k (wrap64 (x5 + t128)) (wrap64 (x7 + 1)) x126000 x126001 x126002)) else (some (wrap64 (x5 + x126002), true))
end
def arrearsref2_Number.f (k : Nat) (a0_0 : Int) (a0_1 : Int) (a0_2 : Int) : Option (Int × Bool) := if a0_2 < 1 then (arrearsref2_Number.j0 k true a0_0 a0_1 a0_2) else ((arrearsref2_MonthLen.f a0_0 a0_1).bind fun t126 => (arrearsref2_Number.j0 k (decide (a0_2 > t126)) a0_0 a0_1 a0_2))
theorem arrearsref2_Number.mono_l : ∀ k, (∀ y0 y1 y2 y3, LeO (arrearsref2_Number.j0 k y0 y1 y2 y3) (arrearsref2_Number.j0 (k + 1) y0 y1 y2 y3)) ∧ (∀ y0 y1 y2 y3 y4, LeO (arrearsref2_Number.l0 k y0 y1 y2 y3 y4) (arrearsref2_Number.l0 (k + 1) y0 y1 y2 y3 y4)) ∧ (∀ y0 y1 y2 y3 y4, LeO (arrearsref2_Number.l1 k y0 y1 y2 y3 y4) (arrearsref2_Number.l1 (k + 1) y0 y1 y2 y3 y4))
  | 0 => ⟨fun _ _ _ _ r h => by simp [arrearsref2_Number.j0] at h, fun _ _ _ _ _ r h => by simp [arrearsref2_Number.l0] at h, fun _ _ _ _ _ r h => by simp [arrearsref2_Number.l1] at h⟩
  | k + 1 => by
    obtain ⟨ih0, ih1, ih2⟩ := arrearsref2_Number.mono_l k
    refine ⟨?_, ?_, ?_⟩
    · intro y0 y1 y2 y3
      unfold arrearsref2_Number.j0
      repeat' first
      | (with_reducible exact ih0 _ _ _ _)
      | (with_reducible exact ih1 _ _ _ _ _)
      | (with_reducible exact ih2 _ _ _ _ _)
      | (with_reducible exact LeO.refl _)
      | (with_reducible exact LeO.none _)
      | (with_reducible refine LeO.ite ?_ ?_)
      | (with_reducible refine LeO.bind ?_ (fun _ => ?_))
      | exact ih0 _ _ _ _
      | exact ih1 _ _ _ _ _
      | exact ih2 _ _ _ _ _
      | exact LeO.none _
      | refine LeO.ite ?_ ?_
      | refine LeO.bind ?_ (fun _ => ?_)
    · intro y0 y1 y2 y3 y4
      unfold arrearsref2_Number.l0
      repeat' first
      | (with_reducible exact ih0 _ _ _ _)
      | (with_reducible exact ih1 _ _ _ _ _)
      | (with_reducible exact ih2 _ _ _ _ _)
      | (with_reducible exact LeO.refl _)
      | (with_reducible exact LeO.none _)
      | (with_reducible refine LeO.ite ?_ ?_)
      | (with_reducible refine LeO.bind ?_ (fun _ => ?_))
      | exact ih0 _ _ _ _
      | exact ih1 _ _ _ _ _
      | exact ih2 _ _ _ _ _
      | exact LeO.none _
      | refine LeO.ite ?_ ?_
      | refine LeO.bind ?_ (fun _ => ?_)
    · intro y0 y1 y2 y3 y4
      unfold arrearsref2_Number.l1
      repeat' first
      | (with_reducible exact ih0 _ _ _ _)
      | (with_reducible exact ih1 _ _ _ _ _)
      | (with_reducible exact ih2 _ _ _ _ _)
      | (with_reducible exact LeO.refl _)
      | (with_reducible exact LeO.none _)
      | (with_reducible refine LeO.ite ?_ ?_)
      | (with_reducible refine LeO.bind ?_ (fun _ => ?_))
      | exact ih0 _ _ _ _
      | exact ih1 _ _ _ _ _
      | exact ih2 _ _ _ _ _
      | exact LeO.none _
      | refine LeO.ite ?_ ?_
      | refine LeO.bind ?_ (fun _ => ?_)
theorem arrearsref2_Number.mono : ∀ a0 a1 a2 k, LeO (arrearsref2_Number.f k a0 a1 a2) (arrearsref2_Number.f (k + 1) a0 a1 a2) := by
  intro a0 a1 a2 k
  obtain ⟨ih0, ih1, ih2⟩ := arrearsref2_Number.mono_l k
  unfold arrearsref2_Number.f
  repeat' first
      | (with_reducible exact ih0 _ _ _ _)
      | (with_reducible exact ih1 _ _ _ _ _)
      | (with_reducible exact ih2 _ _ _ _ _)
      | (with_reducible exact LeO.refl _)
      | (with_reducible exact LeO.none _)
      | (with_reducible refine LeO.ite ?_ ?_)
      | (with_reducible refine LeO.bind ?_ (fun _ => ?_))
      | exact ih0 _ _ _ _
      | exact ih1 _ _ _ _ _
      | exact ih2 _ _ _ _ _
      | exact LeO.none _
      | refine LeO.ite ?_ ?_
      | refine LeO.bind ?_ (fun _ => ?_)
set_option maxHeartbeats 8000000 in
set_option maxRecDepth 100000 in
theorem arrearsref2_Number.calls (k : Nat) (a0_0 : Int) (a0_1 : Int) (a0_2 : Int) (r1 : Int) (r2 : Bool) (w : World) (h : arrearsref2_Number.f k a0_0 a0_1 a0_2 = some (r1, r2)) :
    Calls Tryd.prog 60 #[.agg #[.int .i64 a0_0, .int .i64 a0_1, .int .i64 a0_2]] w fun e w' => e = .returned (.tuple #[.int .i64 r1, .bool r2]) ∧ Below w.heap.size w w' := by
  have hu59 := Tryd.underlying59
  have HB := Aside0.mk (Below.refl w.heap.size w)
  have H : (if a0_2 < 1 then (arrearsref2_Number.j0 k true a0_0 a0_1 a0_2) else ((arrearsref2_MonthLen.f a0_0 a0_1).bind fun t126 => (arrearsref2_Number.j0 k (decide (a0_2 > t126)) a0_0 a0_1 a0_2))) = some (r1, r2) := h
  clear h
  have HC2 := Aside0.mk H
  clear H
  go_enter Tryd.func60, Tryd.ntmps60
  go_upto_region 1 with (first | ((with_reducible refine gate_dst (N := 1) rfl ?_); refine box_event ?hg (N := 1) ?hd (cs := #[.int .i64 a0_0, .int .i64 a0_1, .int .i64 a0_2]) (t := 59) ?hr ?_; (case hd => rfl); (case hg => rfl); (case hr => first | (go_simp; done) | (go_simp; rfl)); intro gb125 hg w3 hbox hb; have n0_ := Aside0.mk (below_step (by repeat (first | (with_reducible first | exact HB.out | apply below_alloc | apply pw_below_drewN | apply below_drew1) | exact HB.out)) hb); have n1_ := Aside0.mk (hbox); have n2_ := Aside0.mk ((by rw [hg]; exact (below_size (by repeat (first | (with_reducible first | exact HB.out | apply below_alloc | apply pw_below_drewN | apply below_drew1) | exact HB.out))) : w.heap.size ≤ gb125)); have n3_ := Aside0.mk ((by rw [hg]; exact (below_size (by repeat (first | (with_reducible first | exact HB.out | apply below_alloc | apply pw_below_drewN | apply below_drew1) | exact HB.out))) : w.heap.size ≤ gb125)); clear HB; have HB := n0_; have BK125 := n1_; have GW125 := n2_; have GE125 := n3_; clear n0_ n1_ n2_ n3_; clear hb hbox hg))
  repeat (go_quiet (first | ((with_reducible refine gate_dst (N := 1) rfl ?_); refine box_event ?hg (N := 1) ?hd (cs := #[.int .i64 a0_0, .int .i64 a0_1, .int .i64 a0_2]) (t := 59) ?hr ?_; (case hd => rfl); (case hg => rfl); (case hr => first | (go_simp; done) | (go_simp; rfl)); intro gb125 hg w3 hbox hb; have n0_ := Aside0.mk (below_step (by repeat (first | (with_reducible first | exact HB.out | apply below_alloc | apply pw_below_drewN | apply below_drew1) | exact HB.out)) hb); have n1_ := Aside0.mk (hbox); have n2_ := Aside0.mk ((by rw [hg]; exact (below_size (by repeat (first | (with_reducible first | exact HB.out | apply below_alloc | apply pw_below_drewN | apply below_drew1) | exact HB.out))) : w.heap.size ≤ gb125)); have n3_ := Aside0.mk ((by rw [hg]; exact (below_size (by repeat (first | (with_reducible first | exact HB.out | apply below_alloc | apply pw_below_drewN | apply below_drew1) | exact HB.out))) : w.heap.size ≤ gb125)); clear HB; have HB := n0_; have BK125 := n1_; have GW125 := n2_; have GE125 := n3_; clear n0_ n1_ n2_ n3_; clear hb hbox hg)); go_upto_region 1 with (first | ((with_reducible refine gate_dst (N := 1) rfl ?_); refine box_event ?hg (N := 1) ?hd (cs := #[.int .i64 a0_0, .int .i64 a0_1, .int .i64 a0_2]) (t := 59) ?hr ?_; (case hd => rfl); (case hg => rfl); (case hr => first | (go_simp; done) | (go_simp; rfl)); intro gb125 hg w3 hbox hb; have n0_ := Aside0.mk (below_step (by repeat (first | (with_reducible first | exact HB.out | apply below_alloc | apply pw_below_drewN | apply below_drew1) | exact HB.out)) hb); have n1_ := Aside0.mk (hbox); have n2_ := Aside0.mk ((by rw [hg]; exact (below_size (by repeat (first | (with_reducible first | exact HB.out | apply below_alloc | apply pw_below_drewN | apply below_drew1) | exact HB.out))) : w.heap.size ≤ gb125)); have n3_ := Aside0.mk ((by rw [hg]; exact (below_size (by repeat (first | (with_reducible first | exact HB.out | apply below_alloc | apply pw_below_drewN | apply below_drew1) | exact HB.out))) : w.heap.size ≤ gb125)); clear HB; have HB := n0_; have BK125 := n1_; have GW125 := n2_; have GE125 := n3_; clear n0_ n1_ n2_ n3_; clear hb hbox hg)))
  (try simp only [Act.put, List.setIfInBounds_toArray, List.set_cons_zero, List.set_cons_succ])
  go_cut [20] (fun v20 wc => ∃ (kq : Nat) (x20_1 : Bool), v20 = .bool x20_1 ∧ Aside0 (arrearsref2_Number.j0 kq x20_1 a0_0 a0_1 a0_2 = some (r1, r2)) ∧ Aside0 (kq ≤ k) ∧ Aside0 (wc.heap[gb125]? = some (.cells #[.int .i64 a0_0, .int .i64 a0_1, .int .i64 a0_2] 59 (0, 0))) ∧ Aside0 (Below w.heap.size w wc))
  case first =>
    have H := HC2.out
    clear HC2
    by_cases c4 : a0_2 < 1
    · rw [if_pos c4] at H
      have c4b0 : decide (a0_2 < 1) = true := decide_eq_true c4
      clear c4
      (first | rw [c4b0] | (simp only [i64_w, i32_w]; rw [c4b0]) | skip)
      have H' := Aside0.mk H
      clear H
      have hcz5_0 : w3.cell? ⟨gb125, 0, none⟩ = some (.int .i64 a0_0) := (blk_cell BK125.out 0).trans rfl
      have hcz5_1 : w3.cell? ⟨gb125, 1, none⟩ = some (.int .i64 a0_1) := (blk_cell BK125.out 1).trans rfl
      have hcz5_2 : w3.cell? ⟨gb125, 2, none⟩ = some (.int .i64 a0_2) := (blk_cell BK125.out 2).trans rfl
      have hfz5_0 := blk_frozen BK125.out 0
      have hfz5_1 := blk_frozen BK125.out 1
      have hfz5_2 := blk_frozen BK125.out 2
      go_wp2
      repeat (go_quiet (fail); try go_wp2)
      go_meet
      case rel => exact ⟨_, (true), (by first | rfl | (simp; done) | (simp [*]; done)), H', ⟨by first | omega | exact Nat.le_refl _⟩, ⟨by (with_reducible repeat (first | refine blk_drewN ?_ _ | refine blk_drew ?_ | refine blk_alloc ?_ _)); exact BK125.out⟩, ⟨by repeat (first | (with_reducible first | exact HB.out | apply below_alloc | apply pw_below_drewN | apply below_drew1 | refine below_set ?_ GE125.out) | exact HB.out)⟩⟩
    · rw [if_neg c4] at H
      have c4b0 : decide (a0_2 < 1) = false := decide_eq_false c4
      clear c4
      (first | rw [c4b0] | (simp only [i64_w, i32_w]; rw [c4b0]) | skip)
      replace H := Option.bind_eq_some_iff.mp H
      obtain ⟨t126, A60, H⟩ := H
      replace H : (arrearsref2_Number.j0 k (decide (a0_2 > t126)) a0_0 a0_1 a0_2) = some (r1, r2) := H
      have A6 := Aside0.mk A60
      clear A60
      have H' := Aside0.mk H
      clear H
      have hcz7_0 : w3.cell? ⟨gb125, 0, none⟩ = some (.int .i64 a0_0) := (blk_cell BK125.out 0).trans rfl
      have hcz7_1 : w3.cell? ⟨gb125, 1, none⟩ = some (.int .i64 a0_1) := (blk_cell BK125.out 1).trans rfl
      have hcz7_2 : w3.cell? ⟨gb125, 2, none⟩ = some (.int .i64 a0_2) := (blk_cell BK125.out 2).trans rfl
      have hfz7_0 := blk_frozen BK125.out 0
      have hfz7_1 := blk_frozen BK125.out 1
      have hfz7_2 := blk_frozen BK125.out 2
      go_wp2_with (first | (go_at_call 70; (with_reducible refine (arrearsref2_MonthLen.calls a0_0 a0_1 t126 _ A6.out).mono ?_); rintro e w' ⟨rfl, ⟨nd, rfl⟩⟩; (try first | exact ⟨rfl, _, World.drewN_drewN _ _ _⟩ | exact ⟨rfl, _, Eq.trans (World.drewN_drewN _ _ _) (congrArg (World.drewN _) (Nat.add_assoc _ _ _))⟩)))
      repeat (go_quiet (first | (go_at_call 70; (with_reducible refine (arrearsref2_MonthLen.calls a0_0 a0_1 t126 _ A6.out).mono ?_); rintro e w' ⟨rfl, ⟨nd, rfl⟩⟩; (try first | exact ⟨rfl, _, World.drewN_drewN _ _ _⟩ | exact ⟨rfl, _, Eq.trans (World.drewN_drewN _ _ _) (congrArg (World.drewN _) (Nat.add_assoc _ _ _))⟩))); try go_wp2_with (first | (go_at_call 70; (with_reducible refine (arrearsref2_MonthLen.calls a0_0 a0_1 t126 _ A6.out).mono ?_); rintro e w' ⟨rfl, ⟨nd, rfl⟩⟩; (try first | exact ⟨rfl, _, World.drewN_drewN _ _ _⟩ | exact ⟨rfl, _, Eq.trans (World.drewN_drewN _ _ _) (congrArg (World.drewN _) (Nat.add_assoc _ _ _))⟩))))
      go_meet
      case rel => exact ⟨_, (decide (a0_2 > t126)), (by first | rfl | (simp; done) | (simp [*]; done)), H', ⟨by first | omega | exact Nat.le_refl _⟩, ⟨by (with_reducible repeat (first | refine blk_drewN ?_ _ | refine blk_drew ?_ | refine blk_alloc ?_ _)); exact BK125.out⟩, ⟨by repeat (first | (with_reducible first | exact HB.out | apply below_alloc | apply pw_below_drewN | apply below_drew1 | refine below_set ?_ GE125.out) | exact HB.out)⟩⟩
  case rest =>
    clear HC2
    try clear p2
    try clear c4
    try clear c4b0
    try clear c6
    try clear hcz5_0
    try clear hcz5_1
    try clear hcz5_2
    try clear hcz7_0
    try clear hcz7_1
    try clear hcz7_2
    try clear hfz5_0
    try clear hfz5_1
    try clear hfz5_2
    try clear hfz7_0
    try clear hfz7_1
    try clear hfz7_2
    obtain ⟨kq, x20_1, rfl, HA, HJ1, BK125, HB⟩ := hcut
    cases kq with
    | zero => exact absurd HA.out (by simp [arrearsref2_Number.j0])
    | succ kj1 =>
      have H := HA.out
      clear HA
      simp only [arrearsref2_Number.j0] at H
      by_cases c8 : x20_1 = true
      · subst c8
        have H1 : (some (0, false)) = some (r1, r2) := by rw [if_pos rfl] at H; exact H
        clear H
        have H := H1
        clear H1
        simp only [Option.some.injEq, Prod.mk.injEq] at H
        obtain ⟨rfl, rfl⟩ := H
        go_wp2
        repeat (go_quiet (fail); try go_wp2)
        go_ret2
        exact ⟨by first | rfl | (simp [errW_none, errW_some] <;> rfl) | (simp [*, errW_none, errW_some] <;> rfl), by repeat (first | (with_reducible first | exact HB.out | apply below_alloc | apply pw_below_drewN | apply below_drew1 | refine below_set ?_ GE125.out) | exact HB.out)⟩
      · replace c8 := Bool.eq_false_iff.mpr c8
        subst c8
        have H1 : (arrearsref2_Number.l0 kj1 (wrap64 ((wrap64 (Int.tdiv (wrap64 (a0_0 - 1)) 400)) * 146097)) (wrap64 ((wrap64 (400 * (wrap64 (Int.tdiv (wrap64 (a0_0 - 1)) 400)))) + 1)) a0_0 a0_1 a0_2) = some (r1, r2) := by rw [if_neg (show ¬ (false = true) by decide)] at H; exact H
        clear H
        have H := H1
        clear H1
        have H' := Aside0.mk H
        clear H
        have hcz9_0 : wc.cell? ⟨gb125, 0, none⟩ = some (.int .i64 a0_0) := (blk_cell BK125.out 0).trans rfl
        have hcz9_1 : wc.cell? ⟨gb125, 1, none⟩ = some (.int .i64 a0_1) := (blk_cell BK125.out 1).trans rfl
        have hcz9_2 : wc.cell? ⟨gb125, 2, none⟩ = some (.int .i64 a0_2) := (blk_cell BK125.out 2).trans rfl
        have hfz9_0 := blk_frozen BK125.out 0
        have hfz9_1 := blk_frozen BK125.out 1
        have hfz9_2 := blk_frozen BK125.out 2
        go_wp2
        repeat (go_quiet (fail); try go_wp2)
        go_loopg [5, 6] kj1 (fun kq v5 v6 w' => ∃ (x5_2 : Int) (x6_2 : Int), v5 = .int .i64 x5_2 ∧ v6 = .int .i64 x6_2 ∧ Aside0 (arrearsref2_Number.l0 kq x5_2 x6_2 a0_0 a0_1 a0_2 = some (r1, r2)) ∧ Aside0 (kq ≤ kj1) ∧ Aside0 (w'.heap[gb125]? = some (.cells #[.int .i64 a0_0, .int .i64 a0_1, .int .i64 a0_2] 59 (0, 0))) ∧ Aside0 (Below w.heap.size w w'))
        case atStart => exact ⟨(wrap64 ((wrap64 (Int.tdiv (wrap64 (a0_0 - 1)) 400)) * 146097)), (wrap64 ((wrap64 (400 * (wrap64 (Int.tdiv (wrap64 (a0_0 - 1)) 400)))) + 1)), (by first | rfl | (simp; done) | (simp [*]; done)), (by first | rfl | (simp; done) | (simp [*]; done)), H', ⟨Nat.le_refl _⟩, ⟨by (with_reducible repeat (first | refine blk_drewN ?_ _ | refine blk_drew ?_ | refine blk_alloc ?_ _)); exact BK125.out⟩, ⟨by repeat (first | (with_reducible first | exact HB.out | apply below_alloc | apply pw_below_drewN | apply below_drew1 | refine below_set ?_ GE125.out) | exact HB.out)⟩⟩
        case round =>
          clear H'
          try clear p2
          try clear c4
          try clear c4b0
          try clear c6
          try clear p6
          try clear c8
          try clear hcz5_0
          try clear hcz5_1
          try clear hcz5_2
          try clear hcz7_0
          try clear hcz7_1
          try clear hcz7_2
          try clear hcz9_0
          try clear hcz9_1
          try clear hcz9_2
          try clear hfz5_0
          try clear hfz5_1
          try clear hfz5_2
          try clear hfz7_0
          try clear hfz7_1
          try clear hfz7_2
          try clear hfz9_0
          try clear hfz9_1
          try clear hfz9_2
          try clear p2
          obtain ⟨x5_2, x6_2, rfl, rfl, HA, HK2, BK125, HB⟩ := hrel
          cases gk with
          | zero => exact absurd HA.out (by simp [arrearsref2_Number.l0])
          | succ k2 =>
            have H := HA.out
            clear HA
            simp only [arrearsref2_Number.l0] at H
            by_cases c10 : x6_2 < a0_0
            · rw [if_pos c10] at H
              have c10b0 : decide (x6_2 < a0_0) = true := decide_eq_true c10
              clear c10
              replace H := Option.bind_eq_some_iff.mp H
              obtain ⟨t127, A110, H⟩ := H
              replace H : (arrearsref2_Number.l0 k2 (wrap64 (x5_2 + t127)) (wrap64 (x6_2 + 1)) a0_0 a0_1 a0_2) = some (r1, r2) := H
              have A11 := Aside0.mk A110
              clear A110
              have H' := Aside0.mk H
              clear H
              have hcz12_0 : wr.cell? ⟨gb125, 0, none⟩ = some (.int .i64 a0_0) := (blk_cell BK125.out 0).trans rfl
              have hcz12_1 : wr.cell? ⟨gb125, 1, none⟩ = some (.int .i64 a0_1) := (blk_cell BK125.out 1).trans rfl
              have hcz12_2 : wr.cell? ⟨gb125, 2, none⟩ = some (.int .i64 a0_2) := (blk_cell BK125.out 2).trans rfl
              have hfz12_0 := blk_frozen BK125.out 0
              have hfz12_1 := blk_frozen BK125.out 1
              have hfz12_2 := blk_frozen BK125.out 2
              go_wp2_with (first | (go_at_call 49; (with_reducible refine (arrearsref2_yearLen.calls x6_2 t127 _ A11.out).mono ?_); rintro e w' ⟨rfl, ⟨nd, rfl⟩⟩; (try first | exact ⟨rfl, _, World.drewN_drewN _ _ _⟩ | exact ⟨rfl, _, Eq.trans (World.drewN_drewN _ _ _) (congrArg (World.drewN _) (Nat.add_assoc _ _ _))⟩)))
              repeat (go_quiet (first | (go_at_call 49; (with_reducible refine (arrearsref2_yearLen.calls x6_2 t127 _ A11.out).mono ?_); rintro e w' ⟨rfl, ⟨nd, rfl⟩⟩; (try first | exact ⟨rfl, _, World.drewN_drewN _ _ _⟩ | exact ⟨rfl, _, Eq.trans (World.drewN_drewN _ _ _) (congrArg (World.drewN _) (Nat.add_assoc _ _ _))⟩))); try go_wp2_with (first | (go_at_call 49; (with_reducible refine (arrearsref2_yearLen.calls x6_2 t127 _ A11.out).mono ?_); rintro e w' ⟨rfl, ⟨nd, rfl⟩⟩; (try first | exact ⟨rfl, _, World.drewN_drewN _ _ _⟩ | exact ⟨rfl, _, Eq.trans (World.drewN_drewN _ _ _) (congrArg (World.drewN _) (Nat.add_assoc _ _ _))⟩))))
              go_roundg k2
              case measure => have := HJ1.out; have := HK2.out; omega
              case rel => exact ⟨(wrap64 (x5_2 + t127)), (wrap64 (x6_2 + 1)), (by first | rfl | (simp; done) | (simp [*]; done)), (by first | rfl | (simp; done) | (simp [*]; done)), H', ⟨by have := HJ1.out; have := HK2.out; omega⟩, ⟨by (with_reducible repeat (first | refine blk_drewN ?_ _ | refine blk_drew ?_ | refine blk_alloc ?_ _)); exact BK125.out⟩, ⟨by repeat (first | (with_reducible first | exact HB.out | apply below_alloc | apply pw_below_drewN | apply below_drew1 | refine below_set ?_ GE125.out) | exact HB.out)⟩⟩
            · rw [if_neg c10] at H
              have c10b0 : decide (x6_2 < a0_0) = false := decide_eq_false c10
              clear c10
              have H' := Aside0.mk H
              clear H
              have hcz13_0 : wr.cell? ⟨gb125, 0, none⟩ = some (.int .i64 a0_0) := (blk_cell BK125.out 0).trans rfl
              have hcz13_1 : wr.cell? ⟨gb125, 1, none⟩ = some (.int .i64 a0_1) := (blk_cell BK125.out 1).trans rfl
              have hcz13_2 : wr.cell? ⟨gb125, 2, none⟩ = some (.int .i64 a0_2) := (blk_cell BK125.out 2).trans rfl
              have hfz13_0 := blk_frozen BK125.out 0
              have hfz13_1 := blk_frozen BK125.out 1
              have hfz13_2 := blk_frozen BK125.out 2
              go_wp2
              repeat (go_quiet (fail); try go_wp2)
              go_loopg [5, 7] k2 (fun kq v5 v7 w' => ∃ (x5_3 : Int) (x7_3 : Int), v5 = .int .i64 x5_3 ∧ v7 = .int .i64 x7_3 ∧ Aside0 (arrearsref2_Number.l1 kq x5_3 x7_3 a0_0 a0_1 a0_2 = some (r1, r2)) ∧ Aside0 (kq ≤ k2) ∧ Aside0 (w'.heap[gb125]? = some (.cells #[.int .i64 a0_0, .int .i64 a0_1, .int .i64 a0_2] 59 (0, 0))) ∧ Aside0 (Below w.heap.size w w'))
              case atStart => exact ⟨(x5_2), (1), (by first | rfl | (simp; done) | (simp [*]; done)), (by first | rfl | (simp; done) | (simp [*]; done)), H', ⟨Nat.le_refl _⟩, ⟨by (with_reducible repeat (first | refine blk_drewN ?_ _ | refine blk_drew ?_ | refine blk_alloc ?_ _)); exact BK125.out⟩, ⟨by repeat (first | (with_reducible first | exact HB.out | apply below_alloc | apply pw_below_drewN | apply below_drew1 | refine below_set ?_ GE125.out) | exact HB.out)⟩⟩
              case round =>
                clear H'
                try clear c1
                try clear p2
                try clear c4
                try clear c4b0
                try clear c6
                try clear p6
                try clear c8
                try clear c10
                try clear c10b0
                try clear hcz12_0
                try clear hcz12_1
                try clear hcz12_2
                try clear hcz13_0
                try clear hcz13_1
                try clear hcz13_2
                try clear hcz5_0
                try clear hcz5_1
                try clear hcz5_2
                try clear hcz7_0
                try clear hcz7_1
                try clear hcz7_2
                try clear hcz9_0
                try clear hcz9_1
                try clear hcz9_2
                try clear hfz12_0
                try clear hfz12_1
                try clear hfz12_2
                try clear hfz13_0
                try clear hfz13_1
                try clear hfz13_2
                try clear hfz5_0
                try clear hfz5_1
                try clear hfz5_2
                try clear hfz7_0
                try clear hfz7_1
                try clear hfz7_2
                try clear hfz9_0
                try clear hfz9_1
                try clear hfz9_2
                try clear p2
                try clear p6
                obtain ⟨x5_3, x7_3, rfl, rfl, HA, HK3, BK125, HB⟩ := hrel
                cases gk with
                | zero => exact absurd HA.out (by simp [arrearsref2_Number.l1])
                | succ k3 =>
                  have H := HA.out
                  clear HA
                  simp only [arrearsref2_Number.l1] at H
                  by_cases c14 : x7_3 < a0_1
                  · rw [if_pos c14] at H
                    have c14b0 : decide (x7_3 < a0_1) = true := decide_eq_true c14
                    clear c14
                    replace H := Option.bind_eq_some_iff.mp H
                    obtain ⟨t128, A150, H⟩ := H
                    replace H : (arrearsref2_Number.l1 k3 (wrap64 (x5_3 + t128)) (wrap64 (x7_3 + 1)) a0_0 a0_1 a0_2) = some (r1, r2) := H
                    have A15 := Aside0.mk A150
                    clear A150
                    have H' := Aside0.mk H
                    clear H
                    have hcz16_0 : wr.cell? ⟨gb125, 0, none⟩ = some (.int .i64 a0_0) := (blk_cell BK125.out 0).trans rfl
                    have hcz16_1 : wr.cell? ⟨gb125, 1, none⟩ = some (.int .i64 a0_1) := (blk_cell BK125.out 1).trans rfl
                    have hcz16_2 : wr.cell? ⟨gb125, 2, none⟩ = some (.int .i64 a0_2) := (blk_cell BK125.out 2).trans rfl
                    have hfz16_0 := blk_frozen BK125.out 0
                    have hfz16_1 := blk_frozen BK125.out 1
                    have hfz16_2 := blk_frozen BK125.out 2
                    go_wp2_with (first | (go_at_call 50; (with_reducible refine (arrearsref2_lenOf.calls a0_0 x7_3 t128 _ A15.out).mono ?_); rintro e w' ⟨rfl, ⟨nd, rfl⟩⟩; (try first | exact ⟨rfl, _, World.drewN_drewN _ _ _⟩ | exact ⟨rfl, _, Eq.trans (World.drewN_drewN _ _ _) (congrArg (World.drewN _) (Nat.add_assoc _ _ _))⟩)))
                    repeat (go_quiet (first | (go_at_call 50; (with_reducible refine (arrearsref2_lenOf.calls a0_0 x7_3 t128 _ A15.out).mono ?_); rintro e w' ⟨rfl, ⟨nd, rfl⟩⟩; (try first | exact ⟨rfl, _, World.drewN_drewN _ _ _⟩ | exact ⟨rfl, _, Eq.trans (World.drewN_drewN _ _ _) (congrArg (World.drewN _) (Nat.add_assoc _ _ _))⟩))); try go_wp2_with (first | (go_at_call 50; (with_reducible refine (arrearsref2_lenOf.calls a0_0 x7_3 t128 _ A15.out).mono ?_); rintro e w' ⟨rfl, ⟨nd, rfl⟩⟩; (try first | exact ⟨rfl, _, World.drewN_drewN _ _ _⟩ | exact ⟨rfl, _, Eq.trans (World.drewN_drewN _ _ _) (congrArg (World.drewN _) (Nat.add_assoc _ _ _))⟩))))
                    go_roundg k3
                    case measure => have := HJ1.out; have := HK2.out; have := HK3.out; omega
                    case rel => exact ⟨(wrap64 (x5_3 + t128)), (wrap64 (x7_3 + 1)), (by first | rfl | (simp; done) | (simp [*]; done)), (by first | rfl | (simp; done) | (simp [*]; done)), H', ⟨by have := HJ1.out; have := HK2.out; have := HK3.out; omega⟩, ⟨by (with_reducible repeat (first | refine blk_drewN ?_ _ | refine blk_drew ?_ | refine blk_alloc ?_ _)); exact BK125.out⟩, ⟨by repeat (first | (with_reducible first | exact HB.out | apply below_alloc | apply pw_below_drewN | apply below_drew1 | refine below_set ?_ GE125.out) | exact HB.out)⟩⟩
                  · rw [if_neg c14] at H
                    have c14b0 : decide (x7_3 < a0_1) = false := decide_eq_false c14
                    clear c14
                    simp only [Option.some.injEq, Prod.mk.injEq] at H
                    obtain ⟨rfl, rfl⟩ := H
                    have hcz17_0 : wr.cell? ⟨gb125, 0, none⟩ = some (.int .i64 a0_0) := (blk_cell BK125.out 0).trans rfl
                    have hcz17_1 : wr.cell? ⟨gb125, 1, none⟩ = some (.int .i64 a0_1) := (blk_cell BK125.out 1).trans rfl
                    have hcz17_2 : wr.cell? ⟨gb125, 2, none⟩ = some (.int .i64 a0_2) := (blk_cell BK125.out 2).trans rfl
                    have hfz17_0 := blk_frozen BK125.out 0
                    have hfz17_1 := blk_frozen BK125.out 1
                    have hfz17_2 := blk_frozen BK125.out 2
                    go_wp2
                    repeat (go_quiet (fail); try go_wp2)
                    go_ret2
                    exact ⟨by first | rfl | (simp [errW_none, errW_some] <;> rfl) | (simp [*, errW_none, errW_some] <;> rfl), by repeat (first | (with_reducible first | exact HB.out | apply below_alloc | apply pw_below_drewN | apply below_drew1 | refine below_set ?_ GE125.out) | exact HB.out)⟩
end Go.Proofs.YtkjdmbbaacjpmaaDoor.R
end
